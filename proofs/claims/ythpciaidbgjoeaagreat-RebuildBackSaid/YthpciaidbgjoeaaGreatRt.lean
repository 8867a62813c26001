/- Specs. No condition beyond the theorems' own. -/
import Derived.Test.YthpciaidbgjoeaaGreatRs
set_option linter.unusedVariables false
set_option linter.unusedSimpArgs false
namespace Go.Proofs.YthpciaidbgjoeaaGreat
open Go.DI
section
variable {V : Vl} {O : Nat -> Prop} {A : Re} {h g : H}
theorem WR.ofW {x y : Option (DV × H)} (w : ∀ v h', x = some (v, h') -> W y λ w g' => ∃ A', xH O A g A' g' /\ HR V O A' h' g' /\ rl V A' v = some w) : WR V O A g x y := λ v h' e => by
 obtain ⟨u, g', e1, A', e2, e3, e4⟩ := w v h' e; exact ⟨A', u, g', e1, e2, e3, e4⟩
theorem tD (r : HR V O A h g) {g' : H} (k : aX g g') : HR V O A h g' /\ xH O A g A g' := r.grow k.size k.get
theorem qQ.or {F G F' : bC} (h1 : qQ V F F') (h2 : qQ V G F') : qQ V (orF F G) F' := by
 intro O A h g args args' r ha v h' e; unfold orF at e; cases hf : F args h with
 | none => rw [hf] at e; exact h2 O A h g args args' r ha v h' e
 | some p =>
   rw [hf] at e; cases e; exact h1 O A h g args args' r ha v h' hf
theorem sR {E E' : aQ} (hE : fZ V E E') (r : HR V O A h g) {f : Nat} {args args' : List DV} (ha : gQ V A args = some args') {v : DV} {h' : H} (hs : aB E f args h = some (v, h')) {kk : DV -> H -> Option (DV × H)} {Q : DV -> H -> Prop}
   (k : ∀ A' w g', xH O A g A' g' -> HR V O A' h' g' -> rl V A' v = some w -> W (kk w g') Q) : W (wK (aB E' f args' g) kk) Q := by
 obtain ⟨A', w, g', e1, e2, e3, e4⟩ := pF hE r ha hs; exact sW e1 (k A' w g' e2 e3 e4)
end
theorem cO {B : aQ} {T : Tr (aQ -> bC)} {f : Nat} {s : aQ -> bC} (hB : B f = none) (hT : T.at_ f = some s) (n : Nat) : SE B T (n + 1) f = some (s (SE B T n)) := by
 show (Option.rec (motive := λ _ => Option bC) (Option.rec (motive := λ _ => Option bC) none (λ s => some (s (SE B T n))) (T.at_ f)) some (B f) : Option bC) = _
 rw [hB, hT]
theorem aVw (V : Vl) (j : Nat) : fZ V Ez (SE base table (j + 30)) := aHr aCJ aCK j (λ f F h => by cases h) 30
section
variable {V : Vl} {O : Nat -> Prop} {A A' : Re} {h g h' g' : H}
theorem hld (r : HR V O A h g) {b c j : Nat} {v : DV} (hb : A b = some c) (hv : rdCell h.get b j = some v) : ∃ w, aF g.get (.ptr c j) = some w /\ rl V A v = some w := by
 obtain ⟨w, e1, e2⟩ := sP r.obj hb hv; exact ⟨w, by simp only [aF, bX, e1], e2⟩
theorem oS (r : HR V O A h g) {c : Nat} (hc : rng O A c) : c < g.size := by
 obtain ⟨b, e, _⟩ := hc; exact (r.dom b c e).2
theorem rY (s : xH O A g A' g') {c : Nat} (hc : rng O A' c) : rng O A c \/ g.size <= c := by
 obtain ⟨b, e, ho⟩ := hc; rcases s.new b c e with h | h
 · exact .inl ⟨b, h, ho⟩
 · exact .inr h
theorem rck {R : Type} {b : Bool} {x : Option R} (h : b = true) : rK b x = x := by rw [h]; rfl
theorem gBT {b : Bool} (h : b = true) : gB (.bool true) true b = true := by rw [h]; rfl
theorem rcI {o : Option DV} {v : DV} (h : o = some v) (hv : gL v v = true) : rcK o v = true := by rw [h]; exact hv
theorem bPw (k : IntKind) (n : Int) : gL (.int k n) (.int k n) = true := by simp [gL]
end
end Go.Proofs.YthpciaidbgjoeaaGreat
