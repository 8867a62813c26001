/- Specs. No condition beyond the theorems' own. -/
import Derived.Test.YthpciaidbgjoeaaGreatRy
set_option linter.unusedVariables false
set_option linter.unusedSimpArgs false
namespace Go.Proofs.YthpciaidbgjoeaaGreat
open Go.DI
def aZH (B : bC) : Prop := ∀ (s : Ln) (u : Nat) (h : H), aP s = true -> s.length <= 4000 -> 2 <= u -> u <= 8 -> jQ s u <= 512 ->
 ∃ (v : DV) (h' : H), B [.str s, .int .i64 (.ofNat u)] h = some (.tup [v, .int .i64 (.ofNat 0)], h') /\ bM h.size h' v (dR (tT s u)) /\ dE h.size h h'
theorem aMr {E : aQ} (hW : fK E 56 rM) (hL : fK E 57 rP) (hC : fK E 58 aRT) (hP : fK E 59 aQH) (hA : fK E 60 aAq) (hT : fK E 61 vF) : aZH (S30 E) := by
 obtain ⟨B1, b1, s1⟩ := hW.call; obtain ⟨B2, b2, s2⟩ := hL.call; obtain ⟨B3, b3, s3⟩ := hC.call; obtain ⟨B4, b4, s4⟩ := hP.call; intro s u h hs hl h2 h8 hn'; have e0 : S30 E [.str s, .int .i64 (.ofNat u)] h = aRB E (.str s) (.int .i64 (.ofNat u)) h := rfl; rw [e0]; unfold aRB; rw [b1, s1, aV, gI, aA, rS h2 h8]; have sl := s2 s.length u h (by omega) h2 h8
 have d2 : decide (65536 < s.length) = false := by simp; omega
 have hn : ¬ 512 < eP s.length u := by unfold jQ at hn'; omega
 obtain ⟨v, h', c1, c2, c3⟩ := s3 (max (jQ s u) 1) s h (by omega) (by omega) (by omega)
 have p1 := s4 (jQ s u) [] h' (by omega) (by simp)
 have hz : jL [] (jQ s u) = List.replicate (jQ s u) 0 := by unfold jL; simp
 rw [hz] at p1; have hle := aFC (s := s) h2; obtain ⟨d3, d4⟩ := yG h2 hs; obtain ⟨v', h'', a1, a2, a3⟩ := aMs hA hT (n0 := h.size) h2 h8 hn' (u - 1 - (mO s u).length) (aK - (u - 1 - (mO s u).length + 1)) (mO s u) v h' (by omega) (λ t ht => d4 t (by unfold mX; simp [ht])) c3.size c2
 rw [show aK - (u - 1 - (mO s u).length + 1) + (u - 1 - (mO s u).length + 1) = aK from by unfold aK; omega] at a1
 refine ⟨v', h'', ?_, a2, c3.trans a3⟩; show bK (.bool false) _ _ = _; simp only [cQ, aA, b2, sl, aV, eY, d2, jO, decide_eq_false hn, eJ]; rw [aW, aW, yS, aA, b3]; rw [show eP s.length u = jQ s u from rfl, c1, aV, lP, aA, lO, aA, b4, p1, aV, lP, aA, lO, aA]
 exact a1
theorem aEf {B : aQ} {T : Tr (aQ -> bC)} {f : Nat} {F : bC} (hB : B f = some F) (n : Nat) : SE B T (n + 1) f = some F := by
 show (Option.rec (motive := λ _ => Option bC) (Option.rec (motive := λ _ => Option bC) none (λ s => some (s (SE B T n))) (T.at_ f)) some (B f) : Option bC) = _
 rw [hB]
section
variable {n : Nat} {hs h' : H} {A : Re} {g g' : H} {pa pm sv lb : Nat} {S : List cZ} {X X' : List eX}
end
end Go.Proofs.YthpciaidbgjoeaaGreat
