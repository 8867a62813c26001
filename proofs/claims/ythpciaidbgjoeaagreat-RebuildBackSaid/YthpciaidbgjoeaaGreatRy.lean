/- Specs. No condition beyond the theorems' own. -/
import Derived.Test.YthpciaidbgjoeaaGreatRx
set_option linter.unusedVariables false
set_option linter.unusedSimpArgs false
namespace Go.Proofs.YthpciaidbgjoeaaGreat
open Go.DI
def svF (S : List cZ) (sv lb c : Nat) : Prop := c = sv \/ c = lb \/ ∃ B ∈ S, B.has c
structure SvS (g : H) (sv lb : Nat) (S : List cZ) (X : List eX) : Prop where
 svs : aFQ g sv lb (S.map cZ.p)
 len : X.length = S.length
 at_ : ∀ (i : Nat) (B : cZ) (x : eX), S[i]? = some B -> X[i]? = some x -> lX g B x
 dis : S.Pairwise (λ A B => ∀ x y, A.has x -> B.has y -> x < y)
 gt : ∀ B ∈ S, ∀ x, B.has x -> sv < x /\ x < lb
 lt : sv < lb
section
variable {g g' : H} {sv lb : Nat} {S : List cZ} {X : List eX}
theorem SvS.x (q : SvS g sv lb S X) {i : Nat} {B : cZ} (hi : S[i]? = some B) : ∃ x, X[i]? = some x /\ lX g B x := by
 have h := (List.getElem?_eq_some_iff.1 hi).1; have h2 : i < X.length := by rw [q.len]; exact h
 exact ⟨X[i], List.getElem?_eq_getElem h2, q.at_ i B _ hi (List.getElem?_eq_getElem h2)⟩
theorem SvS.in_ (q : SvS g sv lb S X) {c : Nat} (hc : svF S sv lb c) : c < g.size := by
 rcases hc with rfl | rfl | ⟨B, hB, hc⟩
 · exact q.svs.1.1
 · exact q.svs.2.1.1
 · obtain ⟨i, hi⟩ := List.getElem?_of_mem hB; obtain ⟨x, _, h⟩ := q.x hi; exact h.lt hc
theorem SvS.off (q : SvS g sv lb S X) {F : Nat -> Prop} (k : fJ F g g') (hF : ∀ c, svF S sv lb c -> ¬ F c) : SvS g' sv lb S X :=
 ⟨⟨q.svs.1.off k (hF _ (.inl rfl)), kO q.svs.2.1 k (hF _ (.inr (.inl rfl))), q.svs.2.2⟩, q.len, λ i B x hi hx => (q.at_ i B x hi hx).off k λ c hc => hF c (.inr (.inr ⟨B, List.mem_of_getElem? hi, hc⟩)), q.dis, q.gt, q.lt⟩
theorem SvS.grown (q : SvS g sv lb S X) (k : aX g g') : SvS g' sv lb S X := q.off (k.off λ _ => False) λ _ _ => id
theorem bBr {S : List cZ} (d : S.Pairwise (λ A B => ∀ x y, A.has x -> B.has y -> x < y)) {i j : Nat} {A B : cZ} (hi : S[i]? = some A) (hj : S[j]? = some B) (hij : i ≠ j) {c : Nat} (ha : A.has c) : ¬ B.has c := by
 intro hb; obtain ⟨h1, rfl⟩ := List.getElem?_eq_some_iff.1 hi; obtain ⟨h2, rfl⟩ := List.getElem?_eq_some_iff.1 hj; rw [List.pairwise_iff_getElem] at d; rcases Nat.lt_or_gt_of_ne hij with h | h
 · have := d i j h1 h2 h c c ha hb; omega
 · have := d j i h2 h1 h c c hb ha; omega
theorem SvS.set (q : SvS g sv lb S X) {F : Nat -> Prop} (k : fJ F g g') {i : Nat} {B : cZ} (hi : S[i]? = some B) (hF : ∀ c, F c -> B.has c) {x : eX} (hx : lX g' B x) : SvS g' sv lb S (X.set i x) :=
 ⟨⟨q.svs.1.off k λ h => by have := (q.gt B (List.mem_of_getElem? hi) _ (hF _ h)).1; omega, kO q.svs.2.1 k λ h => by have := (q.gt B (List.mem_of_getElem? hi) _ (hF _ h)).2; omega, q.svs.2.2⟩, by rw [List.length_set]; exact q.len, λ j A y hj hy => by
   rw [List.getElem?_set] at hy; by_cases e : i = j
   · subst e; rw [if_pos rfl] at hy; split at hy
     · cases hy; rw [hi] at hj; cases hj; exact hx
     · cases hy
   · rw [if_neg e] at hy; exact (q.at_ j A y hj hy).off k λ c hc hf => bBr q.dis hj hi (λ h => e h.symm) hc (hF c hf), q.dis, q.gt, q.lt⟩
theorem aUf (q : SvS g sv lb S X) {E : aQ} (hE : E 33 = some (S33 E)) {i : Nat} {B : cZ} {x : eX} (hi : S[i]? = some B) (hx : X[i]? = some x) (hl : x.ls = false) (on : Bool) :
   W (S11 E [.ptr sv 0, .int .i64 (.ofNat i), .bool on] g) λ v g' => v = .bool true /\ fJ (svF S sv lb) g g' /\ SvS g' sv lb S (X.set i { x with dn := on }) := by
 have hA := q.at_ i B _ hi hx; obtain ⟨c, o, f, nn⟩ := hA; rw [hl] at o; have hmem := List.mem_of_getElem? hi; have bA : ∀ args m, aB E 33 args m = S33 E args m := λ args m => aT hE args m
 show W (aGi E (.ptr sv 0) (.int .i64 (.ofNat i)) (.bool on) g) _; unfold aGi; refine sN bA (vS q.svs (qY hi)) ?_
 rintro _ gg ⟨rfl, rfl⟩
 repeat' (first | (with_reducible first | refine sT ?_ | refine sF ?_ | refine g1 ?_ | refine g2 ?_ | refine g3 ?_ | refine g4 ?_) | ((with_reducible apply sV); exact dF) | exact W.ret ⟨rfl, rfl⟩ | with_reducible refine W.ret ?_)
 refine sS1 (j := 2) (v := .bool on) o (Nat.le_of_ble_eq_true rfl) rfl λ gh o2 k2 => ?_
 repeat' (first | (with_reducible first | refine sT ?_ | refine sF ?_ | refine g1 ?_ | refine g2 ?_ | refine g3 ?_ | refine g4 ?_) | ((with_reducible apply sV); exact dF) | exact W.ret ⟨rfl, rfl⟩ | with_reducible refine W.ret ?_)
 have k3 := k2.off (F := λ y => y = B.p) rfl
 refine ⟨rfl, k3.weak λ c _ hc => .inr (.inr ⟨B, hmem, .inl hc⟩), q.set k3 hi (λ c hc => .inl hc) ⟨c, ?_, f.off k3 (λ e => nn.2.2.2.1 e.symm) (λ e => nn.1 e.symm) (λ e => nn.2.1 e.symm) (λ e => nn.2.2.1 e.symm) (λ e => nn.2.2.2.2 e.symm), nn⟩⟩
 rw [<- hl] at o2; exact o2
end
end Go.Proofs.YthpciaidbgjoeaaGreat
