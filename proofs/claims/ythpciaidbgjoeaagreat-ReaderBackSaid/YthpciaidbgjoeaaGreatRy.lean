/- Specs. No condition beyond the theorems' own. -/
import Derived.Test.YthpciaidbgjoeaaGreatRx
set_option linter.unusedVariables false
set_option linter.unusedSimpArgs false
namespace Go.Proofs.YthpciaidbgjoeaaGreat
open Go.DI
def svF (S : List dH) (sv lb c : Nat) : Prop := c = sv \/ c = lb \/ ∃ B ∈ S, B.has c
structure SvS (g : H) (sv lb : Nat) (S : List dH) (X : List fM) : Prop where
 svs : aDZ g sv lb (S.map dH.p)
 len : X.length = S.length
 at_ : ∀ (i : Nat) (B : dH) (x : fM), S[i]? = some B -> X[i]? = some x -> lZ g B x
 dis : S.Pairwise (λ A B => ∀ x y, A.has x -> B.has y -> x < y)
 gt : ∀ B ∈ S, ∀ x, B.has x -> sv < x /\ x < lb
 lt : sv < lb
section
variable {g g' : H} {sv lb : Nat} {S : List dH} {X : List fM}
theorem SvS.x (q : SvS g sv lb S X) {i : Nat} {B : dH} (hi : S[i]? = some B) : ∃ x, X[i]? = some x /\ lZ g B x := by
 have h := (List.getElem?_eq_some_iff.1 hi).1; have h2 : i < X.length := by rw [q.len]; exact h
 exact ⟨X[i], List.getElem?_eq_getElem h2, q.at_ i B _ hi (List.getElem?_eq_getElem h2)⟩
theorem SvS.in_ (q : SvS g sv lb S X) {c : Nat} (hc : svF S sv lb c) : c < g.size := by
 rcases hc with rfl | rfl | ⟨B, hB, hc⟩
 · exact q.svs.1.1
 · exact q.svs.2.1.1
 · obtain ⟨i, hi⟩ := List.getElem?_of_mem hB; obtain ⟨x, _, h⟩ := q.x hi; exact h.lt hc
theorem SvS.off (q : SvS g sv lb S X) {F : Nat -> Prop} (k : nL F g g') (hF : ∀ c, svF S sv lb c -> ¬ F c) : SvS g' sv lb S X :=
 ⟨⟨q.svs.1.off k (hF _ (.inl rfl)), kR q.svs.2.1 k (hF _ (.inr (.inl rfl))), q.svs.2.2⟩, q.len, λ i B x hi hx => (q.at_ i B x hi hx).off k λ c hc => hF c (.inr (.inr ⟨B, List.mem_of_getElem? hi, hc⟩)), q.dis, q.gt, q.lt⟩
theorem SvS.grown (q : SvS g sv lb S X) (k : bM g g') : SvS g' sv lb S X := q.off (k.off λ _ => False) λ _ _ => id
theorem aZd {S : List dH} (d : S.Pairwise (λ A B => ∀ x y, A.has x -> B.has y -> x < y)) {i j : Nat} {A B : dH} (hi : S[i]? = some A) (hj : S[j]? = some B) (hij : i ≠ j) {c : Nat} (ha : A.has c) : ¬ B.has c := by
 intro hb; obtain ⟨h1, rfl⟩ := List.getElem?_eq_some_iff.1 hi; obtain ⟨h2, rfl⟩ := List.getElem?_eq_some_iff.1 hj; rw [List.pairwise_iff_getElem] at d; rcases Nat.lt_or_gt_of_ne hij with h | h
 · have := d i j h1 h2 h c c ha hb; omega
 · have := d j i h2 h1 h c c hb ha; omega
theorem SvS.set (q : SvS g sv lb S X) {F : Nat -> Prop} (k : nL F g g') {i : Nat} {B : dH} (hi : S[i]? = some B) (hF : ∀ c, F c -> B.has c) {x : fM} (hx : lZ g' B x) : SvS g' sv lb S (X.set i x) :=
 ⟨⟨q.svs.1.off k λ h => by have := (q.gt B (List.mem_of_getElem? hi) _ (hF _ h)).1; omega, kR q.svs.2.1 k λ h => by have := (q.gt B (List.mem_of_getElem? hi) _ (hF _ h)).2; omega, q.svs.2.2⟩, by rw [List.length_set]; exact q.len, λ j A y hj hy => by
   rw [List.getElem?_set] at hy; by_cases e : i = j
   · subst e; rw [if_pos rfl] at hy; split at hy
     · cases hy; rw [hi] at hj; cases hj; exact hx
     · cases hy
   · rw [if_neg e] at hy; exact (q.at_ j A y hj hy).off k λ c hc hf => aZd q.dis hj hi (λ h => e h.symm) hc (hF c hf), q.dis, q.gt, q.lt⟩
theorem aYQ (q : SvS g sv lb S X) {i n st ix : Nat} {B : dH} {body : Ln} (hi : S[i]? = some B) (hx : X[i]? = some (lU n)) (hn : 9 <= n) (hs : st < 2147483648) (h8 : ix < 8) (ok : aW body = true) (hl : body.length <= 512) :
   W (wP [.ptr sv 0, .int .i64 (.ofNat i), .agg (qC st ix), .str body] g) λ v g' => v = .int .i64 (.ofNat 0) /\ nL (svF S sv lb) g g' /\ ∃ x, tR x st ix body /\ x.dn = false /\ x.ls = false /\ SvS g' sv lb S (X.set i x) := by
 have hA := q.at_ i B _ hi hx; obtain ⟨PB, pb, ps⟩ := bEy.call; have hmem := List.mem_of_getElem? hi; have res := bDO (h := g) (a := .ptr sv 0) (b := .int .i64 (.ofNat i)) (st := st) (ix := ix) (f := B.f) (body := body) (F := λ c => c = B.b \/ c = B.mp \/ c = B.bs) (Q := λ h4 => ∃ x, tR x st ix body /\ x.dn = false /\ x.ls = false /\ lZ h4 B x)
   (λ h2 k => aIq (q.grown k).svs hi (hA.grown k) rfl rfl) (λ h2 k => by
     obtain ⟨c, o, f, nn⟩ := hA.grown k; obtain ⟨n9, hn9⟩ : ∃ m, n / 9 = m + 1 := ⟨n / 9 - 1, by omega⟩
     obtain ⟨h4, whole, hd, c', e1, f4, w1, w2, w3, w4, w5, k4⟩ := ps B.f B.d B.b B.mp B.bs st ix 0 body (uT (n / 9)) (List.replicate n gF) c h2 f hs h8 ok hl (by simp [uT, hn9, List.replicate_succ, List.findIdx?_cons, fg0]) (by
       rw [List.findIdx?_eq_none_iff]; intro e he; rw [List.eq_of_mem_replicate he]; rfl)
     refine ⟨_, h4, by rw [pb]; exact e1, rfl, k4, _, aRL hn hl w1 w2 w3 w4 w5 false false, rfl, rfl, c', o.off k4 (by rintro (h | h | h) <;> simp_all), f4, nn⟩)
   (λ c hc => hA.lt (by rcases hc with rfl | rfl | rfl <;> simp [dH.has])) (λ h4 h5 c ⟨x, a1, a2, a3, a4⟩ hc k => ⟨x, a1, a2, a3, a4.off (k.off (F := λ y => y = c) rfl) λ y hy e => by
     have := hA.lt hy; omega⟩)
 refine W.mono res ?_
 rintro v g' ⟨rfl, k, x, a1, a2, a3, a4⟩
 exact ⟨rfl, k.weak λ c _ hc => .inr (.inr ⟨B, hmem, by rcases hc with rfl | rfl | rfl <;> simp [dH.has]⟩), x, a1, a2, a3, q.set k hi (λ c hc => by rcases hc with rfl | rfl | rfl <;> simp [dH.has]) a4⟩
theorem aYR (q : SvS g sv lb S X) {i st ix : Nat} {B : dH} {x : fM} {body : Ln} (hi : S[i]? = some B) (hx : X[i]? = some x) (hh : tR x st ix body) :
   W (qK [.ptr sv 0, .int .i64 (.ofNat i), .agg (qC st ix)] g) λ v g' => v = (if (x.dn || x.ls) = true then .tup [.str [], .int .i64 (.ofNat 8)] else .tup [.str body, .int .i64 (.ofNat 0)]) /\ bM g g' := by
 have hA := q.at_ i B _ hi hx; by_cases hd : (x.dn || x.ls) = true
 · rw [if_pos hd]; exact aTN (λ h2 k => aLm (q.grown k).svs hi (hA.grown k) hd) λ h2 k => aLn (q.grown k).svs hi (hA.grown k) hd
 · rw [if_neg hd]; obtain ⟨PB, pb, ps⟩ := bEz.call; simp only [Bool.or_eq_true, not_or, Bool.not_eq_true] at hd; refine bEi (f := B.f) (λ h2 k => aIq (q.grown k).svs hi (hA.grown k) hd.1 hd.2) λ h2 k => ?_
   obtain ⟨c, o, f, nn⟩ := hA.grown k; obtain ⟨h4, e1, k4⟩ := (ps B.f B.d B.b B.mp B.bs st ix x.M x.L c h2 f hh.ok).2 0 _ hh.i hh.e hh.sz; refine ⟨_, h4, by rw [pb]; exact e1, ?_, k4⟩
   rw [show 0 * 9 + 1 = 1 from rfl, hh.r]
theorem aSR (q : SvS g sv lb S X) {E : bF} (hE : E 33 = some (S33 E)) {i : Nat} {B : dH} {x : fM} (hi : S[i]? = some B) (hx : X[i]? = some x) (hl : x.ls = false) (on : Bool) :
   W (S11 E [.ptr sv 0, .int .i64 (.ofNat i), .bool on] g) λ v g' => v = .bool true /\ nL (svF S sv lb) g g' /\ SvS g' sv lb S (X.set i { x with dn := on }) := by
 have hA := q.at_ i B _ hi hx; obtain ⟨c, o, f, nn⟩ := hA; rw [hl] at o; have hmem := List.mem_of_getElem? hi; have bA : ∀ args m, aC E 33 args m = S33 E args m := λ args m => aU hE args m
 show W (aGb E (.ptr sv 0) (.int .i64 (.ofNat i)) (.bool on) g) _; unfold aGb; refine sN bA (yS q.svs (uN hi)) ?_
 rintro _ gg ⟨rfl, rfl⟩
 repeat' (first | with_reducible refine sT ?_ | with_reducible refine sF ?_ | with_reducible refine g1 ?_ | with_reducible refine g2 ?_ | with_reducible refine g3 ?_ | with_reducible refine g4 ?_ | ((with_reducible apply sV); first | exact aB.read (by assumption) (by rfl) | exact aB.readN (by assumption) (Nat.le_of_ble_eq_true rfl) | exact eG (by omega) | exact eH (by omega) | exact gtT (by omega) | exact gtF (by omega) | exact eI (by omega) | exact eJ (by omega) | exact geT (by omega) | exact geF (by omega) | exact dZ (by omega) | exact eK (by omega) | exact eE (by omega) | exact eF (by omega) | exact aD (by omega) | exact bT (by omega) | exact aE (by omega) (by omega) | exact aG (by omega) _ | exact aI _ _ _ _ | exact aJ _ _ _ _ | exact aF _ _ _ | exact rfl) | exact W.ret ⟨rfl, rfl⟩ | with_reducible refine W.ret ?_)
 refine sS1 (j := 2) (v := .bool on) o (Nat.le_of_ble_eq_true rfl) rfl λ gh o2 k2 => ?_
 repeat' (first | with_reducible refine sT ?_ | with_reducible refine sF ?_ | with_reducible refine g1 ?_ | with_reducible refine g2 ?_ | with_reducible refine g3 ?_ | with_reducible refine g4 ?_ | ((with_reducible apply sV); first | exact aB.read (by assumption) (by rfl) | exact aB.readN (by assumption) (Nat.le_of_ble_eq_true rfl) | exact eG (by omega) | exact eH (by omega) | exact gtT (by omega) | exact gtF (by omega) | exact eI (by omega) | exact eJ (by omega) | exact geT (by omega) | exact geF (by omega) | exact dZ (by omega) | exact eK (by omega) | exact eE (by omega) | exact eF (by omega) | exact aD (by omega) | exact bT (by omega) | exact aE (by omega) (by omega) | exact aG (by omega) _ | exact aI _ _ _ _ | exact aJ _ _ _ _ | exact aF _ _ _ | exact rfl) | exact W.ret ⟨rfl, rfl⟩ | with_reducible refine W.ret ?_)
 have k3 := k2.off (F := λ y => y = B.p) rfl
 refine ⟨rfl, k3.weak λ c _ hc => .inr (.inr ⟨B, hmem, .inl hc⟩), q.set k3 hi (λ c hc => .inl hc) ⟨c, ?_, f.off k3 (λ e => nn.2.2.2.1 e.symm) (λ e => nn.1 e.symm) (λ e => nn.2.1 e.symm) (λ e => nn.2.2.1 e.symm) (λ e => nn.2.2.2.2 e.symm), nn⟩⟩
 rw [<- hl] at o2; exact o2
end
end Go.Proofs.YthpciaidbgjoeaaGreat
