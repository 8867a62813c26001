/- Specs. No condition beyond the theorems' own. -/
import Derived.Test.YthpciaidbgjoeaaGreatRu
set_option linter.unusedVariables false
set_option linter.unusedSimpArgs false
namespace Go.Proofs.YthpciaidbgjoeaaGreat
open Go.DI
section
variable {E : aQ} {ρ : Tr DV} {h h' : H} {R : Type} {k : Tr DV -> H -> Option R} {p : Pa}
theorem xgN {o : vN} {ob : eE} {mk : Nat -> DV} (e : cG o ρ h.get = some (.new ob mk)) : dN E ⟨some p, none, .e o⟩ ρ h k = k (Tr.set (mk h.size) p ρ) (h.push ob) := by
 simp only [dN, cP, cond_true, odo, oA, e, H.pushK_eq, Option.bind_some, aBP, Tr.setK_eq]
theorem xgV {o : vN} {v : DV} (e : cG o ρ h.get = some (.val v)) : dN E ⟨some p, none, .e o⟩ ρ h k = k (Tr.set v p ρ) h := by
 simp only [dN, cP, cond_true, odo, oA, e, Option.bind_some, aBP, Tr.setK_eq]
theorem xgC {f : Nat} {xs : List aU} {v : DV} (e : aB E f (xs.map (ev ρ)) h = some (v, h')) : dN E ⟨some p, none, .c (.f f xs)⟩ ρ h k = k (Tr.set v p ρ) h' := by
 simp only [dN, cP, cond_true, odo, cdo, e, Option.bind_some, aBP, Tr.setK_eq]
theorem xgW {o : WOp} {v : DV} (e : wdo o ρ h = some (v, h')) : dN E ⟨none, none, .w o⟩ ρ h k = k ρ h' := by
 simp only [dN, cP, cond_true, odo, e, Option.bind_some, aBP]
theorem xr0 {i : Nat} {d : DG} {sy : Bool} {l pre : List DR} : dW E (⟨i, d, [], sy⟩ :: l) pre ρ h k = dN E d ρ h λ ρ h => dW E l (⟨i, d, [], sy⟩ :: pre) ρ h k := rfl
theorem xr1 {i q : Nat} {d : DG} {sy : Bool} {l pre : List DR} : dW E (⟨i, d, [q], sy⟩ :: l) pre ρ h k = dN E d ρ h λ ρ h => bif dY pre ρ h q then dW E l (⟨i, d, [q], sy⟩ :: pre) ρ h k else none := by
 show dN E d ρ h (λ ρ h => bif (dY pre ρ h q && true) then dW E l (⟨i, d, [q], sy⟩ :: pre) ρ h k else none) = _
 simp only [Bool.and_true]
theorem xrN {pre : List DR} : dW E [] pre ρ h k = k ρ h := rfl
end
def pZ (st ix : Nat) : List DV := [.int .i64 (.ofNat st), .int .i64 (.ofNat ix)]
theorem aUy (st ix : Nat) : gL (.agg (pZ st ix)) (.agg (pZ st ix)) = true := by simp [pZ, gL, nC]
theorem aSv {st ix : Nat} {a b d : DV} {h h1 h2 : H} (e1 : h1 = h.push (.blk ⟨2, 2, false, true, Tr.ofL (pZ st ix)⟩)) (e2 : h2 = h1.push (.blk ⟨1, 1, false, true, Tr.ofL [.int .i64 (.ofNat 0)]⟩)) :
   qK EG G63 [a, b, .agg (pZ st ix), d] h = some (Tr.set (.fn (.func 94) [] [.ptr h1.size 0]) p9 (Tr.set (.ptr h1.size 0) p8 (Tr.set (.ptr h.size 0) p6 (Tr.ofL [a, b, .agg (pZ st ix), d]))), h2) := by
 subst e1 e2; have : qK EG G63 [a, b, .agg (pZ st ix), d] h = dN EG ⟨some p6, none, .e (.box (.r p2))⟩ (Tr.ofL [a, b, .agg (pZ st ix), d]) h λ ρ h => dN EG ⟨some p8, none, .e (.alc 1 1 (.list [(.int .i64 (.ofNat 0))]))⟩ ρ h λ ρ h =>
   dN EG ⟨some p9, none, .e (.mkF (.func 94) [] [(.r p8)])⟩ ρ h λ ρ h => some (ρ, h) := rfl
 rw [this, xgN (ob := .blk ⟨2, 2, false, true, Tr.ofL (pZ st ix)⟩) (mk := λ k => .ptr k 0) rfl, xgN (ob := .blk ⟨1, 1, false, true, Tr.ofL [.int .i64 (.ofNat 0)]⟩) (mk := λ k => .ptr k 0) rfl, xgV (v := .fn (.func 94) [] [.ptr _ 0]) rfl]
section
variable {E : aQ} {ρ : Tr DV} {h h' : H} {R : Type} {k : Tr DV -> H -> Option R} {p : Pa} {i q : Nat} {sy : Bool} {l pre : List DR} {y : Option R}
theorem rV {o : vN} {v : DV} (e : cG o ρ h.get = some (.val v)) (r : dW E l (⟨i, ⟨some p, none, .e o⟩, [], sy⟩ :: pre) (Tr.set v p ρ) h k = y) : dW E (⟨i, ⟨some p, none, .e o⟩, [], sy⟩ :: l) pre ρ h k = y := by
 rw [xr0, xgV e]; exact r
theorem rC0 {f : Nat} {xs : List aU} {v : DV} (e : aB E f (xs.map (ev ρ)) h = some (v, h')) (r : dW E l (⟨i, ⟨some p, none, .c (.f f xs)⟩, [], sy⟩ :: pre) (Tr.set v p ρ) h' k = y) : dW E (⟨i, ⟨some p, none, .c (.f f xs)⟩, [], sy⟩ :: l) pre ρ h k = y := by
 rw [xr0, xgC e]; exact r
theorem rC1 {f : Nat} {xs : List aU} {v : DV} (e : aB E f (xs.map (ev ρ)) h = some (v, h')) (c : dY pre (Tr.set v p ρ) h' q = true) (r : dW E l (⟨i, ⟨some p, none, .c (.f f xs)⟩, [q], sy⟩ :: pre) (Tr.set v p ρ) h' k = y) : dW E (⟨i, ⟨some p, none, .c (.f f xs)⟩, [q], sy⟩ :: l) pre ρ h k = y := by
 rw [xr1, xgC e, c]; exact r
theorem rW0 {o : WOp} {v : DV} (e : wdo o ρ h = some (v, h')) (r : dW E l (⟨i, ⟨none, none, .w o⟩, [], sy⟩ :: pre) ρ h' k = y) : dW E (⟨i, ⟨none, none, .w o⟩, [], sy⟩ :: l) pre ρ h k = y := by
 rw [xr0, xgW e]; exact r
end
theorem qY {i : Nat} {S : List cZ} {B : cZ} (hi : S[i]? = some B) : (S.map cZ.p)[i]? = some B.p := by rw [List.getElem?_map, hi]; rfl
theorem bQb : EG 33 = some (S33 (SE pI table (aK - 1))) := by kernel_rfl
theorem aJM : EG 96 = some (S96 (SE pI table (aK - 1))) := by kernel_rfl
theorem bFf : SE pI table (aK - 1) 33 = some (S33 (SE pI table (aK - 2))) := by kernel_rfl
theorem aCD {h : H} {sv lb i : Nat} {S : List cZ} {B : cZ} {X : eX} (hs : aFQ h sv lb (S.map cZ.p)) (hi : S[i]? = some B) (hx : lX h B X) (hd : X.dn = false) (hl : X.ls = false) : aB EG 96 [.ptr sv 0, .int .i64 (.ofNat i)] h = some (.ptr B.f 0, h) := by
 obtain ⟨v, h', e, rfl, rfl⟩ := vS (E := SE pI table (aK - 2)) hs (qY hi); obtain ⟨c, o, _⟩ := hx; rw [hd, hl] at o; have : W (S96 (SE pI table (aK - 1)) [.ptr sv 0, .int .i64 (.ofNat i)] h') λ v h'' => v = .ptr B.f 0 /\ h'' = h' := by
   show W (aGd (SE pI table (aK - 1)) (.ptr sv 0) (.int .i64 (.ofNat i)) h') _; unfold aGd aQJ aYA; rw [aT bFf, e, aV]
   repeat' (first | (with_reducible first | refine sT ?_ | refine sF ?_ | refine g1 ?_ | refine g2 ?_ | refine g3 ?_ | refine g4 ?_) | ((with_reducible apply sV); exact dF) | exact W.ret ⟨rfl, rfl⟩ | with_reducible refine W.ret ?_)
 obtain ⟨v, h'', e2, rfl, rfl⟩ := this; rw [aT aJM]; exact e2
theorem bGM {h : H} {a b : DV} {st ix f : Nat} {body : Ln} {F : Nat -> Prop} {Q : H -> Prop} (hst : ∀ h2, aX h h2 -> aB EG 96 [a, b] h2 = some (.ptr f 0, h2))
   (hp : ∀ h2, aX h h2 -> W (aB EG 97 [.ptr f 0, .agg (pZ st ix), .str body, .int .i64 (.negSucc 0)] h2) λ v h4 => v = .int .i64 (.ofNat 0) /\ fJ F h2 h4 /\ Q h4)
   (hF : ∀ c, F c -> c < h.size) (hQ : ∀ h4 h5 c, Q h4 -> h.size <= c -> qS c h4 h5 -> Q h5) :
   W (oG [a, b, .agg (pZ st ix), .str body] h) λ v h' => v = .int .i64 (.ofNat 0) /\ fJ F h h' /\ Q h' := by
 obtain ⟨h1, e1, q1, o1⟩ := cV h 2 2 (pZ st ix) rfl; obtain ⟨h2, e2, q2, o2⟩ := cV h1 1 1 [.int .i64 (.ofNat 0)] rfl; have z1 : h1.size = h.size + 1 := by rw [e1]; exact H.size_push _ _
 obtain ⟨v, h4, f4, rfl, k4, qq⟩ := hp h2 (q1.trans q2); have n0 : ¬ F h.size := λ hh => by have := hF _ hh; omega
 have n1 : ¬ F h1.size := λ hh => by have := hF _ hh; omega
 have p1 := o1.grown q2; have p4 := p1.off k4 n0; have p2 := o2.off k4 n1; obtain ⟨h5, f5, p5, k5⟩ := p2.set (j := 0) (v := .int .i64 (.ofNat 0)) rfl (by decide)
 have hs : aB EG 96 [a, b] h2 = some (.ptr f 0, h2) := hst h2 (q1.trans q2); have rc : ∀ (hh : H) (ρ : Tr DV) (pre : List DR), aR hh h.size (pZ st ix) -> ev ρ (.r sU) = .agg (pZ st ix) -> ev ρ (.r p6) = .ptr h.size 0 -> rE 3 pre = some ⟨some sU, none, .e (.ldN 2 (.r p6))⟩ -> dY pre ρ hh 3 = true := by
   intro hh ρ pre o h1 h2 h3; unfold dY; rw [h3]; have : cG (.ldN 2 (.r p6)) ρ hh.get = some (.val (.agg (pZ st ix))) := by
     simp only [cG, h2]; rw [o.cells (o := 0) (k := 2) (Nat.le_refl 2)]; rfl
   simp only [lR, cP, cond_true, this, h1]; exact aUy st ix
 have hx : ∃ ρ', dW EG G63.σ [] (Tr.set (.fn (.func 94) [] [.ptr h1.size 0]) p9 (Tr.set (.ptr h1.size 0) p8 (Tr.set (.ptr h.size 0) p6 (Tr.ofL [a, b, .agg (pZ st ix), .str body])))) h2 (λ ρ h => some (ρ, h)) = some (ρ', h5) /\ ev ρ' (.r p8) = .ptr h1.size 0 := by
   refine ⟨_, rV (v := a) rfl (rV (v := b) rfl (rV (v := .agg (pZ st ix)) ?_ (rV (v := .str body) rfl (rC1 (v := .ptr f 0) hs (rc _ _ _ p1 rfl rfl rfl) (rC0 (v := .int .i64 (.ofNat 0)) f4 (rW0 (v := .tup []) ?_ xrN)))))), rfl⟩
   · show vl ((rdCells h2.get h.size 0 2).map .agg) = _; rw [p1.cells (o := 0) (k := 2) (Nat.le_refl 2)]; rfl
   · exact (mY _ _ _ _).symm.trans f5
 obtain ⟨ρ', hx, hv⟩ := hx; have hg : xC EG G63 aTJ [a, b, .agg (pZ st ix), .str body] h = some (.int .i64 (.ofNat 0), h5) := by
   unfold xC; rw [aSv e1 e2, Option.bind_some]; simp only; rw [hx, Option.bind_some]; simp only; have hc : aAP EG aTJ [.ptr h1.size 0] .nili h5 = some h5 := rfl; have hr : eO ρ' h5 G63.res = some [.int .i64 (.ofNat 0)] := by
     show eO ρ' h5 [.cell p8] = _; simp only [eO, tQ, hv]; rw [p5.rd (j := 0) rfl]
   show (aAP EG aTJ [.ptr h1.size 0] .nili h5).bind (λ h' => Option.map (λ vs => (iQ vs, h')) (eO ρ' h' G63.res)) = some (.int .i64 (.ofNat 0), h5)
   rw [hc, Option.bind_some, hr]
   rfl
 refine ⟨.int .i64 (.ofNat 0), h5, ?_, rfl, ?_, hQ h4 h5 h1.size qq (by omega) k5⟩
 · unfold oG; rw [hg]
 · refine ⟨by have := q1.size; have := q2.size; have := k4.size; have := k5.size; omega, λ c hc hn => ?_⟩
   rw [k5.get c (by omega), k4.get c (by have := q2.size; omega) hn, (q1.trans q2).get c hc]
theorem aAI {st ix : Nat} {a b : DV} {h h1 h2 h3 : H} (e1 : h1 = h.push (.blk ⟨2, 2, false, true, Tr.ofL (pZ st ix)⟩)) (e2 : h2 = h1.push (.blk ⟨1, 1, false, true, Tr.ofL [.str []]⟩)) (e3 : h3 = h2.push (.blk ⟨1, 1, false, true, Tr.ofL [.int .i64 (.ofNat 0)]⟩)) :
   qK EG wW [a, b, .agg (pZ st ix)] h = some (Tr.set (.fn (.func 141) [] [.ptr h1.size 0, .ptr h2.size 0]) p8 (Tr.set (.ptr h2.size 0) p7 (Tr.set (.ptr h1.size 0) p6 (Tr.set (.ptr h.size 0) p5 (Tr.ofL [a, b, .agg (pZ st ix)])))), h3) := by
 subst e1 e2 e3; have : qK EG wW [a, b, .agg (pZ st ix)] h = dN EG ⟨some p5, none, .e (.box (.r p2))⟩ (Tr.ofL [a, b, .agg (pZ st ix)]) h λ ρ h => dN EG ⟨some p6, none, .e (.alc 1 1 (.list [(.str [])]))⟩ ρ h λ ρ h =>
   dN EG ⟨some p7, none, .e (.alc 1 1 (.list [(.int .i64 (.ofNat 0))]))⟩ ρ h λ ρ h => dN EG ⟨some p8, none, .e (.mkF (.func 141) [] [(.r p6), (.r p7)])⟩ ρ h λ ρ h => some (ρ, h) := rfl
 rw [this, xgN (ob := .blk ⟨2, 2, false, true, Tr.ofL (pZ st ix)⟩) (mk := λ k => .ptr k 0) rfl, xgN (ob := .blk ⟨1, 1, false, true, Tr.ofL [.str []]⟩) (mk := λ k => .ptr k 0) rfl, xgN (ob := .blk ⟨1, 1, false, true, Tr.ofL [.int .i64 (.ofNat 0)]⟩) (mk := λ k => .ptr k 0) rfl, xgV (v := .fn (.func 141) [] [.ptr _ 0, .ptr _ 0]) rfl]
theorem aVf {h : H} {a b : DV} {st ix f e : Nat} {s : Ln} (hst : ∀ h2, aX h h2 -> aB EG 96 [a, b] h2 = some (.ptr f 0, h2))
   (hp : ∀ h2, aX h h2 -> W (aB EG 142 [.ptr f 0, .agg (pZ st ix)] h2) λ v h4 => v = .tup [.str s, .int .i64 (.ofNat e)] /\ aX h2 h4) :
   W (oH [a, b, .agg (pZ st ix)] h) λ v h' => v = .tup [.str s, .int .i64 (.ofNat e)] /\ aX h h' := by
 obtain ⟨h1, e1, q1, o1⟩ := cV h 2 2 (pZ st ix) rfl; obtain ⟨h2, e2, q2, o2⟩ := cV h1 1 1 [.str []] rfl; obtain ⟨h3, e3, q3, o3⟩ := cV h2 1 1 [.int .i64 (.ofNat 0)] rfl; have z1 : h1.size = h.size + 1 := by rw [e1]; exact H.size_push _ _
 have z2 : h2.size = h1.size + 1 := by rw [e2]; exact H.size_push _ _
 have z3 : h3.size = h2.size + 1 := by rw [e3]; exact H.size_push _ _
 have Q3 := (q1.trans q2).trans q3; obtain ⟨v, h4, f4, rfl, k4⟩ := hp h3 Q3; have p1 := (o1.grown q2).grown q3; have p2 := (o2.grown q3).grown k4; have p3 := o3.grown k4; obtain ⟨h5, f5, p5', k5⟩ := p2.set (j := 0) (v := .str s) rfl (by decide)
 obtain ⟨h6, f6, p6', k6⟩ := (p3.but (by omega) k5).set (j := 0) (v := .int .i64 (.ofNat e)) rfl (by decide)
 have p5'' := p5'.but (by omega) k6
 have hs := hst h3 Q3; have rc : ∀ (hh : H) (ρ : Tr DV) (pre : List DR), aR hh h.size (pZ st ix) -> ev ρ (.r nN) = .agg (pZ st ix) -> ev ρ (.r p5) = .ptr h.size 0 -> rE 3 pre = some ⟨some nN, none, .e (.ldN 2 (.r p5))⟩ -> dY pre ρ hh 3 = true := by
   intro hh ρ pre o h1 h2 h3; unfold dY; rw [h3]; have : cG (.ldN 2 (.r p5)) ρ hh.get = some (.val (.agg (pZ st ix))) := by
     simp only [cG, h2]; rw [o.cells (o := 0) (k := 2) (Nat.le_refl 2)]; rfl
   simp only [lR, cP, cond_true, this, h1]; exact aUy st ix
 have hx : ∃ ρ', dW EG wW.σ [] (Tr.set (.fn (.func 141) [] [.ptr h1.size 0, .ptr h2.size 0]) p8 (Tr.set (.ptr h2.size 0) p7 (Tr.set (.ptr h1.size 0) p6 (Tr.set (.ptr h.size 0) p5 (Tr.ofL [a, b, .agg (pZ st ix)]))))) h3 (λ ρ h => some (ρ, h)) = some (ρ', h6) /\ ev ρ' (.r p6) = .ptr h1.size 0 /\ ev ρ' (.r p7) = .ptr h2.size 0 := by
   refine ⟨_, rV (v := a) rfl (rV (v := b) rfl (rV (v := .agg (pZ st ix)) ?_ (rC1 (v := .ptr f 0) hs (rc _ _ _ p1 rfl rfl rfl) (rC0 (v := .tup [.str s, .int .i64 (.ofNat e)]) f4 (rV (v := .str s) rfl (rV (v := .int .i64 (.ofNat e)) rfl (rW0 (v := .tup []) (h' := h5) ?_ (rW0 (v := .tup []) ?_ xrN)))))))), rfl, rfl⟩
   · show vl ((rdCells h3.get h.size 0 2).map .agg) = _; rw [p1.cells (o := 0) (k := 2) (Nat.le_refl 2)]; rfl
   · exact (mY _ _ _ _).symm.trans f5
   · exact (mY _ _ _ _).symm.trans f6
 obtain ⟨ρ', hx, hv1, hv2⟩ := hx; have hg : xC EG wW vO [a, b, .agg (pZ st ix)] h = some (.tup [.str s, .int .i64 (.ofNat e)], h6) := by
   unfold xC; rw [aAI e1 e2 e3, Option.bind_some]; simp only; rw [hx, Option.bind_some]; simp only; have hc : aAP EG vO [.ptr h1.size 0, .ptr h2.size 0] .nili h6 = some h6 := rfl; have hr : eO ρ' h6 wW.res = some [.str s, .int .i64 (.ofNat e)] := by
     show eO ρ' h6 [.cell p6, .cell p7] = _; simp only [eO, tQ, hv1, hv2]; rw [p5''.rd (j := 0) rfl, p6'.rd (j := 0) rfl]
   show (aAP EG vO [.ptr h1.size 0, .ptr h2.size 0] .nili h6).bind (λ h' => Option.map (λ vs => (iQ vs, h')) (eO ρ' h' wW.res)) = _
   rw [hc, Option.bind_some, hr]
   rfl
 refine ⟨_, h6, ?_, rfl, ?_⟩
 · unfold oH; rw [hg]
 · have K : dE h.size h3 h6 := (gk k4 (by omega)).trans ((k5.keeps (by omega)).trans (k6.keeps (by omega)))
   exact ((gk Q3 (Nat.le_refl _)).trans K).grown
section
variable {E : aQ} {ρ : Tr DV} {h h' : H} {R : Type} {k : Tr DV -> H -> Option R} {p : Pa} {l : List DG} {y : Option R}
theorem sgV {o : vN} {v : DV} (e : cG o ρ h.get = some (.val v)) (r : eF E l (Tr.set v p ρ) h k = y) : eF E (⟨some p, none, .e o⟩ :: l) ρ h k = y := by
 show dN E ⟨some p, none, .e o⟩ ρ h (λ ρ h => eF E l ρ h k) = y
 rw [xgV e]; exact r
theorem sgC {f : Nat} {xs : List aU} {v : DV} (e : aB E f (xs.map (ev ρ)) h = some (v, h')) (r : eF E l (Tr.set v p ρ) h' k = y) : eF E (⟨some p, none, .c (.f f xs)⟩ :: l) ρ h k = y := by
 show dN E ⟨some p, none, .c (.f f xs)⟩ ρ h (λ ρ h => eF E l ρ h k) = y
 rw [xgC e]; exact r
theorem sgS {q : Pa × Bool} {o : DOp} (w : cP ρ (some q) = false) (r : eF E l (Tr.set (.tup []) p ρ) h k = y) : eF E (⟨some p, some q, o⟩ :: l) ρ h k = y := by
 show dN E ⟨some p, some q, o⟩ ρ h (λ ρ h => eF E l ρ h k) = y
 simp only [dN, w, cond_false, aBP, Tr.setK_eq]; exact r
theorem sgG {q : Pa × Bool} {o : vN} {v : DV} (w : cP ρ (some q) = true) (e : cG o ρ h.get = some (.val v)) (r : eF E l (Tr.set v p ρ) h k = y) : eF E (⟨some p, some q, .e o⟩ :: l) ρ h k = y := by
 show dN E ⟨some p, some q, .e o⟩ ρ h (λ ρ h => eF E l ρ h k) = y
 simp only [dN, w, cond_true, odo, oA, e, Option.bind_some, aBP, Tr.setK_eq]; exact r
theorem sgW {o : WOp} {v : DV} (e : wdo o ρ h = some (v, h')) (r : eF E l ρ h' k = y) : eF E (⟨none, none, .w o⟩ :: l) ρ h k = y := by
 show dN E ⟨none, none, .w o⟩ ρ h (λ ρ h => eF E l ρ h k) = y
 rw [xgW e]; exact r
theorem rCn {f : Nat} {xs : List aU} {i : Nat} {re : Ln} {sy : Bool} {l pre : List DR} (e : aB E f (xs.map (ev ρ)) h = none) : dW E (⟨i, ⟨some p, none, .c (.f f xs)⟩, re, sy⟩ :: l) pre ρ h k = none := by
 show dN E ⟨some p, none, .c (.f f xs)⟩ ρ h (λ ρ h => bif re.all (dY pre ρ h) then dW E l (⟨i, ⟨some p, none, .c (.f f xs)⟩, re, sy⟩ :: pre) ρ h k else none) = none
 simp only [dN, cP, cond_true, odo, cdo, e, Option.bind_none]
theorem sg0 : eF E [] ρ h k = k ρ h := rfl
end
theorem goR {E : aQ} {l : List DG} {ρ : Tr DV} {h : H} {y : Option (Tr DV × H)} (r : eF E l ρ h (λ ρ h => some (ρ, h)) = y) : goN E (.reg l) ρ h = y := r
theorem pSR {E : aQ} {d : DC} {p : DP} {ρ ρ' : Tr DV} {h h' : H} {y : Option (DV × H)} (e : goN E d ρ h = some (ρ', h')) (r : kM E p ρ' h' = y) : kM E (.sr d p) ρ h = y := by
 show (goN E d ρ h).bind (λ x => kM E p x.1 x.2) = y
 rw [e]; exact r
theorem pSL {E : aQ} {p : DP} {ρ : Tr DV} {h : H} {y : Option (DV × H)} (r : kM E p ρ h = y) : kM E (.sl p) ρ h = y := r
theorem pOR {E : aQ} {p q : DP} {ρ : Tr DV} {h : H} {y : Option (DV × H)} (e : kM E p ρ h = none) (r : kM E q ρ h = y) : kM E (.or p q) ρ h = y := by
 show Option.rec (motive := λ _ => Option (DV × H)) (kM E q ρ h) some (kM E p ρ h) = y
 rw [e]; exact r
theorem aLE {h : H} {sv lb i : Nat} {S : List cZ} {B : cZ} {X : eX} (hs : aFQ h sv lb (S.map cZ.p)) (hi : S[i]? = some B) (hx : lX h B X) (hd : (X.dn || X.ls) = true) :
   wN [.ptr sv 0, .int .i64 (.ofNat i)] h = some (.ifc 25 (.int .i64 (.ofNat 8)), h) := by
 obtain ⟨v, h', e, rfl, rfl⟩ := vS (E := SE pI table (aK - 1)) hs (qY hi); have ea : aB EG 33 [.ptr sv 0, .int .i64 (.ofNat i)] h' = some (.ptr B.p 0, h') := by rw [aT bQb]; exact e
 obtain ⟨c, o, _⟩ := hx; have key : kM EG bDL.p (Tr.ofL [.ptr sv 0, .int .i64 (.ofNat i)]) h' = some (.ifc 25 (.int .i64 (.ofNat 8)), h') := by
   refine pSR (ρ' := Tr.set .nilp p4 (Tr.ofL [.ptr sv 0, .int .i64 (.ofNat i)])) (h' := h') rfl ?_; have e2 : goN EG (.reg [⟨some p6, none, .e (.mv (.r p0))⟩, ⟨some p7, none, .e (.mv (.r p1))⟩, ⟨some p8, none, .c (.f 33 [(.r p6), (.r p7)])⟩, ⟨some p5, none, .e (.mv (.r p8))⟩]) (Tr.set .nilp p4 (Tr.ofL [.ptr sv 0, .int .i64 (.ofNat i)])) h' =
       some (Tr.set (.ptr B.p 0) p5 (Tr.set (.ptr B.p 0) p8 (Tr.set (.int .i64 (.ofNat i)) p7 (Tr.set (.ptr sv 0) p6 (Tr.set .nilp p4 (Tr.ofL [.ptr sv 0, .int .i64 (.ofNat i)]))))), h') :=
     goR (sgV (v := .ptr sv 0) rfl (sgV (v := .int .i64 (.ofNat i)) rfl (sgC (v := .ptr B.p 0) ea (sgV (v := .ptr B.p 0) rfl sg0))))
   refine pSR e2 ?_; refine pOR rfl ?_; refine pSR (ρ' := Tr.set (.bool false) nI (Tr.set (.ptr B.p 0) p9 (Tr.set (.ptr B.p 0) p5 (Tr.set (.ptr B.p 0) p8 (Tr.set (.int .i64 (.ofNat i)) p7 (Tr.set (.ptr sv 0) p6 (Tr.set .nilp p4 (Tr.ofL [.ptr sv 0, .int .i64 (.ofNat i)])))))))) (h' := h') rfl ?_; have e3 : ∃ ρ', goN EG (.reg [⟨some nN, none, .e (.mv (.r p5))⟩, ⟨some sU, none, .e (.nilchk (.r nN))⟩, ⟨some tW, none, .e (.fa 2 (.r sU))⟩, ⟨some xW, none, .e (.ld (.r tW))⟩, ⟨some p16, none, .e (.mv (.r xW))⟩, ⟨some p17, some (p16, false), .e (.mv (.r p5))⟩, ⟨some p18, some (p16, false), .e (.nilchk (.r p17))⟩, ⟨some p19, some (p16, false), .e (.fa 3 (.r p18))⟩, ⟨some p20, some (p16, false), .e (.ld (.r p19))⟩, ⟨some p21, none, .e (.pick (.r p16) (.c (.bool true)) (.r p20))⟩]) (Tr.set (.bool false) nI (Tr.set (.ptr B.p 0) p9 (Tr.set (.ptr B.p 0) p5 (Tr.set (.ptr B.p 0) p8 (Tr.set (.int .i64 (.ofNat i)) p7 (Tr.set (.ptr sv 0) p6 (Tr.set .nilp p4 (Tr.ofL [.ptr sv 0, .int .i64 (.ofNat i)])))))))) h' = some (ρ', h') /\ ev ρ' (.r p21) = .bool true := by
     have l2 : rdCell h'.get B.p 2 = some (.bool X.dn) := o.rd (j := 2) rfl; have l3 : rdCell h'.get B.p 3 = some (.bool X.ls) := o.rd (j := 3) rfl; cases hdn : X.dn with
     | true =>
       rw [hdn] at l2; refine ⟨_, goR (sgV (v := .ptr B.p 0) rfl (sgV (v := .ptr B.p 0) rfl (sgV (v := .ptr B.p 2) rfl (sgV (v := .bool true) ?_ (sgV (v := .bool true) rfl (sgS rfl (sgS rfl (sgS rfl (sgS rfl (sgV (v := .bool true) rfl sg0)))))))))), rfl⟩; show vl (rdCell h'.get B.p 2) = _; rw [l2]; rfl
     | false =>
       rw [hdn] at l2; have hls : X.ls = true := by rw [hdn] at hd; exact hd
       rw [hls] at l3; refine ⟨_, goR (sgV (v := .ptr B.p 0) rfl (sgV (v := .ptr B.p 0) rfl (sgV (v := .ptr B.p 2) rfl (sgV (v := .bool false) ?_ (sgV (v := .bool false) rfl (sgG (v := .ptr B.p 0) rfl ?_ (sgG (v := .ptr B.p 0) rfl rfl (sgG (v := .ptr B.p 3) rfl rfl (sgG (v := .bool true) rfl ?_ (sgV (v := .bool true) rfl sg0)))))))))), rfl⟩
       · show vl (rdCell h'.get B.p 2) = _; rw [l2]; rfl
       · rfl
       · show vl (rdCell h'.get B.p 3) = _; rw [l3]; rfl
   obtain ⟨ρ', e4, e5⟩ := e3; refine pSL (pSR e4 ?_); show bK (ev ρ' (.r p21)) (eF EG [⟨some p22, none, .e (.mkI 25 (.c (.int .i64 (.ofNat 8))))⟩] ρ' h' λ ρ h => some (ev ρ (.r p22), h)) none = _
   rw [e5]; rw [cT]; refine sgV (v := .ifc 25 (.int .i64 (.ofNat 8))) rfl ?_; show some (ev (Tr.set (.ifc 25 (.int .i64 (.ofNat 8))) p22 ρ') (.r p22), h') = _; rw [pA, if_pos rfl]
 show (kM EG bDL.p (Tr.ofL [.ptr sv 0, .int .i64 (.ofNat i)]) h').bind (λ x => bif bEw x.1 then some x else none) = _
 rw [key]; rfl
theorem aLD {h : H} {sv lb i : Nat} {S : List cZ} {B : cZ} {X : eX} (hs : aFQ h sv lb (S.map cZ.p)) (hi : S[i]? = some B) (hx : lX h B X) (hd : (X.dn || X.ls) = true) :
   aB EG 96 [.ptr sv 0, .int .i64 (.ofNat i)] h = none := by
 obtain ⟨v, h', e, rfl, rfl⟩ := vS (E := SE pI table (aK - 2)) hs (qY hi); obtain ⟨c, o, _⟩ := hx; have l2 : aF h'.get (.ptr B.p 2) = some (.bool X.dn) := o.read (j := 2) rfl; have l3 : aF h'.get (.ptr B.p 3) = some (.bool X.ls) := o.read (j := 3) rfl; rw [aT aJM]; show aGd (SE pI table (aK - 1)) (.ptr sv 0) (.int .i64 (.ofNat i)) h' = none; unfold aGd aQJ; rw [aT bFf, e, aV, show cM .ptr false h'.get (.ptr B.p 0) .nilp = some (.bool false) from rfl, aA, aW, show aC (.ptr B.p 0) = some (.ptr B.p 0) from rfl, aA, show aG 2 (.ptr B.p 0) = some (.ptr B.p 2) from rfl, aA, l2, aA]
 cases hdn : X.dn with
 | true => rfl
 | false =>
   have hls : X.ls = true := by rw [hdn] at hd; exact hd
   rw [hls] at l3; show vK (aF h'.get (.ptr B.p 3)) _ = none; rw [l3]; rfl
theorem aVg {h : H} {a b : DV} {st ix : Nat} (hn : ∀ h2, aX h h2 -> aB EG 96 [a, b] h2 = none) (hst : ∀ h2, aX h h2 -> wN [a, b] h2 = some (.ifc 25 (.int .i64 (.ofNat 8)), h2)) :
   W (oH [a, b, .agg (pZ st ix)] h) λ v h' => v = .tup [.str [], .int .i64 (.ofNat 8)] /\ aX h h' := by
 obtain ⟨h1, e1, q1, o1⟩ := cV h 2 2 (pZ st ix) rfl; obtain ⟨h2, e2, q2, o2⟩ := cV h1 1 1 [.str []] rfl; obtain ⟨h3, e3, q3, o3⟩ := cV h2 1 1 [.int .i64 (.ofNat 0)] rfl; have z1 : h1.size = h.size + 1 := by rw [e1]; exact H.size_push _ _
 have z2 : h2.size = h1.size + 1 := by rw [e2]; exact H.size_push _ _
 have z3 : h3.size = h2.size + 1 := by rw [e3]; exact H.size_push _ _
 have Q3 := (q1.trans q2).trans q3; have u1 := (o1.grown q2).grown q3; have u2 := o2.grown q3; have hs : aB EG 96 [a, b] h3 = none := hn h3 Q3; obtain ⟨h5, f5, p5', k5⟩ := u2.set (j := 0) (v := .str []) rfl (by decide)
 obtain ⟨h6, f6, p6', k6⟩ := (o3.but (by omega) k5).set (j := 0) (v := .int .i64 (.ofNat 8)) rfl (by decide)
 have p5'' := p5'.but (by omega) k6
 have l12 : vl ((rdCells h3.get h.size 0 2).map .agg) = some (.val (.agg (pZ st ix))) := by
   rw [u1.cells (o := 0) (k := 2) (Nat.le_refl 2)]; rfl
 have hg : xC EG wW vO [a, b, .agg (pZ st ix)] h = none := by
   unfold xC; rw [aAI e1 e2 e3, Option.bind_some]; simp only; have : dW EG wW.σ [] (Tr.set (.fn (.func 141) [] [.ptr h1.size 0, .ptr h2.size 0]) p8 (Tr.set (.ptr h2.size 0) p7 (Tr.set (.ptr h1.size 0) p6 (Tr.set (.ptr h.size 0) p5 (Tr.ofL [a, b, .agg (pZ st ix)]))))) h3 (λ ρ h => some (ρ, h)) = none :=
     rV (v := a) rfl (rV (v := b) rfl (rV (v := .agg (pZ st ix)) l12 (rCn hs)))
   rw [this]; rfl
 have hx : ∃ ρ', dW EG wW.pfx [] (Tr.set (.fn (.func 141) [] [.ptr h1.size 0, .ptr h2.size 0]) p8 (Tr.set (.ptr h2.size 0) p7 (Tr.set (.ptr h1.size 0) p6 (Tr.set (.ptr h.size 0) p5 (Tr.ofL [a, b, .agg (pZ st ix)]))))) h3 (λ ρ h => some (ρ, h)) = some (ρ', h3) /\ ev ρ' (.r p6) = .ptr h1.size 0 /\ ev ρ' (.r p7) = .ptr h2.size 0 /\ ev ρ' (.r p9) = a /\ ev ρ' (.r nI) = b :=
   ⟨_, rV (v := a) rfl (rV (v := b) rfl (rV (v := .agg (pZ st ix)) l12 xrN)), rfl, rfl, rfl, rfl⟩
 obtain ⟨ρ', hx, hv1, hv2, hv3, hv4⟩ := hx; have hp : aSS EG wN wW vO [a, b, .agg (pZ st ix)] h = some (.tup [.str [], .int .i64 (.ofNat 8)], h6) := by
   unfold aSS; rw [aAI e1 e2 e3, Option.bind_some]; simp only; rw [hx, Option.bind_some]; simp only; have ha : wW.as.map (ev ρ') = [a, b] := by
     show [ev ρ' (.r p9), ev ρ' (.r nI)] = _; rw [hv3, hv4]
   rw [ha, hst h3 Q3, Option.bind_some]; have hc : aAP EG vO [.ptr h1.size 0, .ptr h2.size 0] (.ifc 25 (.int .i64 (.ofNat 8))) h3 = some h6 := by
     have cc : aB EG 95 [.ifc 25 (.int .i64 (.ofNat 8))] h3 = some (.int .i64 (.ofNat 8), h3) := by rw [aT (show EG 95 = some (S95 (SE pI table (aK - 1))) from by kernel_rfl)]; rfl
     have e0 : aAP EG vO [.ptr h1.size 0, .ptr h2.size 0] (.ifc 25 (.int .i64 (.ofNat 8))) h3 = eF EG [⟨some p4, none, .e (.mv (.r p2))⟩, ⟨some p5, none, .e (.eqv .nilI true (.r p4) (.c .nili))⟩] (Tr.set (.ifc 25 (.int .i64 (.ofNat 8))) p2 (Tr.set (.ifc 25 (.int .i64 (.ofNat 8))) p3 (Tr.ofL [.ptr h1.size 0, .ptr h2.size 0]))) h3 λ ρ h =>
       nB EG (.cond (.r p5) (.reg [⟨some p6, none, .e (.mv (.r p2))⟩, ⟨some p7, none, .c (.f 95 [(.r p6)])⟩, ⟨none, none, .w (.st 1 (.r p0) (.c (.str [])))⟩, ⟨none, none, .w (.st 1 (.r p1) (.r p7))⟩]) .skip) ρ h (λ x ρ h => DX.rec (motive := λ _ => Option H) (some h) (λ _ => none) (some h) x) := rfl
     rw [e0]; refine sgV (v := .ifc 25 (.int .i64 (.ofNat 8))) rfl (sgV (v := .bool true) rfl ?_); show eF EG [⟨some p6, none, .e (.mv (.r p2))⟩, ⟨some p7, none, .c (.f 95 [(.r p6)])⟩, ⟨none, none, .w (.st 1 (.r p0) (.c (.str [])))⟩, ⟨none, none, .w (.st 1 (.r p1) (.r p7))⟩] (Tr.set (.bool true) p5 (Tr.set (.ifc 25 (.int .i64 (.ofNat 8))) p4 (Tr.set (.ifc 25 (.int .i64 (.ofNat 8))) p2 (Tr.set (.ifc 25 (.int .i64 (.ofNat 8))) p3 (Tr.ofL [.ptr h1.size 0, .ptr h2.size 0]))))) h3 (λ ρ h => some h) = _
     exact sgV (v := .ifc 25 (.int .i64 (.ofNat 8))) rfl (sgC (v := .int .i64 (.ofNat 8)) cc (sgW (v := .tup []) (h' := h5) ((mY _ _ _ _).symm.trans f5) (sgW (v := .tup []) (h' := h6) ((mY _ _ _ _).symm.trans f6) rfl)))
   have hr : eO ρ' h6 wW.res = some [.str [], .int .i64 (.ofNat 8)] := by
     show eO ρ' h6 [.cell p6, .cell p7] = _; simp only [eO, tQ, hv1, hv2]; rw [p5''.rd (j := 0) rfl, p6'.rd (j := 0) rfl]
   show (aAP EG vO [.ptr h1.size 0, .ptr h2.size 0] (.ifc 25 (.int .i64 (.ofNat 8))) h3).bind (λ h' => Option.map (λ vs => (iQ vs, h')) (eO ρ' h' wW.res)) = _
   rw [hc, Option.bind_some, hr]
   rfl
 refine ⟨_, h6, ?_, rfl, ?_⟩
 · unfold oH; rw [hg]; exact hp
 · have K : dE h.size h3 h6 := (k5.keeps (by omega)).trans (k6.keeps (by omega))
   exact ((gk Q3 (Nat.le_refl _)).trans K).grown
end Go.Proofs.YthpciaidbgjoeaaGreat
