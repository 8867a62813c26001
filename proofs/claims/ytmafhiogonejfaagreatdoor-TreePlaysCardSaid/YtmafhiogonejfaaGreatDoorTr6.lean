/- Both trees side by side; the laws' runs. No condition. -/
import Derived.Test.YtmafhiogonejfaaGreatDoorTr5
import Derived.KernelRfl
set_option linter.unusedVariables false
set_option linter.unusedSimpArgs false
noncomputable section
namespace Go.Proofs.YtmafhiogonejfaaGreatDoor
open Go.DI
def zc : Nat -> List DV
 | 0 => [ii 0, ii 0]
 | n + 1 => ii 0 :: .nili :: zc n
theorem aGQ : ∀ n, (zc n).length = n * 2 + 2
 | 0 => rfl
 | n + 1 => by simp only [zc, List.length_cons, aGQ n]; omega
theorem aDB : ∀ {n i : Nat}, i <= n -> (zc n)[i * 2]? = some (ii 0)
 | 0, i, h => by
   have : i = 0 := by omega
   subst this; rfl
 | n + 1, 0, h => rfl
 | n + 1, i + 1, h => by
   rw [show (i + 1) * 2 = i * 2 + 1 + 1 from by omega]
   show (zc n)[i * 2]? = _; exact aDB (by omega)
theorem aUf : ∀ {n i : Nat}, i < n -> (zc n)[i * 2 + 1]? = some .nili
 | n + 1, 0, h => rfl
 | n + 1, i + 1, h => by
   rw [show (i + 1) * 2 + 1 = i * 2 + 1 + 1 + 1 from by omega]
   show (zc n)[i * 2 + 1]? = _; exact aUf (by omega)
theorem aPS : ∀ n, (zc n)[n * 2 + 1]? = some (ii 0)
 | 0 => rfl
 | n + 1 => by
   rw [show (n + 1) * 2 + 1 = n * 2 + 1 + 1 + 1 from by omega]
   exact aPS n
def aFo (B : cD) : Prop := ∀ h : H, ∃ t h' C FN, B [] h = some (.ptr t 0, h') /\ cS h' t rO C FN /\ aJ h h' /\ ∀ c, Fp t FN c -> h.size <= c
set_option maxRecDepth 100000 in
theorem bBS {E : bN} (h : H) : S21 E [] h = dT (.agg (zc 256)) h λ x2 h3 =>
 vK (aM x2) λ x4 =>
 vK (aF 0 x4) λ x5 =>
 wK (aD E 65 [] h3) λ x6 h7 =>
 vK (eC [.nilp] [(0, 1, x6)]) λ x8 =>
 vK (lV 256 2 x5 (ii 1)) λ x9 =>
 vK (aF 1 x9) λ x10 =>
 wK (bR 1 x10 (.ifc 120 x8) h7) λ x11 h12 =>
 some (x2, h12) := rfl
theorem aBO (i : Nat) : bP rO.l i = if i = 1 then some ⟨1, 0, 2, [], []⟩ else none := by
 unfold bP rO; by_cases h : i = 1
 · subst h; rfl
 · rw [if_neg h, List.find?_cons, show ((1 : Nat) == i) = false from by rw [beq_eq_false_iff_ne]; omega]; rfl
theorem aSG {E : bN} (hN : bY E 65 aBl) : aFo (S21 E) := by
 obtain ⟨B0, b0, s0⟩ := hN.call; intro h; have hl := aGQ 256; obtain ⟨h3, eh3, g3, o3⟩ : ∃ x, x = h.push (.blk ⟨(zc 256).length, (zc 256).length, false, true, Tr.ofL (zc 256)⟩) /\ aJ h x /\ bC x h.size (zc 256) := ⟨_, rfl, aJ.push _ _, bC.pushed⟩; have z3 : h3.size = h.size + 1 := by rw [eh3]; exact H.size_push _ _
 obtain ⟨d, h7, f7, hd, d7, g7⟩ := s0 h3; obtain ⟨h12, f12, fV, k12⟩ := (o3.grown g7).set (v := .ifc 120 (.agg [.ptr d 0])) (j := 3) rfl (by rw [hl]; omega)
 have d12 := d7.off (k12.off (F := λ c => c = h.size) rfl) λ c hc e => by simp at hc; omega
 refine ⟨h.size, h12, (zc 256).set 3 (.ifc 120 (.agg [.ptr d 0])), λ i => if i = 1 then [d] else [], ?_, ⟨?_, fV, ?_, ?_, λ i n hn => ?_, λ i hi hn => ?_, λ i hi => ?_, λ i j hij c hi hj => ?_, λ i hn => ?_⟩, k12.grown (g3.trans g7) (Nat.le_refl _), λ c hc => ?_⟩
 · have bld : eC [.nilp] [(0, 1, .ptr d 0)] = some (.agg [.ptr d 0]) := rfl; rw [bBS, jU, <- eh3, bI, aA, aL, aA, b0, f7, aB, bld, aA, aGT (by omega), aA, aL, aA, f12, aB]
 · rw [List.length_set]; exact hl
 · rw [List.getElem?_set, if_neg (by omega)]; exact aDB (n := 256) (i := 256) (Nat.le_refl _)
 · rw [List.getElem?_set, if_neg (by omega)]; exact aPS 256
 · rw [aBO] at hn; by_cases hi : i = 1
   · subst hi; rw [if_pos rfl] at hn; cases hn; refine ⟨?_, .ifc 120 (.agg [.ptr d 0]), ?_, .inr ⟨rfl, d, rfl, ?_⟩⟩
     · rw [List.getElem?_set, if_neg (by omega)]; exact aDB (n := 256) (i := 1) (by omega)
     · rw [List.getElem?_set, if_pos (by omega), if_pos (by rw [hl]; omega)]
     · exact d12
   · rw [if_neg hi] at hn; cases hn
 · rw [aBO] at hn; have hi1 : i ≠ 1 := λ e => by rw [if_pos e] at hn; cases hn
   rw [List.getElem?_set, if_neg (by omega), List.getElem?_set, if_neg (by omega)]
   exact ⟨aDB (by omega), aUf hi⟩
 · by_cases h1 : i = 1
   · simp only [h1, if_true] at hi; simp at hi; omega
   · simp only [h1, if_false] at hi; cases hi
 · by_cases h1 : i = 1
   · by_cases h2 : j = 1
     · omega
     · simp only [h2, if_false] at hj; cases hj
   · simp only [h1, if_false] at hi; cases hi
 · rw [aBO] at hn; by_cases h1 : i = 1
   · rw [if_pos h1] at hn; cases hn
   · simp only [h1, if_false]
 · rcases hc with rfl | ⟨i, hi⟩
   · exact Nat.le_refl _
   · by_cases h1 : i = 1
     · simp only [h1, if_true] at hi; simp at hi; omega
     · simp only [h1, if_false] at hi; cases hi
def opT (T : TreeP) (o : OpP) : TreeP × Nat :=
 if o.kind = 1 then mkT T o.path 2 else if o.kind = 2 then mkT T o.path 1 else if o.kind = 3 then kS T o.path else if o.kind = 4 then nB T o.path else
   if o.kind = 5 then kV T o.path o.other else if o.kind = 6 then rW T o.path o.other else if o.kind = 7 then pF T o.path o.at_ o.text else if o.kind = 8 then pJ T o.path o.n else (T, 0)
theorem bCr {k : Nat} {T : TreeP} (h : Inv k T) {o : OpP} (ho : o.ok) : Inv (k + 1) (opT T o).1 := by
 obtain ⟨_, _, _, o1, o2, o3⟩ := ho; unfold opT; split
 · exact aQB h o1 (.inr rfl)
 split
 · exact aQB h o1 (.inl rfl)
 split
 · exact (aKS h _).mono (by omega)
 split
 · exact (aOc h _).mono (by omega)
 split
 · exact aLA h _ o2
 split
 · exact aTo h _ o2
 split
 · exact (aNr h o3).mono (by omega)
 split
 · exact (aNB h _ _).mono (by omega)
 · exact h.mono (by omega)
def NA (t : Nat) (FN : Nat -> Ln) (FR : Nat -> Prop) : Nat -> Prop := λ c => ¬ Fp t FN c /\ ¬ FR c
def FRn (FR : Nat -> Prop) (a b : Nat) : Nat -> Prop := λ c => FR c \/ (a <= c /\ c < b)
section
variable {t : Nat} {FN FN' : Nat -> Ln} {FR FR' : Nat -> Prop} {h h' : H} {v : DV} {T : TreeP}
theorem aLD (r : dV (NA t FN FR) h v T) (s : lH t h FN h' FN') : dV (NA t FN' FR) h' v T :=
 r.move s.off.size (λ c hc hl => s.off.get c hl hc.1) λ c hc hl => ⟨λ hF => by
   rcases s.fp c hF with x | x
   · exact hc.1 x
   · exact absurd hl (Nat.not_lt.2 x), hc.2⟩
theorem wR {b : Nat} (r : dV (NA t FN FR) h v T) (k : But b h h') (hb : FR b) : dV (NA t FN FR) h' v T :=
 r.move (Nat.le_of_eq k.size.symm) (λ c hc hl => k.get c λ e => hc.2 (e ▸ hb)) λ _ x _ => x
theorem aEw (r : dV (NA t FN FR) h v T) (hFR : ∀ c, c < h.size -> FR' c -> FR c) : dV (NA t FN FR') h v T :=
 r.move (Nat.le_refl _) (λ _ _ _ => rfl) λ c hc hl => ⟨hc.1, λ x => hc.2 (hFR c hl x)⟩
end
theorem vN {E : bN} {t : Nat} {T T' : TreeP} {C : List DV} {FN : Nat -> Ln} {FR : Nat -> Prop} {o : OpP} {b3 b5 b8 e : Nat} {v' : DV} {L5 L8 : List DV} {hh : H} {P : H -> (DV -> H -> aV) -> aV}
   (hT : cS hh t T C FN) (hR : dV (NA t FN FR) hh v' T') (o3 : bC hh b3 (yV o)) (o5 : bC hh b5 L5) (h5 : L5.length = 2) (o8 : bC hh b8 L8) (h8 : L8.length = 2) (f5 : FR b5) (f8 : FR b8) (n58 : b5 ≠ b8) (n38 : b3 ≠ b8) (hFR : ∀ c, FR c -> ¬ Fp t FN c)
   (hP : ∀ h23, cS h23 t T C FN -> bC h23 b3 (yV o) -> ∃ h27 C' FN', (∀ K, P h23 K = K (ii e) h27) /\ cS h27 t T' C' FN' /\ lH t h23 FN h27 FN') :
   ∃ h' C' FN', (wK (bR 2 (.ptr b8 0) v' hh) λ _ h23 => P h23 λ x26 h27 => sN E (.ptr b5 0) (.ptr b8 0) (ii e) x26 h27) = some (.tup [v', .bool true], h') /\ cS h' t T' C' FN' /\ dV (NA t FN' FR) h' v' T' /\ lC (λ c => Fp t FN c \/ c = b5 \/ c = b8) hh h' /\ ∀ c, Fp t FN' c -> Fp t FN c \/ hh.size <= c := by
 obtain ⟨s, rfl, hs⟩ := hR.agg; have one2 : ([s, ii T'.gen]).all DV.one = true := by simp only [List.all_cons, List.all_nil, hs]; rfl
 obtain ⟨h23, f23, gW, k23⟩ := o8.setAll (n := 2) (cs := [s, ii T'.gen]) h8 rfl one2; have hT23 := hT.off (k23.off (F := λ c => c = b8) rfl) λ c hc e => hFR b8 f8 (e ▸ hc)
 obtain ⟨h27, C', FN', f27, t27, s27⟩ := hP h23 hT23 (o3.but n38 k23); have r27 := aLD (wR hR k23 f8) s27; have lG := gW.off s27.off (hFR b8 f8); have o527 := (o5.but n58 k23).off s27.off (hFR b5 f5); obtain ⟨h29, f29, mK, k29⟩ := o527.setAll (n := 2) (cs := [s, ii T'.gen]) h5 rfl one2; have hn5 : ¬ Fp t FN' b5 := λ hF => by
   rcases s27.fp b5 hF with x | x
   · exact hFR b5 f5 x
   · have := o5.1; have := k23.size; omega
 refine ⟨h29, C', FN', ?_, t27.off (k29.off (F := λ c => c = b5) rfl) (λ c hc e => hn5 (e ▸ hc)), wR r27 k29 f5, (((k23.off (F := λ c => c = b8) rfl).weak λ c _ hc => .inr (.inr hc)).trans (s27.off.weak λ c _ hc => .inl hc)).trans ((k29.off (F := λ c => c = b5) rfl).weak λ c _ hc => .inr (.inl hc)), λ c hc => ?_⟩
 · rw [f23, aB, f27]; unfold sN; rw [lG.all (n := 2) rfl, aA, cC, aA, f29, aB, mK.all (n := 2) rfl, aA, decide_eq_true rfl]
 · rcases s27.fp c hc with x | x
   · exact .inl x
   · have := k23.size; exact .inr (by omega)
structure aDQ (E : bN) : Prop where
 nw : bY E 21 aFo
 md : bY E 40 (jQ λ T p => mkT T p 2)
 cr : bY E 41 (jQ λ T p => mkT T p 1)
 un : bY E 42 (jQ kS)
 rm : bY E 43 (jQ nB)
 rn : bY E 44 (sD kV)
 ln : bY E 45 (sD rW)
 wr : bY E 46 zK
 tr : bY E 47 zN
 tx : bY E 24 vY
def aXm (B : cD) : Prop := ∀ (A : Nat -> Prop) (h : H), (∀ c, h.size <= c -> A c) -> ∃ v h', B [] h = some (v, h') /\ dV A h' v rO /\ aJ h h'
structure aKD (E : bN) : Prop where
 nw : bY E 22 aXm
 md : bY E 66 aCj
 un : bY E 67 (xQ kS)
 rm : bY E 68 (xQ nB)
 rn : bY E 69 (sG kV)
 ln : bY E 70 (sG rW)
 wr : bY E 71 zS
 tr : bY E 72 zU
 tx : bY E 25 rM
structure bBF (E : bN) : Prop where
 rd : bY E 33 aCc
 st : bY E 34 aCb
 li : bY E 35 aCd
structure aSq (E : bN) : Prop where
 rd : bY E 80 aCi
 st : bY E 81 aCh
 li : bY E 82 aCk
def aPQ (B : cD) : Prop := ∀ (t : Nat) (T : TreeP) (C : List DV) (FN : Nat -> Ln) (k : Nat) (FR : Nat -> Prop) (v : DV) (o : OpP) (h : H), cS h t T C FN -> dV (NA t FN FR) h v T -> Inv k T -> k < 900 -> (∀ c, FR c -> c < h.size /\ ¬ Fp t FN c) -> o.ok -> o.path.length < 140737488355328 -> o.other.length < 140737488355328 ->
 ∃ v' h' C' FN', B [.ptr t 0, v, .agg (yV o)] h = some (.tup [v', .bool true], h') /\ cS h' t (opT T o).1 C' FN' /\ dV (NA t FN' FR) h' v' (opT T o).1 /\ lH t h FN h' FN'
theorem bDq {E : bN} (Q : aDQ E) (D : aKD E) : aPQ (S29 E) := by
 intro t T C FN k FR v o h hT hR hI hk hFR hok hpl hol; obtain ⟨hk0, ha0, hn0, okp, oko, okt⟩ := id hok; obtain ⟨s, ev, hs⟩ := hR.agg; subst ev; obtain ⟨h2, eh2, g2, o2⟩ := aN h 2 2 [s, ii T.gen] rfl; have z2 : h2.size = h.size + 1 := by rw [eh2]; exact H.size_push _ _
 obtain ⟨h4, eh4, g4, o4⟩ := aN h2 6 6 (yV o) rfl; have z4 : h4.size = h2.size + 1 := by rw [eh4]; exact H.size_push _ _
 obtain ⟨h6, eh6, g6, o6⟩ := aN h4 2 2 [.nils, ii 0] rfl; have z6 : h6.size = h4.size + 1 := by rw [eh6]; exact H.size_push _ _
 obtain ⟨h9, eh9, g9, o9⟩ := aN h6 2 2 [.nils, ii 0] rfl; have z9 : h9.size = h6.size + 1 := by rw [eh9]; exact H.size_push _ _
 have one2 : ([s, ii T.gen]).all DV.one = true := by simp only [List.all_cons, List.all_nil, hs]; rfl
 obtain ⟨h11, f11, fY, k11⟩ := o9.setAll (n := 2) (cs := [s, ii T.gen]) rfl rfl one2; have z11 : h11.size = h9.size := k11.size; have G11 : aJ h h11 := k11.grown (((g2.trans g4).trans g6).trans g9) (by omega)
 have q2 : bC h11 h.size [s, ii T.gen] := bC.but (((o2.grown g4).grown g6).grown g9) (by omega) k11
 have q4 : bC h11 h2.size (yV o) := bC.but ((o4.grown g6).grown g9) (by omega) k11
 have q6 : bC h11 h4.size [.nils, ii 0] := bC.but (o6.grown g9) (by omega) k11
 have t11 := hT.grown G11; have hlt : ∀ c, Fp t FN c -> c < h.size := λ c hc => hT.lt hc
 have r11 : dV (NA t FN (FRn FR h.size h11.size)) h11 (.agg [s, ii T.gen]) T := (aEw hR λ c hc x => x.elim id λ y => by omega).grown G11
 have hA : ∀ c, h11.size <= c -> NA t FN (FRn FR h.size h11.size) c := λ c hc => ⟨λ x => by have := hlt c x; omega, λ x => x.elim (λ y => by have := (hFR c y).1; omega) λ y => by omega⟩
 have hFR' : ∀ c, FRn FR h.size h11.size c -> ¬ Fp t FN c := λ c x => x.elim (λ y => (hFR c y).2) λ y z => by have := hlt c z; omega
 have fx : ∀ q, aF q (.ptr h2.size 0) = some (.ptr h2.size q) := λ q => by rw [aL, Nat.zero_add]
 have rd0 : ∀ {hh : H}, bC hh h2.size (yV o) -> aG hh.get (.ptr h2.size 0) = some (.int .i64 o.kind) := λ x => x.read rfl
 have rd1 : ∀ {hh : H}, bC hh h2.size (yV o) -> aG hh.get (.ptr h2.size 1) = some (.int .i64 o.at_) := λ x => x.read rfl
 have rd2 : ∀ {hh : H}, bC hh h2.size (yV o) -> aG hh.get (.ptr h2.size 2) = some (.int .i64 o.n) := λ x => x.read rfl
 have rd3 : ∀ {hh : H}, bC hh h2.size (yV o) -> aG hh.get (.ptr h2.size 3) = some (.str o.path) := λ x => x.read rfl
 have rd4 : ∀ {hh : H}, bC hh h2.size (yV o) -> aG hh.get (.ptr h2.size 4) = some (.str o.other) := λ x => x.read rfl
 have rd5 : ∀ {hh : H}, bC hh h2.size (yV o) -> aG hh.get (.ptr h2.size 5) = some (.str o.text) := λ x => x.read rfl
 have fin : ∀ {hh h' : H} {v' : DV} {T' : TreeP} {C' : List DV} {FN' : Nat -> Ln}, aJ h11 hh -> cS h' t T' C' FN' -> dV (NA t FN' (FRn FR h.size h11.size)) h' v' T' -> lC (λ c => Fp t FN c \/ c = h4.size \/ c = h6.size) hh h' -> (∀ c, Fp t FN' c -> Fp t FN c \/ hh.size <= c) -> cS h' t T' C' FN' /\ dV (NA t FN' FR) h' v' T' /\ lH t h FN h' FN' := by
   intro hh h' v' T' C' FN' g a b c d; have zz := g.size; have gg := G11.trans g; have zg := gg.size; refine ⟨a, aEw b λ c _ x => .inl x, ⟨Nat.le_trans zg c.size, λ x hx hn => ?_⟩, λ x hx => (d x hx).elim .inl λ y => .inr (by omega)⟩
   rw [c.get x (by omega) (λ y => by rcases y with y | y | y <;> first | exact hn y | omega)]
   exact gg.get x hx
 show ∃ v' h' C' FN', aSk E (.ptr t 0) (.agg [s, ii T.gen]) (.agg (yV o)) h = _ /\ _; unfold aSk; rw [nbx eh2 rfl, nbx eh4 rfl, bT, <- eh6, (o2.grown g4 |>.grown g6).all (n := 2) rfl, aA, bT, <- eh9, f11, aB, fx, aA, rd0 q4, aA]; unfold opT; rw [jS, aA]; by_cases c1 : o.kind = 1
 · obtain ⟨B0, b0, s0⟩ := D.md.call; obtain ⟨B1, b1, s1⟩ := Q.md.call; obtain ⟨v', h19, f19, r19, g19⟩ := s0 _ _ T k o.path 2 h11 r11 hI hk okp hpl hA; rw [show (o.kind == Int.ofNat 1) = true from by rw [beq_iff_eq]; exact c1, aE, if_pos c1, q2.all (n := 2) rfl, aA, fx, aA, rd3 q4, aA, b0, f19, aB, aY, aA, aX, aA]
   obtain ⟨h', C', FN', y1, y2, y3, y4, y5⟩ := vN (E := E) (e := (mkT T o.path 2).2) (T' := (mkT T o.path 2).1) (P := λ h23 K => vK (aF 3 (.ptr h2.size 0)) λ a3 => vK (aG h23.get a3) λ y3 => wK (aD E 40 [.ptr t 0, y3] h23) K) (t11.grown g19) r19 (q4.grown g19) (q6.grown g19) rfl (fY.grown g19) rfl (.inr ⟨by omega, by omega⟩) (.inr ⟨by omega, by omega⟩) (by omega) (by omega) hFR' (λ h23 t23 q23 => by
     obtain ⟨h27, C', FN', f27, t27, s27⟩ := s1 t T C FN k o.path h23 t23 hI hk okp hpl; exact ⟨h27, C', FN', λ K => by simp only [fx, rd3 q23, aA, b1, f27, aB], t27, s27⟩)
   exact ⟨v', h', C', FN', y1, fin g19 y2 y3 y4 y5⟩
 rw [show (o.kind == Int.ofNat 1) = false from by rw [beq_eq_false_iff_ne]; exact c1, aC, if_neg c1]
 rw [jS, aA]; by_cases c2 : o.kind = 2
 · obtain ⟨B0, b0, s0⟩ := D.md.call; obtain ⟨B1, b1, s1⟩ := Q.cr.call; obtain ⟨v', h19, f19, r19, g19⟩ := s0 _ _ T k o.path 1 h11 r11 hI hk okp hpl hA; rw [show (o.kind == Int.ofNat 2) = true from by rw [beq_iff_eq]; exact c2, aE, if_pos c2, q2.all (n := 2) rfl, aA, fx, aA, rd3 q4, aA, b0, f19, aB, aY, aA, aX, aA]
   obtain ⟨h', C', FN', y1, y2, y3, y4, y5⟩ := vN (E := E) (e := (mkT T o.path 1).2) (T' := (mkT T o.path 1).1) (P := λ h23 K => vK (aF 3 (.ptr h2.size 0)) λ a3 => vK (aG h23.get a3) λ y3 => wK (aD E 41 [.ptr t 0, y3] h23) K) (t11.grown g19) r19 (q4.grown g19) (q6.grown g19) rfl (fY.grown g19) rfl (.inr ⟨by omega, by omega⟩) (.inr ⟨by omega, by omega⟩) (by omega) (by omega) hFR' (λ h23 t23 q23 => by
     obtain ⟨h27, C', FN', f27, t27, s27⟩ := s1 t T C FN k o.path h23 t23 hI hk okp hpl; exact ⟨h27, C', FN', λ K => by simp only [fx, rd3 q23, aA, b1, f27, aB], t27, s27⟩)
   exact ⟨v', h', C', FN', y1, fin g19 y2 y3 y4 y5⟩
 rw [show (o.kind == Int.ofNat 2) = false from by rw [beq_eq_false_iff_ne]; exact c2, aC, if_neg c2]
 rw [jS, aA]; by_cases c3 : o.kind = 3
 · obtain ⟨B0, b0, s0⟩ := D.un.call; obtain ⟨B1, b1, s1⟩ := Q.un.call; obtain ⟨v', h19, f19, r19, g19⟩ := s0 _ _ T k o.path h11 r11 hI hk hpl hA; rw [show (o.kind == Int.ofNat 3) = true from by rw [beq_iff_eq]; exact c3, aE, if_pos c3, q2.all (n := 2) rfl, aA, fx, aA, rd3 q4, aA, b0, f19, aB, aY, aA, aX, aA]
   obtain ⟨h', C', FN', y1, y2, y3, y4, y5⟩ := vN (E := E) (e := (kS T o.path).2) (T' := (kS T o.path).1) (P := λ h23 K => vK (aF 3 (.ptr h2.size 0)) λ a3 => vK (aG h23.get a3) λ y3 => wK (aD E 42 [.ptr t 0, y3] h23) K) (t11.grown g19) r19 (q4.grown g19) (q6.grown g19) rfl (fY.grown g19) rfl (.inr ⟨by omega, by omega⟩) (.inr ⟨by omega, by omega⟩) (by omega) (by omega) hFR' (λ h23 t23 q23 => by
     obtain ⟨h27, C', FN', f27, t27, s27⟩ := s1 t T C FN k o.path h23 t23 hI hk okp hpl; exact ⟨h27, C', FN', λ K => by simp only [fx, rd3 q23, aA, b1, f27, aB], t27, s27⟩)
   exact ⟨v', h', C', FN', y1, fin g19 y2 y3 y4 y5⟩
 rw [show (o.kind == Int.ofNat 3) = false from by rw [beq_eq_false_iff_ne]; exact c3, aC, if_neg c3]
 rw [jS, aA]; by_cases c4 : o.kind = 4
 · obtain ⟨B0, b0, s0⟩ := D.rm.call; obtain ⟨B1, b1, s1⟩ := Q.rm.call; obtain ⟨v', h19, f19, r19, g19⟩ := s0 _ _ T k o.path h11 r11 hI hk hpl hA; rw [show (o.kind == Int.ofNat 4) = true from by rw [beq_iff_eq]; exact c4, aE, if_pos c4, q2.all (n := 2) rfl, aA, fx, aA, rd3 q4, aA, b0, f19, aB, aY, aA, aX, aA]
   obtain ⟨h', C', FN', y1, y2, y3, y4, y5⟩ := vN (E := E) (e := (nB T o.path).2) (T' := (nB T o.path).1) (P := λ h23 K => vK (aF 3 (.ptr h2.size 0)) λ a3 => vK (aG h23.get a3) λ y3 => wK (aD E 43 [.ptr t 0, y3] h23) K) (t11.grown g19) r19 (q4.grown g19) (q6.grown g19) rfl (fY.grown g19) rfl (.inr ⟨by omega, by omega⟩) (.inr ⟨by omega, by omega⟩) (by omega) (by omega) hFR' (λ h23 t23 q23 => by
     obtain ⟨h27, C', FN', f27, t27, s27⟩ := s1 t T C FN k o.path h23 t23 hI hk okp hpl; exact ⟨h27, C', FN', λ K => by simp only [fx, rd3 q23, aA, b1, f27, aB], t27, s27⟩)
   exact ⟨v', h', C', FN', y1, fin g19 y2 y3 y4 y5⟩
 rw [show (o.kind == Int.ofNat 4) = false from by rw [beq_eq_false_iff_ne]; exact c4, aC, if_neg c4]
 rw [jS, aA]; by_cases c5 : o.kind = 5
 · obtain ⟨B0, b0, s0⟩ := D.rn.call; obtain ⟨B1, b1, s1⟩ := Q.rn.call; obtain ⟨v', h19, f19, r19, g19⟩ := s0 _ _ T k o.path o.other h11 r11 hI hk hpl hol oko hA; rw [show (o.kind == Int.ofNat 5) = true from by rw [beq_iff_eq]; exact c5, aE, if_pos c5, q2.all (n := 2) rfl, aA, fx, aA, rd3 q4, aA, fx, aA, rd4 q4, aA, b0, f19, aB, aY, aA, aX, aA]
   obtain ⟨h', C', FN', y1, y2, y3, y4, y5⟩ := vN (E := E) (e := (kV T o.path o.other).2) (T' := (kV T o.path o.other).1) (P := λ h23 K => vK (aF 3 (.ptr h2.size 0)) λ a3 => vK (aG h23.get a3) λ y3 => vK (aF 4 (.ptr h2.size 0)) λ a4 => vK (aG h23.get a4) λ y4 => wK (aD E 44 [.ptr t 0, y3, y4] h23) K) (t11.grown g19) r19 (q4.grown g19) (q6.grown g19) rfl (fY.grown g19) rfl (.inr ⟨by omega, by omega⟩) (.inr ⟨by omega, by omega⟩) (by omega) (by omega) hFR' (λ h23 t23 q23 => by
     obtain ⟨h27, C', FN', f27, t27, s27⟩ := s1 t T C FN k o.path o.other h23 t23 hI hk oko hpl hol; exact ⟨h27, C', FN', λ K => by simp only [fx, rd3 q23, rd4 q23, aA, b1, f27, aB], t27, s27⟩)
   exact ⟨v', h', C', FN', y1, fin g19 y2 y3 y4 y5⟩
 rw [show (o.kind == Int.ofNat 5) = false from by rw [beq_eq_false_iff_ne]; exact c5, aC, if_neg c5]
 rw [jS, aA]; by_cases c6 : o.kind = 6
 · obtain ⟨B0, b0, s0⟩ := D.ln.call; obtain ⟨B1, b1, s1⟩ := Q.ln.call; obtain ⟨v', h19, f19, r19, g19⟩ := s0 _ _ T k o.path o.other h11 r11 hI hk hpl hol oko hA; rw [show (o.kind == Int.ofNat 6) = true from by rw [beq_iff_eq]; exact c6, aE, if_pos c6, q2.all (n := 2) rfl, aA, fx, aA, rd3 q4, aA, fx, aA, rd4 q4, aA, b0, f19, aB, aY, aA, aX, aA]
   obtain ⟨h', C', FN', y1, y2, y3, y4, y5⟩ := vN (E := E) (e := (rW T o.path o.other).2) (T' := (rW T o.path o.other).1) (P := λ h23 K => vK (aF 3 (.ptr h2.size 0)) λ a3 => vK (aG h23.get a3) λ y3 => vK (aF 4 (.ptr h2.size 0)) λ a4 => vK (aG h23.get a4) λ y4 => wK (aD E 45 [.ptr t 0, y3, y4] h23) K) (t11.grown g19) r19 (q4.grown g19) (q6.grown g19) rfl (fY.grown g19) rfl (.inr ⟨by omega, by omega⟩) (.inr ⟨by omega, by omega⟩) (by omega) (by omega) hFR' (λ h23 t23 q23 => by
     obtain ⟨h27, C', FN', f27, t27, s27⟩ := s1 t T C FN k o.path o.other h23 t23 hI hk oko hpl hol; exact ⟨h27, C', FN', λ K => by simp only [fx, rd3 q23, rd4 q23, aA, b1, f27, aB], t27, s27⟩)
   exact ⟨v', h', C', FN', y1, fin g19 y2 y3 y4 y5⟩
 rw [show (o.kind == Int.ofNat 6) = false from by rw [beq_eq_false_iff_ne]; exact c6, aC, if_neg c6]
 rw [jS, aA]; by_cases c7 : o.kind = 7
 · obtain ⟨B0, b0, s0⟩ := D.wr.call; obtain ⟨B1, b1, s1⟩ := Q.wr.call; obtain ⟨v', h19, f19, r19, g19⟩ := s0 _ _ T k o.path o.at_ o.text h11 r11 hI hk hpl okt ha0 hA; rw [show (o.kind == Int.ofNat 7) = true from by rw [beq_iff_eq]; exact c7, aE, if_pos c7, q2.all (n := 2) rfl, aA, fx, aA, rd3 q4, aA, fx, aA, rd1 q4, aA, fx, aA, rd5 q4, aA, b0, f19, aB, aY, aA, aX, aA]
   obtain ⟨h', C', FN', y1, y2, y3, y4, y5⟩ := vN (E := E) (e := (pF T o.path o.at_ o.text).2) (T' := (pF T o.path o.at_ o.text).1) (P := λ h23 K => vK (aF 3 (.ptr h2.size 0)) λ a3 => vK (aG h23.get a3) λ y3 => vK (aF 1 (.ptr h2.size 0)) λ a1 => vK (aG h23.get a1) λ y1 => vK (aF 5 (.ptr h2.size 0)) λ a5 => vK (aG h23.get a5) λ y5 => wK (aD E 46 [.ptr t 0, y3, y1, y5] h23) K) (t11.grown g19) r19 (q4.grown g19) (q6.grown g19) rfl (fY.grown g19) rfl (.inr ⟨by omega, by omega⟩) (.inr ⟨by omega, by omega⟩) (by omega) (by omega) hFR' (λ h23 t23 q23 => by
     obtain ⟨h27, C', FN', f27, t27, s27⟩ := s1 t T C FN k o.path o.at_ o.text h23 t23 hI hk hpl okt ha0; exact ⟨h27, C', FN', λ K => by simp only [fx, rd3 q23, rd1 q23, rd5 q23, aA, b1, f27, aB], t27, s27⟩)
   exact ⟨v', h', C', FN', y1, fin g19 y2 y3 y4 y5⟩
 rw [show (o.kind == Int.ofNat 7) = false from by rw [beq_eq_false_iff_ne]; exact c7, aC, if_neg c7]
 rw [jS, aA]; by_cases c8 : o.kind = 8
 · obtain ⟨B0, b0, s0⟩ := D.tr.call; obtain ⟨B1, b1, s1⟩ := Q.tr.call; obtain ⟨v', h19, f19, r19, g19⟩ := s0 _ _ T k o.path o.n h11 r11 hI hk hpl hn0 hA; rw [show (o.kind == Int.ofNat 8) = true from by rw [beq_iff_eq]; exact c8, aE, if_pos c8, q2.all (n := 2) rfl, aA, fx, aA, rd3 q4, aA, fx, aA, rd2 q4, aA, b0, f19, aB, aY, aA, aX, aA]
   obtain ⟨h', C', FN', y1, y2, y3, y4, y5⟩ := vN (E := E) (e := (pJ T o.path o.n).2) (T' := (pJ T o.path o.n).1) (P := λ h23 K => vK (aF 3 (.ptr h2.size 0)) λ a3 => vK (aG h23.get a3) λ y3 => vK (aF 2 (.ptr h2.size 0)) λ a2 => vK (aG h23.get a2) λ y2 => wK (aD E 47 [.ptr t 0, y3, y2] h23) K) (t11.grown g19) r19 (q4.grown g19) (q6.grown g19) rfl (fY.grown g19) rfl (.inr ⟨by omega, by omega⟩) (.inr ⟨by omega, by omega⟩) (by omega) (by omega) hFR' (λ h23 t23 q23 => by
     obtain ⟨h27, C', FN', f27, t27, s27⟩ := s1 t T C FN k o.path o.n h23 t23 hI hk hpl hn0; exact ⟨h27, C', FN', λ K => by simp only [fx, rd3 q23, rd2 q23, aA, b1, f27, aB], t27, s27⟩)
   exact ⟨v', h', C', FN', y1, fin g19 y2 y3 y4 y5⟩
 rw [show (o.kind == Int.ofNat 8) = false from by rw [beq_eq_false_iff_ne]; exact c8, aC, if_neg c8]
 obtain ⟨h', f', o', k'⟩ := q6.setAll (n := 2) (cs := [s, ii T.gen]) rfl rfl one2; obtain ⟨a, b, c⟩ := fin (aJ.refl h11) (t11.off (k'.off (F := λ c => c = h4.size) rfl) λ c hc e => by have := hlt c hc; omega) (wR r11 k' (.inr ⟨by omega, by omega⟩)) ((k'.off (F := λ c => c = h4.size) rfl).weak λ c _ hc => .inr (.inl hc)) (λ c hc => .inl hc)
 refine ⟨_, h', C, FN, ?_, a, b, c⟩; unfold sN; rw [fY.all (n := 2) rfl, aA, cC, aA, f', aB, o'.all (n := 2) rfl, aA, decide_eq_true rfl]
def xW (l : List OpP) : List DV := l.flatMap yV
theorem vC : ∀ l : List OpP, (xW l).length = l.length * 6
 | [] => rfl
 | x :: xs => by
   show (yV x ++ xW xs).length = _; rw [List.length_append, vC xs]; simp [yV]; omega
theorem aLL : ∀ {xs : List OpP} {i : Nat} {x : OpP}, xs[i]? = some x -> ∀ j, j < 6 -> (xW xs)[i * 6 + j]? = (yV x)[j]?
 | [], i, x, h, _, _ => by simp at h
 | y :: xs, 0, x, h, j, hj => by
   simp at h; subst h; show (yV y ++ xW xs)[_]? = _; rw [Nat.zero_mul, Nat.zero_add, List.getElem?_append_left (by simpa [yV] using hj)]
 | y :: xs, i + 1, x, h, j, hj => by
   simp only [List.getElem?_cons_succ] at h; show (yV y ++ xW xs)[_]? = _; rw [List.getElem?_append_right (by simp [yV]; omega)]
   have : (i + 1) * 6 + j - (yV y).length = i * 6 + j := by simp [yV]; omega
   rw [this]; exact aLL h j hj
theorem aUV {A : Nat -> Prop} {h : H} {s : DV} {xs : List OpP} (r : RowE A 6 h s (xW xs)) {i : Nat} {x : OpP} (he : xs[i]? = some x) (k : IntKind) :
   ∃ b o, bZ 6 s (.int k (.ofNat i)) = some (.ptr b o) /\ (∀ q, aF q (.ptr b o) = some (.ptr b (o + q))) /\ aG h.get (.ptr b (o + 0)) = some (.int .i64 x.kind) /\ aG h.get (.ptr b (o + 1)) = some (.int .i64 x.at_) /\ aG h.get (.ptr b (o + 2)) = some (.int .i64 x.n) /\
     aG h.get (.ptr b (o + 3)) = some (.str x.path) /\ aG h.get (.ptr b (o + 4)) = some (.str x.other) /\ aG h.get (.ptr b (o + 5)) = some (.str x.text) /\ aK 6 h.get (.ptr b o) = some (.agg (yV x)) := by
 obtain ⟨b, o, h1, h2⟩ := r.ix (i := i) (n := xs.length) (vC xs) (List.getElem?_eq_some_iff.1 he).1 (by omega) k
 have g := aLL he; have c : ∀ j, j < 6 -> ∀ y, (yV x)[j]? = some y -> rdCell h.get b (o + j) = some y := λ j hj y hy => h2 j y hj (by rw [g j hj]; exact hy)
 have c0 := c 0 (by omega) _ rfl
 have c1 := c 1 (by omega) _ rfl
 have c2 := c 2 (by omega) _ rfl
 have c3 := c 3 (by omega) _ rfl
 have c4 := c 4 (by omega) _ rfl
 have c5 := c 5 (by omega) _ rfl
 refine ⟨b, o, h1, λ q => aL q b o, by simp only [aG, cI]; exact c0, by simp only [aG, cI]; exact c1, by simp only [aG, cI]; exact c2, by simp only [aG, cI]; exact c3, by simp only [aG, cI]; exact c4, by simp only [aG, cI]; exact c5, ?_⟩
 rw [Nat.add_zero] at c0; have hc : rdCells h.get b o 6 = some (yV x) := by
   simp only [rdCells, c0, c1, c2, c3, c4, c5, Nat.add_assoc, Nat.reduceAdd]; rfl
 simp only [aK, cH, hc]; rfl
theorem aAG {A : Nat -> Prop} {h : H} {s : DV} {xs : List OpP} (r : RowE A 6 h s (xW xs)) : cB s = some (ii xs.length) := by
 obtain ⟨n, e1, e2⟩ := r.len; have : n = xs.length := by rw [vC] at e1; omega
 rw [<- this]; exact e2
def aDH (o : OpP) : Prop := o.path.length <= 600 /\ o.other.length <= 600 /\ o.text.length <= 20000
def aKA (B : cD) : Prop := ∀ (A : Nat -> Prop) (v : DV) (l : List OpP) (h : H), RowE A 6 h v (xW l) -> ∃ e, B [v] h = some (ii e, h) /\ (e ≠ 0 -> l.length <= 60 /\ ∀ o ∈ l, aDH o)
theorem aON {E : bN} {A : Nat -> Prop} {v : DV} {l : List OpP} {h : H} (r : RowE A 6 h v (xW l)) (hl : l.length <= 60) : ∀ (k i m : Nat), l.length - i = k -> i <= l.length ->
   ∃ e, aHQ E v (m + (k + 1)) (ii i) h = some (ii e, h) /\ (e ≠ 0 -> ∀ o ∈ l.drop i, aDH o) := by
 intro k
 induction k with
 | zero =>
   intro i m hk hi; have : i = l.length := by omega
   subst this; refine ⟨1, ?_, λ _ o ho => by rw [List.drop_length] at ho; cases ho⟩
   show aNl E v (aHQ E v m) _ h = _; unfold aNl; rw [aAG r, aA, aO, aA, decide_eq_false (Nat.lt_irrefl _), aC]
   rfl
 | succ k ih =>
   intro i m hk hi; have hlt : i < l.length := by omega
   obtain ⟨x, hx⟩ : ∃ x, l[i]? = some x := ⟨_, List.getElem?_eq_getElem hlt⟩; obtain ⟨b, o, q1, q2, q3, q4, q5, q6, q7, q8, q9⟩ := aUV r hx .i64; have hd : l.drop i = x :: l.drop (i + 1) := by
     rw [List.drop_eq_getElem_cons hlt]; rw [List.getElem?_eq_getElem hlt] at hx; rw [Option.some.inj hx]
   show ∃ e, aNl E v (aHQ E v (m + (k + 1))) _ h = _ /\ _; unfold aNl; rw [aAG r, aA, aO, aA, decide_eq_true hlt, aE, q1, aA, q2, aA, q6, aA, bB, aA, dK, aA]; by_cases c1 : 600 < x.path.length
   · simp only [decide_eq_true c1, iL, fJ, cL, aA]; rw [aE]; exact ⟨0, rfl, λ y => absurd rfl y⟩
   · simp only [decide_eq_false c1, eI, q1, q2, q7, bB, dK, cM, aA]; by_cases c2 : 600 < x.other.length
     · simp only [decide_eq_true c2, iL, fJ, cL, aA]; rw [aE]; exact ⟨0, rfl, λ y => absurd rfl y⟩
     · simp only [decide_eq_false c2, eI, q1, q2, q8, bB, dK, cM, aA]; by_cases c3 : 20000 < x.text.length
       · rw [decide_eq_true c3, aE]; exact ⟨0, rfl, λ y => absurd rfl y⟩
       · obtain ⟨e, y1, y2⟩ := ih (i + 1) m (by omega) (by omega)
         rw [decide_eq_false c3, aC, bV (by omega), aA]
         refine ⟨e, y1, λ he o ho => ?_⟩
         rw [hd] at ho; rcases List.mem_cons.1 ho with rfl | ho
         · exact ⟨by omega, by omega, by omega⟩
         · exact y2 he o ho
theorem aVE {E : bN} : aKA (S20 E) := by
 intro A v l h r; show ∃ e, aSp E v h = _ /\ _; unfold aSp; rw [aAG r, aA, dK, aA]; by_cases c : 60 < l.length
 · rw [decide_eq_true c, aE]; exact ⟨0, rfl, λ y => absurd rfl y⟩
 · rw [decide_eq_false c, aC]; obtain ⟨e, y1, y2⟩ := aON (E := E) r (by omega) l.length 0 (aT - (l.length + 1)) rfl (by omega)
   rw [show aT - (l.length + 1) + (l.length + 1) = aT from by unfold aT; omega] at y1
   exact ⟨e, y1, λ he => ⟨by omega, by have := y2 he; rwa [List.drop_zero] at this⟩⟩
theorem aVl (rd : Rd) (k : IntKind) (a b : Int) : jN rd .int (.int k a) (.int k b) = some (decide (a = b)) := by
 show (bif decide (k = k) then some (iEq a b) else none) = _; rw [decide_eq_true rfl, cond_true, rF]
 congr 1
theorem aNw (rd : Rd) (l : Ln) (hl : l.length = 5) : aAp false (.leaf .int 0 (.leaf .int 1 (.leaf .int 2 (.leaf .int 3 (.leaf .int 4 .nil))))) rd (.agg (eN l)) (.agg (eN l)) = some (.bool true) := by
 match l, hl with
 | [a, b, c, d, e], _ =>
   have s : ∀ n : Nat, jN rd .int (ii n) (ii n) = some true := λ n => by rw [aVl]; simp
   show (match jN rd .int (ii a) (ii a) with
     | some x => bif x then (match jN rd .int (ii b) (ii b) with
       | some x => bif x then (match jN rd .int (ii c) (ii c) with
         | some x => bif x then (match jN rd .int (ii d) (ii d) with
           | some x => bif x then (match jN rd .int (ii e) (ii e) with
             | some x => bif x then some true else some false
             | none => none) else some false
           | none => none) else some false
         | none => none) else some false
       | none => none) else some false
     | none => none).bind (λ b => eU (bif false then !b else b)) = _
   rw [s a, s b, s c, s d, s e]; simp only [cond_true, cond_false, Option.bind_some, fK]
theorem bBU (T : TreeP) (p : Ln) : (stT T p).1.length = 5 := by
 unfold stT; split
 · unfold aGW; split <;> rfl
 · rfl
def aBg (B : cD) : Prop := ∀ (t : Nat) (T : TreeP) (C : List DV) (FN : Nat -> Ln) (k : Nat) (A : Nat -> Prop) (v : DV) (o : OpP) (h : H), cS h t T C FN -> dV A h v T -> Inv k T -> k < 900 -> o.ok -> o.path.length < 140737488355328 ->
 ∃ h', B [.ptr t 0, v, .agg (yV o)] h = some (.bool true, h') /\ aJ h h'
theorem aTm {k : Nat} {T : TreeP} (hI : Inv k T) (hk : k < 900) (p : Ln) : (aCZ T p).1.length < 1000000000 := by
 unfold aCZ; split
 · split
   · simp
   · split
     · rename_i n hn; have := (hI.of hn).1.len; rw [List.length_map]; omega
     · simp
 · simp
theorem aSP {E : bN} (Q : bBF E) (D : aSq E) (hTx : bY E 79 aCE) : aBg (S30 E) := by
 obtain ⟨B1, b1, s1⟩ := Q.rd.call; obtain ⟨B2, b2, s2⟩ := D.rd.call; obtain ⟨B3, b3, s3⟩ := Q.st.call; obtain ⟨B4, b4, s4⟩ := D.st.call; obtain ⟨B5, b5, s5⟩ := Q.li.call; obtain ⟨B6, b6, s6⟩ := D.li.call; obtain ⟨B7, b7, s7⟩ := hTx.call; intro t T C FN k A v o h hT hR hI hk hok hpl; obtain ⟨hk0, ha0, hn0, okp, oko, okt⟩ := id hok; obtain ⟨s, ev, hs⟩ := hR.agg; subst ev; have z5 : [(ii 0), (ii 0), (ii 0), (ii 0), (ii 0)] = eN [0, 0, 0, 0, 0] := rfl; have one5 : ∀ l : Ln, (eN l).all DV.one = true := λ l => by
   unfold eN; rw [List.all_eq_true]; intro x hx; obtain ⟨y, _, rfl⟩ := List.mem_map.1 hx
   rfl
 obtain ⟨h2, eh2, g2, o2⟩ := aN h 2 2 [s, ii T.gen] rfl; obtain ⟨h4, eh4, g4, o4⟩ := aN h2 6 6 (yV o) rfl; have G4 := g2.trans g4; obtain ⟨h12, f12, g12⟩ := s1 t T C FN k o.path o.at_ o.n h4 (hT.grown G4) hI hk hpl ha0 hn0; have G12 := G4.trans g12; obtain ⟨h23, f23, g23⟩ := s2 A _ T k o.path o.at_ o.n h12 (hR.grown G12) hI hk hpl ha0 hn0; have G23 := G12.trans g23; obtain ⟨h29, f29, g29⟩ := s3 t T C FN k o.path h23 (hT.grown G23) hI hk hpl; have G29 := G23.trans g29; have hsl := bBU T o.path; generalize hst : stT T o.path = st at *; obtain ⟨h33, eh33, g33, mF⟩ := aN h29 5 5 (eN [0, 0, 0, 0, 0]) rfl; obtain ⟨h35, f35, oW, k35⟩ := mF.setAll (n := 5) (cs := eN st.1) rfl (mZ hsl) (one5 _); have g2935 : aJ h29 h35 := k35.grown g33 (Nat.le_refl _); have G35 := G29.trans g2935; obtain ⟨h40, f40, g40⟩ := s4 A _ T k o.path h35 (hR.grown G35) hI hk hpl; rw [hst] at f40; have G40 := G35.trans g40; obtain ⟨h44, eh44, g44, rT⟩ := aN h40 5 5 (eN [0, 0, 0, 0, 0]) rfl; obtain ⟨h46, f46, uL, k46⟩ := rT.setAll (n := 5) (cs := eN st.1) rfl (mZ hsl) (one5 _); have g4046 : aJ h40 h46 := k46.grown g44 (Nat.le_refl _); have G46 := G40.trans g4046; obtain ⟨w, h50, f50, r50, g50⟩ := s5 t T C FN k o.path h46 (hT.grown G46) hI hk hpl; have G50 := G46.trans g50; obtain ⟨u, h57, f57, r57, g57⟩ := s6 A _ T k o.path h50 (hR.grown G50) hI hk hpl; have G57 := G50.trans g57; have fx : ∀ q, aF q (.ptr h2.size 0) = some (.ptr h2.size q) := λ q => by rw [aL, Nat.zero_add]
 have o412 := o4.grown g12; have o423 := o412.grown g23; have o435 := (o423.grown g29).grown g2935; have o446 := (o435.grown g40).grown g4046; have o450 := o446.grown g50; have o2' := o2.grown g4; have o212 := o2'.grown g12; have o235 := ((o212.grown g23).grown g29).grown g2935; have o250 := ((o235.grown g40).grown g4046).grown g50; have a57 := ((((oW.grown g40).grown g4046).grown g50).grown g57).all (n := 5) (mZ hsl); have b57 := ((uL.grown g50).grown g57).all (n := 5) (mZ hsl); have tx := s7 w u _ _ h57 (r50.grown g57) r57 (aTm hI hk o.path); rw [decide_eq_true rfl] at tx; refine ⟨h57, ?_, G57⟩; show aSj E (.ptr t 0) (.agg [s, ii T.gen]) (.agg (yV o)) h = _; unfold aSj; rw [nbx eh2 rfl, nbx eh4 rfl,
   fx, aA, o4.read (j := 3) rfl, aA, fx, aA, o4.read (j := 1) rfl, aA, fx, aA, o4.read (j := 2) rfl, aA, b1, f12, aB, aY, aA, aX, aA, o212.all (n := 2) rfl, aA,
   aA, o412.read (j := 3) rfl, aA, aA, o412.read (j := 1) rfl, aA, aA, o412.read (j := 2) rfl, aA, b2, f23, aB, aY, aA, aX, aA,
   aA, o423.read (j := 3) rfl, aA, b3, f29, aB, aY, aA, aX, aA, z5, bT, <- eh33, f35, aB, o235.all (n := 2) rfl, aA,
   aA, o435.read (j := 3) rfl, aA, b4, f40, aB, aY, aA, aX, aA, bT, <- eh44, f46, aB,
   aA, o446.read (j := 3) rfl, aA, b5, f50, aB, aY, aA, aX, aA, o250.all (n := 2) rfl, aA, aA, o450.read (j := 3) rfl, aA, b6, f57, aB, aY, aA, aX, aA]
 simp only [fM, beq_self_eq_true, aA, iK, cC, decide_true, cL, a57, b57, aNw _ _ hsl, b7, tx, aB]
theorem bUg {x : Bool} : gB (.bool false) false x = x := by cases x <;> rfl
theorem aQp {A : Nat -> Prop} {h : H} {v : DV} {T : TreeP} (r : dV A h v T) : rcK (some v) v = true := by
 obtain ⟨s, xs, rfl, _, e3, _⟩ := r; have hs : qH s s = true := wS e3; show qH _ _ = true; simp only [qH, aAU, hs, Bool.and_true, Bool.true_and, decide_true]
structure aDA (N0 : Nat) (hh : H) (t b : Nat) (T : TreeP) (C : List DV) (FN : Nat -> Ln) (v : DV) (k : Nat) : Prop where
 tree : cS hh t T C FN
 ref : dV (NA t FN (λ c => c = b)) hh v T
 inv : Inv k T
 box : ∃ s, v = .agg [s, ii T.gen] /\ s.one = true /\ bC hh b [s, ii T.gen]
 hb : ¬ Fp t FN b
 lo : ∀ c, Fp t FN c -> N0 <= c
 lob : N0 <= b
theorem aDA.grown {N0 : Nat} {hh h' : H} {t b : Nat} {T : TreeP} {C : List DV} {FN : Nat -> Ln} {v : DV} {k : Nat} (B : aDA N0 hh t b T C FN v k) (g : aJ hh h') : aDA N0 h' t b T C FN v k where
 tree := B.tree.grown g
 ref := B.ref.grown g
 inv := B.inv
 box := by obtain ⟨s, e, e1, o⟩ := B.box; exact ⟨s, e, e1, o.grown g⟩
 hb := B.hb
 lo := B.lo
 lob := B.lob
theorem aDA.ld {N0 : Nat} {hh : H} {t b : Nat} {T : TreeP} {C : List DV} {FN : Nat -> Ln} {v : DV} {k : Nat} (B : aDA N0 hh t b T C FN v k) : aK 2 hh.get (.ptr b 0) = some v := by
 obtain ⟨s, rfl, e1, o⟩ := B.box; exact o.all (n := 2) rfl
theorem aDA.size {N0 : Nat} {hh : H} {t b : Nat} {T : TreeP} {C : List DV} {FN : Nat -> Ln} {v : DV} {k : Nat} (B : aDA N0 hh t b T C FN v k) : N0 <= hh.size := by
 obtain ⟨s, _, _, o⟩ := B.box; have := B.lob; have := o.1; omega
theorem bDr {B : cD} (sB : aPQ B) {N0 : Nat} {hh : H} {t b : Nat} {T : TreeP} {C : List DV} {FN : Nat -> Ln} {v : DV} {k : Nat} {o : OpP} (S : aDA N0 hh t b T C FN v k) (hk : k < 900) (ho : o.ok) (hs : aDH o) :
   ∃ v' h9 h13 C' FN' s, B [.ptr t 0, v, .agg (yV o)] (hh.push (.blk ⟨2, 2, false, true, Tr.ofL [.nils, ii 0]⟩)) = some (.tup [v', .bool true], h9) /\ bR 2 (.ptr hh.size 0) v' h9 = some (.tup [], h13) /\ aK 2 h13.get (.ptr hh.size 0) = some v' /\
     cS h13 t (opT T o).1 C' FN' /\ dV (NA t FN' (λ c => c = b \/ c = hh.size)) h13 v' (opT T o).1 /\ dV (NA t FN' (λ c => c = b \/ c = hh.size)) h13 v T /\
     v' = .agg [s, ii ((opT T o).1.gen)] /\ s.one = true /\ aK 2 h13.get (.ptr b 0) = some v /\ (∃ L, bC h13 b L /\ L.length = 2) /\ bC h13 hh.size [s, ii ((opT T o).1.gen)] /\ ¬ Fp t FN' b /\ ¬ Fp t FN' hh.size /\ (∀ c, Fp t FN' c -> N0 <= c) /\ lC (λ c => N0 <= c) hh h13 /\ Inv (k + 1) (opT T o).1 /\ lC (Fp t FN) hh h13 /\ ∀ c, Fp t FN' c -> Fp t FN c \/ hh.size <= c := by
 obtain ⟨h7, eh7, g7, o7⟩ := aN hh 2 2 [.nils, ii 0] rfl; have z7 : h7.size = hh.size + 1 := by rw [eh7]; exact H.size_push _ _
 have S7 := S.grown g7; have hlt : ∀ c, Fp t FN c -> c < hh.size := λ c hc => S.tree.lt hc
 obtain ⟨sv, ev, hsv, ob⟩ := S7.box; have hb7 : b < hh.size := by
   obtain ⟨s, _, _, oo⟩ := S.box; exact oo.1
 have r7 : dV (NA t FN (λ c => c = b \/ c = hh.size)) h7 v T := (aEw S.ref λ c hc x => x.elim id λ y => by omega).grown g7
 have hFR : ∀ c, (c = b \/ c = hh.size) -> c < h7.size /\ ¬ Fp t FN c := λ c hc => by
   rcases hc with rfl | rfl
   · exact ⟨by omega, S.hb⟩
   · exact ⟨by omega, λ x => by have := hlt _ x; omega⟩
 obtain ⟨v', h9, C', FN', f9, t9, r9, s9⟩ := sB t T C FN k _ v o h7 S7.tree r7 S.inv hk hFR ho (by have := hs.1; omega) (by have := hs.2.1; omega)
 obtain ⟨s, ev', hs'⟩ := r9.agg; have one2 : ([s, ii ((opT T o).1.gen)]).all DV.one = true := by simp only [List.all_cons, List.all_nil, hs']; rfl
 have o9 := o7.off s9.off (hFR _ (.inr rfl)).2; obtain ⟨h13, f13, gA, k13⟩ := o9.setAll (n := 2) (cs := [s, ii ((opT T o).1.gen)]) rfl rfl one2; have nf : ∀ c, (c = b \/ c = hh.size) -> ¬ Fp t FN' c := λ c hc x => by
   obtain ⟨y1, y2⟩ := hFR c hc; rcases s9.fp c x with z | z
   · exact y2 z
   · omega
 have ob9 := ob.off s9.off S.hb; have ob13 := ob9.but (by omega) k13
 have hN := S.size; subst ev'; refine ⟨_, h9, h13, C', FN', s, by rw [<- eh7]; exact f9, f13, gA.all (n := 2) rfl, t9.off (k13.off (F := λ c => c = hh.size) rfl) (λ c hc e => nf _ (.inr rfl) (e ▸ hc)), wR r9 k13 (.inr rfl), wR (aLD r7 s9) k13 (.inr rfl), rfl, hs', by rw [ev]; exact ob13.all (n := 2) rfl, ⟨_, ob13, rfl⟩, gA, nf _ (.inl rfl), nf _ (.inr rfl), λ c hc => ?_, ((g7.off _).trans (s9.off.weak λ c _ hc => S.lo c hc)).trans (k13.off (F := λ c => N0 <= c) hN), bCr S.inv ho, (((g7.off _).trans (s9.off.weak λ c _ hc => .inl hc)).trans ((k13.off (F := λ c => c = hh.size) rfl).weak λ c _ hc => .inr hc)).weak (F := λ c => Fp t FN c \/ c = hh.size) λ c hc x => x.elim id λ y => by omega, λ c hc => (s9.fp c hc).elim .inl λ y => .inr (by omega)⟩
 rcases s9.fp c hc with x | x
 · exact S.lo c x
 · omega
theorem bKd {N0 : Nat} {hh : H} {t b : Nat} {T' : TreeP} {C' : List DV} {FN' : Nat -> Ln} {s : DV} {k : Nat} {FR : Nat -> Prop} (ht : cS hh t T' C' FN') (hr : dV (NA t FN' FR) hh (.agg [s, ii T'.gen]) T') (hs : s.one = true) (hFR : FR b) (ob : ∃ L, bC hh b L /\ L.length = 2) (hb : ¬ Fp t FN' b) (lo : ∀ c, Fp t FN' c -> N0 <= c) (lob : N0 <= b) (hI : Inv k T') :
   ∃ h16, bR 2 (.ptr b 0) (.agg [s, ii T'.gen]) hh = some (.tup [], h16) /\ aDA N0 h16 t b T' C' FN' (.agg [s, ii T'.gen]) k /\ lC (λ c => N0 <= c) hh h16 := by
 obtain ⟨L, ob, hL⟩ := ob; have one2 : ([s, ii T'.gen]).all DV.one = true := by simp only [List.all_cons, List.all_nil, hs]; rfl
 obtain ⟨h16, f16, hU, k16⟩ := ob.setAll (n := 2) (cs := [s, ii T'.gen]) hL rfl one2; refine ⟨h16, f16, ⟨ht.off (k16.off (F := λ c => c = b) rfl) (λ c hc e => hb (e ▸ hc)), (wR hr k16 hFR).move (Nat.le_refl _) (λ _ _ _ => rfl) (λ c hc _ => ⟨hc.1, λ e => hc.2 (e ▸ hFR)⟩), hI, ⟨s, rfl, hs, hU⟩, hb, lo, lob⟩, k16.off lob⟩
theorem aWj {E : bN} (Q : aDQ E) (D : aKD E) (h : H) :
   ∃ t v h7 h9 h13 C FN b, aD E 21 [] h = some (.ptr t 0, h7) /\ aD E 22 [] h7 = some (v, h9) /\ b = h9.size /\ bR 2 (.ptr h9.size 0) v (h9.push (.blk ⟨2, 2, false, true, Tr.ofL [.nils, ii 0]⟩)) = some (.tup [], h13) /\ aDA h.size h13 t b rO C FN v 0 /\ aJ h h13 := by
 obtain ⟨B0, b0, s0⟩ := Q.nw.call; obtain ⟨B1, b1, s1⟩ := D.nw.call; obtain ⟨t, h7, C, FN, f7, t7, g7, lo⟩ := s0 h; have hlt : ∀ c, Fp t FN c -> c < h7.size := λ c hc => t7.lt hc
 obtain ⟨v, h9, f9, r9, g9⟩ := s1 (λ c => h7.size <= c) h7 λ c hc => hc
 obtain ⟨s, ev, hs⟩ := r9.agg; obtain ⟨h11, eh, g11, fY⟩ := aN h9 2 2 [.nils, ii 0] rfl; have one2 : ([s, ii rO.gen]).all DV.one = true := by simp only [List.all_cons, List.all_nil, hs]; rfl
 obtain ⟨h13, f13, gA, k13⟩ := fY.setAll (n := 2) (cs := [s, ii rO.gen]) rfl rfl one2; have z9 := g9.size; have z7 := g7.size; have G : aJ h9 h13 := k13.grown g11 (Nat.le_refl _); subst ev; refine ⟨t, _, h7, h9, h13, C, FN, h9.size, by rw [b0]; exact f7, by rw [b1]; exact f9, rfl, by rw [<- eh]; exact f13, ⟨(t7.grown g9).grown G, (r9.move (A' := NA t FN (λ c => c = h9.size)) (Nat.le_refl _) (λ _ _ _ => rfl) (λ c hc hl => ⟨λ x => by have := hlt c x; omega, λ e => by omega⟩)).grown G, aSE, ⟨s, rfl, hs, gA⟩, λ x => by have := hlt _ x; omega, lo, by omega⟩, (g7.trans g9).trans G⟩
structure aPd (E : bN) : Prop where
 dd : bY E 29 aPQ
 fw : bY E 20 aKA
 P : aDQ E
 D : aKD E
 aw : E 28 = some aFG
theorem aQm {n : Nat} {h h' : H} {w : DV} {l : List OpP} (r : RowE (λ c => c < n) 6 h w (xW l)) (k : lC (λ c => n <= c) h h') : RowE (λ c => c < n) 6 h' w (xW l) := r.off k λ c hc x => by omega
theorem aIK {E : bN} (K : aPd E) (hS : bY E 30 aBg) (hT : bY E 31 vZ) (hR : bY E 32 sH) {l : List OpP} {w : DV} {n0 t b : Nat} (hok : ∀ o ∈ l, o.ok /\ aDH o) (hl : l.length <= 60) :
   ∀ (k i m : Nat) (hh : H) (T : TreeP) (C : List DV) (FN : Nat -> Ln) (v : DV), l.length - i = k -> i <= l.length -> RowE (λ c => c < n0) 6 hh w (xW l) -> aDA n0 hh t b T C FN v i ->
   (aTV E w (.ptr t 0) (.ptr b 0) (m + (k + 1)) (ii i) hh).map (·.1) = some (.bool true) := by
 obtain ⟨B0, b0, s0⟩ := K.dd.call; obtain ⟨B1, b1, s1⟩ := hS.call; obtain ⟨B2, b2, s2⟩ := hT.call; obtain ⟨B3, b3, s3⟩ := hR.call; obtain ⟨B4, b4, s4⟩ := K.P.tx.call; obtain ⟨B5, b5, s5⟩ := K.D.tx.call; have aw : ∀ m, aD E 28 [] m = some (.bool true, m) := λ m => by rw [cP K.aw]; rfl
 intro k
 induction k with
 | zero =>
   intro i m hh T C FN v hk hi r S; have : i = l.length := by omega
   subst this; show (bBE E w _ _ (aTV E w _ _ m) _ hh).map _ = _; unfold bBE; rw [aAG r, aA, aO, aA, decide_eq_false (Nat.lt_irrefl _), aC]; unfold bFF; obtain ⟨h3, f3, g3⟩ := s4 t T C FN _ hh S.tree S.inv (by omega)
   have S3 := S.grown g3; obtain ⟨h5, f5, g5⟩ := s5 _ v T _ h3 S3.ref S3.inv (by omega)
   rw [S.ld, aA, b4, f3, aB, S3.ld, aQp S3.ref, fU, b5, f5, aB]; simp only [fM, beq_self_eq_true, aA, iK, aw, aB, cL, Option.map_some]
 | succ k ih =>
   intro i m hh T C FN v hk hi r S; have hlt : i < l.length := by omega
   obtain ⟨o, ho⟩ : ∃ o, l[i]? = some o := ⟨_, List.getElem?_eq_getElem hlt⟩; obtain ⟨ok1, ok2⟩ := hok o (List.mem_of_getElem? ho); obtain ⟨rb, ro, q1, q2, q3, q4, q5, q6, q7, q8, q9⟩ := aUV r ho .i64; obtain ⟨v', h9, h13, C', FN', s, f9, f13, l13, t13, r13, _, rfl, hs, _, ob, _, nb, nh, lo, off13, hI, _, _⟩ := bDr s0 S (by omega) ok1 ok2
   obtain ⟨h16, f16, S16, off16⟩ := bKd t13 r13 hs (.inl rfl) ob nb lo S.lob hI; have r16 := aQm (aQm r off13) off16; obtain ⟨rb', ro', p1, p2, p3, p4, p5, p6, p7, p8, p9⟩ := aUV r16 ho .i64; obtain ⟨h31, f31, g31⟩ := s1 t _ C' FN' _ _ _ o h16 S16.tree S16.ref S16.inv (by omega) ok1 (by have := ok2.1; omega)
   have S31 := S16.grown g31; have f40 := s2 t _ C' FN' h31 S31.tree; have htl := S31.inv.tot; have hll := S31.inv.llen; obtain ⟨h42, f42, g42⟩ := s3 _ _ _ h31 S31.ref (by omega) (by omega)
   have S42 := S31.grown g42; have r42 := (r16.grown g31).grown g42; show (bBE E w _ _ (aTV E w _ _ (m + (k + 1))) _ hh).map _ = _; unfold bBE; rw [aAG r, aA, aO, aA, decide_eq_true hlt, aE, S.ld, aA, q1, aA, q9, aA, bT, b0, f9, aB, aY, aA, aX, aA, f13, aB, l13, aA, f16, aB, fD, aA, Bool.not_true]; simp only [eI, S16.ld, aA, p1, p9, b1, f31, aB, fD, Bool.not_true, cM, S31.ld, b2, f40, bUg, aQp S31.ref, fU, b3, f42, bQ, decide_true]; rw [aC, bV (by omega), aA]
   exact ih (i + 1) m h42 _ C' FN' _ (by omega) (by omega) r42 S42
theorem aGO {E : bN} (K : aPd E) (hS : bY E 30 aBg) (hT : bY E 31 vZ) (hR : bY E 32 sH) {A : Nat -> Prop} {w : DV} {l : List OpP} {h0 : H} (r : RowE A 6 h0 w (xW l)) (hok : ∀ o ∈ l, o.ok) : (S8 E [w] h0).map (·.1) = some (.bool true) := by
 obtain ⟨B0, b0, s0⟩ := K.fw.call; have aw : ∀ m, aD E 28 [] m = some (.bool true, m) := λ m => by rw [cP K.aw]; rfl
 obtain ⟨e, fe, he⟩ := s0 A w l h0 r; show (bFG E w h0).map _ = _; unfold bFG; rw [b0, fe, aB, cC, aA]; by_cases e0 : e = 0
 · rw [decide_eq_true e0, aE, aw, aB]; rfl
 · obtain ⟨hl60, hsm⟩ := he e0; rw [decide_eq_false e0, aC]; obtain ⟨t, v, h7, h9, h13, C, FN, b, f7, f9, rfl, f13, S, g13⟩ := aWj K.P K.D h0; rw [f7, aB, f9, aB, bT, f13, aB]; have := aIK K hS hT hR (l := l) (w := w) (λ o ho => ⟨hok o ho, hsm o ho⟩) hl60 l.length 0 (aT - (l.length + 1)) h13 rO C FN v (by omega) (by omega) ((aBh r).grown g13) S
   rw [show aT - (l.length + 1) + (l.length + 1) = aT from by unfold aT; omega] at this
   exact this
def wJ : cD := λ args h => match args with
 | [.str s, .int .i64 (.negSucc _), .str t] => some (.tup [.str [], .int .i64 (.ofNat 1)], h)
 | [.str s, .int .i64 (.ofNat a), .str t] => bif aBJ s && aBJ t then
     (bif Nat.blt 65536 s.length || (Nat.blt 65536 t.length || Nat.blt 65536 (a + t.length)) then some (.tup [.str [], .int .i64 (.ofNat 2)], h) else (xZ (xV s a t)).map λ v => (.tup [v, .int .i64 (.ofNat 0)], h)) else none
 | _ => none
theorem aHS {s t : Ln} {a : Nat} (hs : bH s = true) (ht : bH t = true) (h1 : s.length <= 65536) (h2 : a + t.length <= 65536) (h : H) : wJ [.str s, .int .i64 (.ofNat a), .str t] h = some (.tup [.str (xV s a t), .int .i64 (.ofNat 0)], h) := by
 show (bif aBJ s && aBJ t then _ else none) = _; rw [wV, wV, hs, ht]; have : (Nat.blt 65536 s.length || (Nat.blt 65536 t.length || Nat.blt 65536 (a + t.length))) = false := by
   rw [Bool.or_eq_false_iff, Bool.or_eq_false_iff]; exact ⟨jD (by omega), jD (by omega), jD (by omega)⟩
 rw [this, iF]; rfl
theorem aMY {G : cD} (h1 : ∀ (s t : Ln) (a : Nat) (h : H), G [.str s, .int .i64 (.negSucc a), .str t] h = some (.tup [.str [], .int .i64 (.ofNat 1)], h))
   (h2 : ∀ (s t : Ln) (a : Nat) (h : H), (65536 < s.length \/ 65536 < t.length \/ 65536 < a + t.length) -> G [.str s, .int .i64 (.ofNat a), .str t] h = some (.tup [.str [], .int .i64 (.ofNat 2)], h))
   (h3 : ∀ (s t : Ln) (a : Nat) (h : H), bH s = true -> bH t = true -> s.length <= 65536 -> t.length <= 65536 -> a + t.length <= 65536 -> ∃ h', G [.str s, .int .i64 (.ofNat a), .str t] h = some (.tup [.str (xV s a t), .int .i64 (.ofNat 0)], h') /\ aJ h h')
   (args : List DV) (h : H) (v : DV) (h' : H) (e : wJ args h = some (v, h')) : h' = h /\ oN v /\ ∃ h1, G args h = some (v, h1) /\ aJ h h1 := by
 unfold wJ at e; split at e
 · cases e; exact ⟨rfl, oN.tup2 (oN.str _) (oN.int _ _), _, h1 _ _ _ _, aJ.refl _⟩
 · rename_i s a t; obtain ⟨hc, e⟩ := bJ e; simp only [Bool.and_eq_true, wV] at hc; by_cases hb : 65536 < s.length \/ 65536 < t.length \/ 65536 < a + t.length
   · have : (Nat.blt 65536 s.length || (Nat.blt 65536 t.length || Nat.blt 65536 (a + t.length))) = true := by
       simp only [Bool.or_eq_true, Nat.blt_eq]; exact hb
     rw [this] at e; cases e; exact ⟨rfl, oN.tup2 (oN.str _) (oN.int _ _), _, h2 _ _ _ _ hb, aJ.refl _⟩
   · have : (Nat.blt 65536 s.length || (Nat.blt 65536 t.length || Nat.blt 65536 (a + t.length))) = false := by
       rw [Bool.or_eq_false_iff, Bool.or_eq_false_iff]; exact ⟨jD (by omega), jD (by omega), jD (by omega)⟩
     rw [this, iF] at e; cases e; obtain ⟨h', e1, e2⟩ := h3 s t a h hc.1 hc.2 (by omega) (by omega) (by omega)
     exact ⟨rfl, oN.tup2 (oN.str _) (oN.int _ _), h', e1, e2⟩
 · cases e
theorem aDD {t : Ln} (h : t.length <= 65536) : fB (ii 65536) (ii t.length) = some (ii (65536 - t.length)) := fL h (by omega)
theorem bJa {E : bN} : ∀ (args : List DV) (h : H) (v : DV) (h' : H), wJ args h = some (v, h') -> h' = h /\ oN v /\ ∃ h1, aTN E args h = some (v, h1) /\ aJ h h1 := by
 refine aMY ?_ ?_ ?_
 · intro s t a h; show wG E (.str s) (.int .i64 (.negSucc a)) (.str t) h = _; unfold wG; rw [aBs _ (Int.negSucc_lt_zero a), aA, aE]
 · intro s t a h hb; show wG E (.str s) (.int .i64 (.ofNat a)) (.str t) h = _; unfold wG; have d0 : decide (a < 0) = false := by simp
   by_cases c1 : 65536 < s.length
   · simp only [aO, d0, aA, aC, bB, dK, decide_eq_true c1, iL, cL, aE]
   · by_cases c2 : 65536 < t.length
     · simp only [aO, d0, aA, aC, bB, dK, decide_eq_false c1, decide_eq_true c2, eI, iL, cL, cM, aE]
     · have c3 : 65536 - t.length < a := by omega
       simp only [aO, d0, aA, aC, bB, dK, decide_eq_false c1, decide_eq_false c2, decide_eq_true c3, eI, cM, aE, aDD (Nat.not_lt.1 c2)]
 · intro s t a h hs ht l1 l2 l3; show ∃ h', wG E (.str s) (.int .i64 (.ofNat a)) (.str t) h = _ /\ _; unfold wG; have d0 : decide (a < 0) = false := by simp
   have c1 : ¬ 65536 < s.length := by omega
   have c2 : ¬ 65536 < t.length := by omega
   have c3 : ¬ 65536 - t.length < a := by omega
   simp only [aO, d0, aA, aC, bB, dK, decide_eq_false c1, decide_eq_false c2, decide_eq_false c3, eI, cM, aDD l2, bV (show a + t.length < 9223372036854775808 by omega), aEa]
   have hm : max s.length (a + t.length) < 140737488355328 := by omega
   rw [aEK hm]; have hb := cV.made (h := h) (z := eQ 0) hm; obtain ⟨h1, f1, f2, f3⟩ := hb.copy_str (s := s) (o := 0) (n := max s.length (a + t.length)) (c := max s.length (a + t.length)) (op := false) (by omega) (by simp; omega)
   show ∃ h', wK (lT 1 (.slc h.size 0 _ _ false) (.str s) _) _ = _ /\ _; rw [show (DV.int .u8 (.ofNat 0)) = eQ 0 from rfl, f1, aB]
   have e2 : (List.replicate (max s.length (a + t.length)) (eQ 0)).take 0 ++ bX s ++ (List.replicate (max s.length (a + t.length)) (eQ 0)).drop (0 + s.length) = bX (fZ s (max s.length (a + t.length))) := by
     unfold fZ; rw [eE, aBc]; simp
   rw [e2] at f2; have hl : (fZ s (max s.length (a + t.length))).length = max s.length (a + t.length) := kW (by omega)
   have e3 : bX (xV s a t) = (bX (fZ s (max s.length (a + t.length)))).take a ++ bX t ++ (bX (fZ s (max s.length (a + t.length)))).drop (a + t.length) := by
     unfold xV; rw [eE, eE, aMC, aMD]
   rw [aNv (show a <= max s.length (a + t.length) by omega)]
   have key : ∃ h2, lT 1 (if a < max s.length (a + t.length) then DV.slc h.size (0 + a) (max s.length (a + t.length) - a) (max s.length (a + t.length) - a) false else if false = true then .slE h.size 0 (0 + a) else .slc h.size 0 0 0 false) (.str t) h1 = some (.int .i64 (.ofNat t.length), h2) /\ cV h2 h.size (bX (xV s a t)) /\ But h.size h1 h2 := by
     rw [e3]; by_cases ha : a < max s.length (a + t.length)
     · rw [if_pos ha, Nat.zero_add]; exact f2.copy_str (by omega) (by rw [bU, hl]; omega)
     · have ht0 : t = [] := List.eq_nil_of_length_eq_zero (by omega)
       subst ht0; rw [if_neg ha]; obtain ⟨h2, g1, g2, g3⟩ := f2.copy_str (s := []) (o := 0) (n := 0) (c := 0) (op := false) (by simp) (by simp)
       refine ⟨h2, g1, ?_, g3⟩
       simpa [bX] using g2
   obtain ⟨h2, g1, g2, g3⟩ := key; rw [aA, g1, aB]; have hpl := qQ s t a; have := g2.text (aEC hs ht a) (max s.length (a + t.length)) false; rw [hpl] at this; rw [this, aA]; exact ⟨h2, rfl, But.grown (But.grown (aJ.push h _) (Nat.le_refl _) f3) (Nat.le_refl _) g3⟩
theorem bBX (p t q : Ln) (x y : Nat) : (p ++ (x :: q)).set p.length y = p ++ (y :: q) := by
 rw [List.set_append_right _ _ (Nat.le_refl _)]; simp
theorem aNZ {E : bN} {n0 : Nat} (a : Nat) (t0 : Ln) (ht0 : a + t0.length <= 65536) (hok : bH t0 = true) : ∀ (t p P Q : Ln) (m : Nat) (v : DV) (h : H), t0 = p ++ t -> P.length = a + p.length -> t.length <= Q.length -> P.length + Q.length <= 1000000 -> cJ n0 h v (bX (P ++ Q)) -> bH (P ++ Q) = true ->
   ∃ h', aCt E (.int .i64 (.ofNat a)) (.str t0) v (m + (t.length + 1)) (.int .i64 (.ofNat p.length)) h = some (.tup [.str (P ++ t ++ Q.drop t.length), .int .i64 (.ofNat 0)], h') /\ cF n0 h h' := by
 intro t
 induction t with
 | nil =>
   intro p P Q m v h e hp hq hpq ho hok2; have : p.length = t0.length := by rw [e]; simp
   show ∃ h', aFS E _ _ _ (aCt E _ _ _ m) _ h = _ /\ _; unfold aFS; rw [bB, aA, aO, aA, this, show decide (t0.length < t0.length) = false from by simp, aC]
   unfold aJX; rw [ho.text hok2, aA]; exact ⟨h, by simp, cF.refl _ _⟩
 | cons y t ih =>
   intro p P Q m v h e hp hq hpq ho hok2; cases Q with
   | nil => simp at hq
   | cons q Q =>
     have hlt : p.length < t0.length := by rw [e]; simp
     have hy : t0[p.length]? = some y := by rw [e]; simp
     show ∃ h', aFS E _ _ _ (aCt E _ _ _ (m + (t.length + 1))) _ h = _ /\ _; unfold aFS; have d1 : decide (p.length < t0.length) = true := by simp [hlt]
     have hset : P.length < (bX (P ++ q :: Q)).length := by rw [bU]; simp
     obtain ⟨b, h1, g1, g2, g3, g4⟩ := ho.store1 (x := eQ y) hset rfl .i64; rw [<- aPa, bBX P t0 Q q y] at g3; have hap : bL (.int .i64 (.ofNat a)) (.int .i64 (.ofNat p.length)) = some (.int .i64 (.ofNat P.length)) := by rw [bV (by omega), hp]
     have hy256 : bH [y] = true := by
       rw [gM]; intro z hz; rw [gM] at hok; exact hok z (by rw [e]; simp at hz; subst hz; simp)
     simp only [bB, aA, aO, d1, aE, hap, pB hy, g1]; rw [show (DV.int .u8 (.ofNat y)) = eQ y from rfl, g2, aB, fH (by omega), aA]
     have hok3 : bH (P ++ y :: Q) = true := by
       have h5 := yW hok2 P.length; rw [List.take_left] at h5; have h6 := yX hok2 (P.length + 1); rw [show (P ++ q :: Q).drop (P.length + 1) = Q from by simp] at h6
       exact cX h5 (cX (s := [y]) hy256 h6)
     obtain ⟨h', k1, k2⟩ := ih (p ++ [y]) (P ++ [y]) Q m v h1 (by rw [e]; simp) (by simp [hp]; omega) (by simpa using hq) (by simp at hpq ⊢; omega) (by simpa using g3) (by simpa using hok3)
     rw [List.length_append] at k1; exact ⟨h', by simpa using k1, g4.trans k2⟩
theorem aSV {E : bN} {n0 : Nat} (a : Nat) (t0 : Ln) (ht0 : a + t0.length <= 65536) (hok : bH t0 = true) : ∀ (k m : Nat) (L : Ln) (v : DV) (h : H), (k = 0 -> a + t0.length <= L.length) -> (0 < k -> L.length + k = a + t0.length) -> L.length <= 65536 -> n0 <= h.size -> cJ n0 h v (bX L) ->
   ∃ v' h', aCu E (ii a) (.str t0) (m + (k + 1)) v h = aFA E (ii a) (.str t0) v' h' /\ cJ n0 h' v' (bX (L ++ List.replicate k 0)) /\ cF n0 h h' := by
 intro k
 induction k with
 | zero =>
   intro m L v h h0 _ hL hn ho; refine ⟨v, h, ?_, by simpa using ho, cF.refl _ _⟩
   show aFT E _ _ (aCu E _ _ m) _ h = _; unfold aFT; have d1 : decide (L.length < a + t0.length) = false := by simp; exact h0 rfl
   simp only [ho.len, bU, bB, aA, bV (show a + t0.length < 9223372036854775808 by omega), aO, d1, aC]
 | succ k ih =>
   intro m L v h _ h1 hL hn ho; have hk := h1 (by omega)
   have d1 : decide (L.length < a + t0.length) = true := by simp; omega
   obtain ⟨v1, h1', g1, g2, g3⟩ := ho.push1 (x := eQ 0) (z := eQ 0) (bytes := 1) hn rfl (by rw [bU]; unfold aR; omega) (by rw [bU]; unfold aR; omega)
   have g2' : cJ n0 h1' v1 (bX (L ++ [0])) := by rw [eE]; exact g2
   obtain ⟨v2, h2, k1, k2, k3⟩ := ih m (L ++ [0]) v1 h1' (by intro e; simp; omega) (by intro e; simp; omega) (by simp; omega) (Nat.le_trans hn g3.size) g2'
   refine ⟨v2, h2, ?_, ?_, g3.trans k3⟩
   · show aFT E _ _ (aCu E _ _ (m + (k + 1))) _ h = _; unfold aFT; simp only [ho.len, bU, bB, aA, bV (show a + t0.length < 9223372036854775808 by omega), aO, d1, aE]
     rw [show (DV.int .u8 (.ofNat 0)) = eQ 0 from rfl, g1]
     exact k1
   · rw [List.replicate_succ]; simpa using k2
theorem bBZ {E : bN} : ∀ (args : List DV) (h : H) (v : DV) (h' : H), wJ args h = some (v, h') -> h' = h /\ oN v /\ ∃ h1, aTO E args h = some (v, h1) /\ aJ h h1 := by
 refine aMY ?_ ?_ ?_
 · intro s t a h; show wH E (.str s) (.int .i64 (.negSucc a)) (.str t) h = _; unfold wH; rw [aBs _ (Int.negSucc_lt_zero a), aA, aE]
 · intro s t a h hb; show wH E (.str s) (.int .i64 (.ofNat a)) (.str t) h = _; unfold wH; have d0 : decide (a < 0) = false := by simp
   by_cases c1 : 65536 < s.length
   · simp only [aO, d0, aA, aC, bB, dK, decide_eq_true c1, iL, cL, aE]
   · by_cases c2 : 65536 < t.length
     · simp only [aO, d0, aA, aC, bB, dK, decide_eq_false c1, decide_eq_true c2, eI, iL, cL, cM, aE]
     · have c3 : 65536 - t.length < a := by omega
       simp only [aO, d0, aA, aC, bB, dK, decide_eq_false c1, decide_eq_false c2, decide_eq_true c3, eI, cM, aE, aDD (Nat.not_lt.1 c2)]
 · intro s t a h hs ht l1 l2 l3; show ∃ h', wH E (.str s) (.int .i64 (.ofNat a)) (.str t) h = _ /\ _; unfold wH; have d0 : decide (a < 0) = false := by simp
   have c1 : ¬ 65536 < s.length := by omega
   have c2 : ¬ 65536 < t.length := by omega
   have c3 : ¬ 65536 - t.length < a := by omega
   simp only [aO, d0, aA, aC, bB, dK, decide_eq_false c1, decide_eq_false c2, decide_eq_false c3, eI, cM, aDD l2]; obtain ⟨v1, h1, f1, f2, f3, _⟩ := cJ.s2b (h := h) (Nat.le_refl h.size) s; rw [f1]
   let k := max s.length (a + t.length) - s.length
   obtain ⟨v2, h2, g1, g2, g3⟩ := aSV (E := E) (n0 := h.size) a t l3 ht k (aT - (k + 1)) s v1 h1 (by intro e; omega) (by intro e; omega) l1 f3.size f2
   rw [show aT - (k + 1) + (k + 1) = aT from by unfold aT; omega] at g1
   rw [g1]; unfold aFA; have hz : s ++ List.replicate k 0 = fZ s (max s.length (a + t.length)) := rfl; rw [hz] at g2; have hzl : (fZ s (max s.length (a + t.length))).length = max s.length (a + t.length) := kW (by omega)
   have hsplit := List.take_append_drop a (fZ s (max s.length (a + t.length))); rw [<- hsplit] at g2; obtain ⟨h3, k1, k2⟩ := aNZ (E := E) (n0 := h.size) a t l3 ht t [] ((fZ s (max s.length (a + t.length))).take a) ((fZ s (max s.length (a + t.length))).drop a) (aT - (t.length + 1)) v2 h2 rfl (by rw [List.length_take, hzl]; simp; omega) (by rw [List.length_drop, hzl]; omega) (by rw [List.length_take, List.length_drop, hzl]; omega) g2 (by rw [hsplit]; exact vD hs _)
   rw [show aT - (t.length + 1) + (t.length + 1) = aT from by unfold aT; omega, List.drop_drop] at k1
   refine ⟨h3, k1, ?_⟩; exact cF.grown (f3.trans (g3.trans k2))
def mT : cD := λ args h => match args with
 | [.int .i64 (.ofNat n)] => bif Nat.blt n 1000000 then (xZ (List.replicate n 0)).map λ v => (v, h) else none
 | _ => none
theorem aDs {n : Nat} (hn : n < 1000000) (h : H) : mT [.int .i64 (.ofNat n)] h = some (.str (List.replicate n 0), h) := by
 show (bif Nat.blt n 1000000 then (xZ (List.replicate n 0)).map λ v => (v, h) else none) = _
 rw [dR hn, iF]; rfl
theorem aFF {G : cD} (h3 : ∀ (n : Nat) (h : H), n < 1000000 -> ∃ h', G [.int .i64 (.ofNat n)] h = some (.str (List.replicate n 0), h') /\ aJ h h')
   (args : List DV) (h : H) (v : DV) (h' : H) (e : mT args h = some (v, h')) : h' = h /\ oN v /\ ∃ h1, G args h = some (v, h1) /\ aJ h h1 := by
 unfold mT at e; split at e
 · rename_i n; obtain ⟨hc, e⟩ := bJ e; rw [Nat.blt_eq] at hc; rw [iF] at e; cases e; obtain ⟨h', e1, e2⟩ := h3 n h hc; exact ⟨rfl, oN.str _, h', e1, e2⟩
 · cases e
theorem aUe {E : bN} (hE : E 167 = some sP) : ∀ (args : List DV) (h : H) (v : DV) (h' : H), mT args h = some (v, h') -> h' = h /\ oN v /\ ∃ h1, aTM E args h = some (v, h1) /\ aJ h h1 := by
 refine aFF λ n h hn => ⟨h, ?_, aJ.refl _⟩
 show aJQ E (.int .i64 (.ofNat n)) h = _; unfold aJQ; rw [cP hE, aKB n (by omega), aB]
theorem aSQ {E : bN} : ∀ (args : List DV) (h : H) (v : DV) (h' : H), mT args h = some (v, h') -> h' = h /\ oN v /\ ∃ h1, aTP E args h = some (v, h1) /\ aJ h h1 := by
 refine aFF λ n h hn => ?_
 show ∃ h', aKe E (.int .i64 (.ofNat n)) h = _ /\ _; unfold aKe; rw [aEK (show n < 140737488355328 by omega)]
 have hb := cV.made (h := h) (z := eQ 0) (n := n) (by omega)
 rw [<- aBc] at hb; have := hb.text (aCT n) n false; rw [List.length_replicate] at this; rw [show (DV.int .u8 (.ofNat 0)) = eQ 0 from rfl, this, aA]
 exact ⟨_, rfl, aJ.push h _⟩
def aHT : cD := λ args h => match args with
 | [.str s, .int .i64 (.negSucc _)] => some (.tup [.str [], .int .i64 (.ofNat 1)], h)
 | [.str s, .int .i64 (.ofNat n)] => bif Nat.blt 65536 n then some (.tup [.str [], .int .i64 (.ofNat 1)], h) else bif Nat.blt n s.length then some (.tup [.str [], .int .i64 (.ofNat 2)], h) else (xZ (fZ s n)).map λ v => (.tup [v, .int .i64 (.ofNat 0)], h)
 | _ => none
theorem aTX {s : Ln} {n : Nat} (h1 : n <= 65536) (h2 : s.length <= n) (h : H) : aHT [.str s, .int .i64 (.ofNat n)] h = some (.tup [.str (fZ s n), .int .i64 (.ofNat 0)], h) := by
 show (bif Nat.blt 65536 n then _ else bif Nat.blt n s.length then _ else _) = _; rw [show Nat.blt 65536 n = false from jD (by omega), show Nat.blt n s.length = false from jD (by omega), iF]; rfl
theorem bJb {E : bN} (hE : E 148 = some mT) (args : List DV) (h : H) (r : DV × H) (e : aHT args h = some r) : aTQ E args h = some r := by
 unfold aHT at e; split at e
 · rename_i s a; rw [<- e]; show aCD E (.str s) (.int .i64 (.negSucc a)) h = _; unfold aCD; simp only [aBs _ (Int.negSucc_lt_zero a), aA, iL, cL, aE]
 · rename_i s n; show aCD E (.str s) (.int .i64 (.ofNat n)) h = _; unfold aCD; have d0 : decide (n < 0) = false := by simp
   simp only [aO, d0, aA, eI, dK, cM, bB]; by_cases c1 : 65536 < n
   · rw [dR c1, cond_true] at e; rw [decide_eq_true c1, aE, <- e]
   · rw [show Nat.blt 65536 n = false from jD (by omega), cond_false] at e
     rw [decide_eq_false c1, aC]; by_cases c2 : n < s.length
     · rw [dR c2, cond_true] at e; rw [decide_eq_true c2, aE, <- e]
     · rw [show Nat.blt n s.length = false from jD (by omega), cond_false, iF] at e
       rw [decide_eq_false c2, aC, fL (by omega) (by omega), aA, cP hE, aDs (by omega), aB, gJ (by simp; unfold gS; omega), aA, <- e]; rfl
 · cases e
def aPb : bN := nR 167 sP aAI
def aFk : bN := nR 148 mT (nR 131 mT aPb)
def LI : bN := SE aFk table aT
def aJo : bN := nR 147 (sQ LI) (nR 101 aHT (nR 140 wJ (nR 139 wJ aFk)))
def bGA : bN := nR 28 aFG aJo
def LT (m : Nat) : bN := SE bGA table m
theorem bKj (m : Nat) : bY (LT (m + 1)) 140 aDP := ⟨wJ, by kernel_rfl, λ s t a h h1 h2 h3 h4 => aHS h1 h2 h3 h4 h⟩
theorem bIY (m : Nat) : bY (LT (m + 1)) 139 aDP := ⟨wJ, by kernel_rfl, λ s t a h h1 h2 h3 h4 => aHS h1 h2 h3 h4 h⟩
theorem bKk (m : Nat) : bY (LT (m + 1)) 101 aRh := ⟨aHT, by kernel_rfl, λ s n h h1 h2 => aTX h1 h2 h⟩
theorem aUB (m : Nat) : bY (LT (m + 1)) 131 aHI := ⟨mT, by kernel_rfl, λ n h h1 => aDs h1 h⟩
theorem bKe (m : Nat) : bY (LT (m + 1)) 147 aDU := ⟨sQ LI, by kernel_rfl, aLY LI⟩
theorem aDl (m : Nat) : bY (LT (m + 1)) 97 aDT := ⟨S97 (LT (m + 0)), by kernel_rfl, aTA  ⟩
theorem aCW (m : Nat) : bY (LT (m + 1)) 48 sM := ⟨S48 (LT (m + 0)), by kernel_rfl, aTk  ⟩
theorem aEE (m : Nat) : bY (LT (m + 1)) 106 aDS := ⟨aXj (LT (m + 0)), by kernel_rfl, aVf  ⟩
theorem aCH (m : Nat) : bY (LT (m + 4)) 50 oG := ⟨S50 (LT (m + 3)), by kernel_rfl, aSt (F := LT (m + 2)) (G := LT (m + 1)) (by kernel_rfl) (by kernel_rfl) (aEE m)⟩
theorem aNz (m : Nat) : bY (LT (m + 2)) 108 aJp := ⟨aXi (LT (m + 1)), by kernel_rfl, aUn  (aEE m)⟩
theorem aAj (m : Nat) : bY (LT (m + 5)) 51 nH := ⟨S51 (LT (m + 4)), by kernel_rfl, aNq (F := LT (m + 3)) (G := LT (m + 2)) (by kernel_rfl) (by kernel_rfl) (aNz m)⟩
theorem aAk (m : Nat) : bY (LT (m + 1)) 52 nI := ⟨S52 (LT (m + 0)), by kernel_rfl, aNt  ⟩
theorem aJd (m : Nat) : bY (LT (m + 6)) 220 aCF := ⟨aWu (LT (m + 5)), by kernel_rfl, aOS  (aCW (m + 4)) (aCH (m + 1)) (aAj m) (aAk (m + 4))⟩
theorem aHW (m : Nat) : bY (LT (m + 3)) 49 sA := ⟨S49 (LT (m + 2)), by kernel_rfl, aNu (F := LT (m + 1)) (G := LT (m + 0)) (by kernel_rfl) (by kernel_rfl)⟩
theorem aQC (m : Nat) : aFr (LT (m + 2)) where
 k1 f h := by rw [cP (show LT (m + 2) 221 = some (bDD (LT (m + 1))) by kernel_rfl)]; rfl
 k2 d h := by rw [cP (show LT (m + 2) 217 = some (aWx (LT (m + 1))) by kernel_rfl)]; exact aOJ d h
 s1 f l s h o := by rw [cP (show LT (m + 2) 222 = some (aWt (LT (m + 1))) by kernel_rfl)]; exact aOL f l s h o
 s2 d l h r := by
   obtain ⟨B, b, s⟩ := (aDl m).call; rw [cP (show LT (m + 2) 218 = some (aWw (LT (m + 1))) by kernel_rfl)]; exact aOI b s d l h r
theorem bCJ (m : Nat) : aML (LT (m + 7)) where
 t1 f l s h o := by rw [cP (show LT (m + 7) 223 = some (aWs (LT (m + 6))) by kernel_rfl)]; exact aOK f l s h o
 t2 d l h r hl hok := by
   obtain ⟨B, b, s⟩ := (aJd m).call; rw [cP (show LT (m + 7) 219 = some (aWv (LT (m + 6))) by kernel_rfl)]; exact aOH b s d l h r hl hok
theorem aGk (m : Nat) : bY (LT (m + 1)) 79 aCE := ⟨S79 (LT (m + 0)), by kernel_rfl, aKZ  ⟩
theorem tG (m : Nat) : bY (LT (m + 1)) 170 jR := ⟨aWB (LT (m + 0)), by kernel_rfl, aOa  ⟩
theorem nL (m : Nat) : bY (LT (m + 2)) 154 iW := ⟨aWI (LT (m + 1)), by kernel_rfl, aLu  (tG m)⟩
theorem aAC (m : Nat) : bY (LT (m + 2)) 156 wF := ⟨aWG (LT (m + 1)), by kernel_rfl, aOf  (tG m)⟩
theorem aEu (m : Nat) : bY (LT (m + 3)) 150 aAa := ⟨aWM (LT (m + 2)), by kernel_rfl, aIx  (nL m) (aAC m)⟩
theorem tH (m : Nat) : bY (LT (m + 1)) 169 sK := ⟨aWC (LT (m + 0)), by kernel_rfl, aOh  ⟩
theorem aAB (m : Nat) : bY (LT (m + 2)) 151 sJ := ⟨aWL (LT (m + 1)), by kernel_rfl, aOd  (tH m)⟩
theorem yQ (m : Nat) : bY (LT (m + 1)) 122 tZ := ⟨aXf (LT (m + 0)), by kernel_rfl, aUO  ⟩
theorem iA (m : Nat) : bY (LT (m + 3)) 124 jV := ⟨aXd (LT (m + 2)), by kernel_rfl, aNQ  (nL m) (aAB m) (yQ (m + 1))⟩
theorem nW (m : Nat) : bY (LT (m + 4)) 120 qC := ⟨aXh (LT (m + 3)), by kernel_rfl, aSW  (aEu m) (iA m)⟩
theorem rC (m : Nat) : bY (LT (m + 3)) 121 qB := ⟨aXg (LT (m + 2)), by kernel_rfl, aLt  (aAB m)⟩
theorem aLG (m : Nat) : bY (LT (m + 2)) 152 aFq := ⟨aWK (LT (m + 1)), by kernel_rfl, aTc  (tG m) (tH m)⟩
theorem tE (m : Nat) : bY (LT (m + 1)) 153 sF := ⟨aWJ (LT (m + 0)), by kernel_rfl, aNP  ⟩
theorem uW (m : Nat) : bY (LT (m + 3)) 123 wA := ⟨aXe (LT (m + 2)), by kernel_rfl, aSU  (aLG m) (tE (m + 1))⟩
theorem aOb (m : Nat) : bY (LT (m + 5)) 66 aCj := ⟨S66 (LT (m + 4)), by kernel_rfl, aUH  (nW m) (rC (m + 1)) (yQ (m + 3)) (uW (m + 1))⟩
theorem aLv (m : Nat) : bY (LT (m + 2)) 155 aFp := ⟨aWH (LT (m + 1)), by kernel_rfl, aST  (tH m)⟩
theorem tF (m : Nat) : bY (LT (m + 3)) 125 sI := ⟨aXc (LT (m + 2)), by kernel_rfl, aNV  (aLv m) (tE (m + 1))⟩
theorem rD (m : Nat) : bY (LT (m + 1)) 126 qD := ⟨aXb (LT (m + 0)), by kernel_rfl, aLx  ⟩
theorem aAD (m : Nat) : bY (LT (m + 2)) 127 xR := ⟨aXa (LT (m + 1)), by kernel_rfl, aOg  (yQ m)⟩
theorem aNS (m : Nat) : bY (LT (m + 5)) 67 (xQ kS) := ⟨S67 (LT (m + 4)), by kernel_rfl, aUE  (iA (m + 1)) (nW m) (tF (m + 1)) (rD (m + 3)) (aAD (m + 2))⟩
theorem aNY (m : Nat) : bY (LT (m + 5)) 68 (xQ nB) := ⟨S68 (LT (m + 4)), by kernel_rfl, aUG  (iA (m + 1)) (nW m) (tF (m + 1)) (aAD (m + 2))⟩
theorem aOe (m : Nat) : bY (LT (m + 5)) 70 (sG rW) := ⟨S70 (LT (m + 4)), by kernel_rfl, aUJ  (iA (m + 1)) (nW m) (rC (m + 1)) (rD (m + 3)) (uW (m + 1))⟩
theorem aEp (m : Nat) : bY (LT (m + 3)) 128 nG := ⟨aWZ (LT (m + 2)), by kernel_rfl, aIq  (nL m)⟩
theorem aGB (m : Nat) : bY (LT (m + 3)) 129 aCG := ⟨aWY (LT (m + 2)), by kernel_rfl, aLE  (nL m) (aAC m)⟩
theorem aNW (m : Nat) : bY (LT (m + 5)) 69 (sG kV) := ⟨S69 (LT (m + 4)), by kernel_rfl, aUF  (iA (m + 1)) (nW m) (rC (m + 1)) (tF (m + 1)) (uW (m + 1)) (aEp (m + 1)) (aGB (m + 1))⟩
theorem aCM (m : Nat) : bY (LT (m + 1)) 32 sH := ⟨S32 (LT (m + 0)), by kernel_rfl, aSS  ⟩
theorem tI (m : Nat) : bY (LT (m + 4)) 130 sL := ⟨aWX (LT (m + 3)), by kernel_rfl, aOj  (iA m)⟩
theorem aAE (m : Nat) : bY (LT (m + 2)) 132 xS := ⟨aWW (LT (m + 1)), by kernel_rfl, aOi  (aCM m) (tE m)⟩
theorem aGr (m : Nat) : bY (LT (m + 3)) 90 zQ := ⟨S90 (LT (m + 2)), by kernel_rfl, aLq  (bIY (m + 1)) (aAE m)⟩
theorem aGC (m : Nat) : bY (LT (m + 5)) 71 zS := ⟨S71 (LT (m + 4)), by kernel_rfl, aLH  (tI m) (aGr (m + 1))⟩
theorem aIw (m : Nat) : bY (LT (m + 1)) 93 aCg := ⟨S93 (LT (m + 0)), by kernel_rfl, aNX  ⟩
theorem aIG (m : Nat) : bY (LT (m + 5)) 80 aCi := ⟨S80 (LT (m + 4)), by kernel_rfl, aOo  (tI m) (aIw (m + 3))⟩
theorem aGw (m : Nat) : bY (LT (m + 1)) 136 zV := ⟨aWV (LT (m + 0)), by kernel_rfl, aLw  ⟩
theorem aIH (m : Nat) : bY (LT (m + 4)) 82 aCk := ⟨S82 (LT (m + 3)), by kernel_rfl, aOp  (iA m) (aGw (m + 2))⟩
theorem aIF (m : Nat) : bY (LT (m + 4)) 81 aCh := ⟨S81 (LT (m + 3)), by kernel_rfl, aOn  (iA m) (rD (m + 2))⟩
theorem aGD (m : Nat) : bY (LT (m + 5)) 72 zU := ⟨S72 (LT (m + 4)), by kernel_rfl, aLI  (tI m) (aUB (m + 3)) (aAE (m + 2))⟩
theorem uX (m : Nat) : bY (LT (m + 1)) 53 qE := ⟨S53 (LT (m + 0)), by kernel_rfl, aSZ  ⟩
theorem aAA (m : Nat) : bY (LT (m + 2)) 54 pE := ⟨S54 (LT (m + 1)), by kernel_rfl, aNU  (uX m)⟩
theorem aDu (m : Nat) : bY (LT (m + 3)) 77 tY := ⟨S77 (LT (m + 2)), by kernel_rfl, aGz  (uX (m + 1)) (aAA m)⟩
theorem aIu (m : Nat) : bY (LT (m + 4)) 25 rM := ⟨S25 (LT (m + 3)), by kernel_rfl, aNT  (uX (m + 2)) (aAA (m + 1)) (aDu m)⟩
theorem aDk (m : Nat) : bY (LT (m + 1)) 65 aBl := ⟨S65 (LT (m + 0)), by kernel_rfl, aTz  ⟩
theorem aGo (m : Nat) : bY (LT (m + 5)) 161 zP := ⟨aWF (LT (m + 4)), by kernel_rfl, aLh (F := LT (m + 3)) (G := LT (m + 2)) (K := LT (m + 1)) (M := LT (m + 0)) (by kernel_rfl) (by kernel_rfl) (by kernel_rfl) (by kernel_rfl) (by kernel_rfl)⟩
theorem aAV (m : Nat) : bY (LT (m + 3)) 146 jR := ⟨aWN (LT (m + 2)), by kernel_rfl, aOU (F := LT (m + 1)) (G := LT (m + 0)) (by kernel_rfl) (by kernel_rfl)⟩
theorem rE (m : Nat) : bY (LT (m + 6)) 137 iW := ⟨aWU (LT (m + 5)), by kernel_rfl, aLJ  (aGo m) (aAV (m + 2))⟩
theorem qJ (m : Nat) : bY (LT (m + 1)) 87 qA := ⟨S87 (LT (m + 0)), by kernel_rfl, aSH  ⟩
theorem aGp (m : Nat) : bY (LT (m + 2)) 162 zO := ⟨aWE (LT (m + 1)), by kernel_rfl, aLp (F := LT (m + 0)) (by kernel_rfl)⟩
theorem tU (m : Nat) : bY (LT (m + 3)) 142 wI := ⟨aWR (LT (m + 2)), by kernel_rfl, aOX  (aGp m)⟩
theorem aAW (m : Nat) : bY (LT (m + 4)) 145 wC := ⟨aWO (LT (m + 3)), by kernel_rfl, aOV  (tU m)⟩
theorem aAr (m : Nat) : bY (LT (m + 5)) 138 xO := ⟨aWT (LT (m + 4)), by kernel_rfl, aNA  (qJ (m + 3)) (aAW m)⟩
theorem nV (m : Nat) : bY (LT (m + 7)) 95 oH := ⟨S95 (LT (m + 6)), by kernel_rfl, aSF  (rE m) (aAr (m + 1)) (qJ (m + 5))⟩
theorem rA (m : Nat) : bY (LT (m + 5)) 99 pZ := ⟨S99 (LT (m + 4)), by kernel_rfl, aKU  (aAW m)⟩
theorem aIh (m : Nat) : bY (LT (m + 1)) 141 aCe := ⟨aWS (LT (m + 0)), by kernel_rfl, aNH  ⟩
theorem vO (m : Nat) : bY (LT (m + 4)) 100 sS := ⟨aXl (LT (m + 3)), by kernel_rfl, aTC  (aAV m) (tU m) (bKe (m + 2))⟩
theorem aCK (m : Nat) : bY (LT (m + 8)) 94 aBf := ⟨S94 (LT (m + 7)), by kernel_rfl, aSI  (nV m) (rA (m + 2)) (aIh (m + 6)) (vO (m + 3))⟩
theorem aGj (m : Nat) : bY (LT (m + 9)) 40 (jQ (λ T p => mkT T p 2)) := ⟨S40 (LT (m + 8)), by kernel_rfl, aKY  (aDk (m + 7)) (aCK m)⟩
theorem aEi (m : Nat) : bY (LT (m + 9)) 41 (jQ (λ T p => mkT T p 1)) := ⟨S41 (LT (m + 8)), by kernel_rfl, aIj  (aCK m)⟩
theorem jA (m : Nat) : bY (LT (m + 7)) 85 kZ := ⟨S85 (LT (m + 6)), by kernel_rfl, aNF  (rE m) (aAr (m + 1))⟩
theorem oS (m : Nat) : bY (LT (m + 1)) 86 pD := ⟨S86 (LT (m + 0)), by kernel_rfl, aNJ  ⟩
theorem aMo (m : Nat) : bY (LT (m + 1)) 143 aFI := ⟨aWQ (LT (m + 0)), by kernel_rfl, aTB  ⟩
theorem vM (m : Nat) : bY (LT (m + 4)) 96 sR := ⟨S96 (LT (m + 3)), by kernel_rfl, aTy  (tU m) (aMo (m + 2))⟩
theorem aEd (m : Nat) : bY (LT (m + 8)) 42 (jQ kS) := ⟨S42 (LT (m + 7)), by kernel_rfl, aIb  (jA m) (oS (m + 6)) (nV m) (vM (m + 3))⟩
theorem aGh (m : Nat) : bY (LT (m + 8)) 43 (jQ nB) := ⟨S43 (LT (m + 7)), by kernel_rfl, aKV  (jA m) (qJ (m + 6)) (aDl (m + 6)) (nV m) (vM (m + 3))⟩
theorem aIg (m : Nat) : bY (LT (m + 8)) 45 (sD rW) := ⟨S45 (LT (m + 7)), by kernel_rfl, aNG  (jA m) (nV m) (oS (m + 6)) (rA (m + 2)) (vO (m + 3))⟩
theorem aGJ (m : Nat) : bY (LT (m + 1)) 144 aCE := ⟨aWP (LT (m + 0)), by kernel_rfl, aMi  ⟩
theorem aEx (m : Nat) : bY (LT (m + 7)) 98 nG := ⟨S98 (LT (m + 6)), by kernel_rfl, aII  (rE m) (aGJ (m + 5))⟩
theorem aEe (m : Nat) : bY (LT (m + 8)) 44 (sD kV) := ⟨S44 (LT (m + 7)), by kernel_rfl, aId  (jA m) (nV m) (aEx m) (rA (m + 2)) (vM (m + 3)) (vO (m + 3))⟩
theorem sW (m : Nat) : bY (LT (m + 8)) 83 sE := ⟨S83 (LT (m + 7)), by kernel_rfl, aNE  (jA m) (oS (m + 6))⟩
theorem aAt (m : Nat) : bY (LT (m + 1)) 102 xP := ⟨aXk (LT (m + 0)), by kernel_rfl, aNI  ⟩
theorem aGg (m : Nat) : bY (LT (m + 2)) 92 zJ := ⟨S92 (LT (m + 1)), by kernel_rfl, aKT  (bKj m) (aAt m)⟩
theorem aGm (m : Nat) : bY (LT (m + 9)) 46 zK := ⟨S46 (LT (m + 8)), by kernel_rfl, aLc  (sW m) (aGg (m + 6))⟩
theorem aGn (m : Nat) : bY (LT (m + 9)) 47 zN := ⟨S47 (LT (m + 8)), by kernel_rfl, aLd  (sW m) (bKk (m + 7)) (aAt (m + 7))⟩
theorem aIf (m : Nat) : bY (LT (m + 1)) 84 aCa := ⟨S84 (LT (m + 0)), by kernel_rfl, aND  ⟩
theorem aIl (m : Nat) : bY (LT (m + 9)) 33 aCc := ⟨S33 (LT (m + 8)), by kernel_rfl, aNL  (sW m) (aIf (m + 7))⟩
theorem aJh (m : Nat) : bY (LT (m + 1)) 88 aFs := ⟨S88 (LT (m + 0)), by kernel_rfl, aOW  ⟩
theorem aIm (m : Nat) : bY (LT (m + 8)) 35 aCd := ⟨S35 (LT (m + 7)), by kernel_rfl, aNM  (jA m) (qJ (m + 6)) (aJh (m + 6))⟩
theorem aLe (m : Nat) : bY (LT (m + 1)) 31 vZ := ⟨S31 (LT (m + 0)), by kernel_rfl, aSJ  ⟩
theorem aIk (m : Nat) : bY (LT (m + 8)) 34 aCb := ⟨S34 (LT (m + 7)), by kernel_rfl, aNK  (jA m) (oS (m + 6)) (aQC (m + 5))⟩
theorem aEf (m : Nat) : bY (LT (m + 10)) 24 vY := ⟨S24 (LT (m + 9)), by kernel_rfl, aIe (F := LT (m + 8)) (G := LT (m + 7)) (by kernel_rfl) (by kernel_rfl) (by kernel_rfl) (aCW (m + 7)) (aAk (m + 7)) (aCH (m + 3)) (aHW (m + 4)) (aAj (m + 2)) (aQC (m + 5)) (bCJ m)⟩
theorem aKX (m : Nat) : bY (LT (m + 2)) 21 aFo := ⟨S21 (LT (m + 1)), by kernel_rfl, aSG  (aDk m)⟩
theorem aOM (m : Nat) : bY (LT (m + 1)) 20 aKA := ⟨S20 (LT (m + 0)), by kernel_rfl, aVE  ⟩
theorem aUP (m : Nat) : aDQ (LT (m + 10)) where
 nw := aKX (m + 8)
 md := aGj (m + 1)
 cr := aEi (m + 1)
 un := aEd (m + 2)
 rm := aGh (m + 2)
 rn := aEe (m + 2)
 ln := aIg (m + 2)
 wr := aGm (m + 1)
 tr := aGn (m + 1)
 tx := aEf (m + 0)
theorem bGz (m : Nat) : aKD (LT (m + 10)) where
 nw := ⟨S22 (LT (m + 9)), by kernel_rfl, λ A h hA => aSX A h hA⟩
 md := aOb (m + 5)
 un := aNS (m + 5)
 rm := aNY (m + 5)
 rn := aNW (m + 5)
 ln := aOe (m + 5)
 wr := aGC (m + 5)
 tr := aGD (m + 5)
 tx := aIu (m + 6)
theorem bUP (m : Nat) : bBF (LT (m + 10)) where
 rd := aIl (m + 1)
 st := aIk (m + 2)
 li := aIm (m + 2)
theorem bIZ (m : Nat) : aSq (LT (m + 10)) where
 rd := aIG (m + 5)
 st := aIF (m + 6)
 li := aIH (m + 6)
theorem bTP (m : Nat) : aPd (LT (m + 11)) where
 dd := ⟨S29 (LT (m + 10)), by kernel_rfl, bDq (aUP m) (bGz m)⟩
 fw := aOM (m + 10)
 P := aUP (m + 1)
 D := bGz (m + 1)
 aw := by kernel_rfl
theorem bIW (m : Nat) : bY (LT (m + 11)) 30 aBg := ⟨S30 (LT (m + 10)), by kernel_rfl, aSP (bUP m) (bIZ m) (aGk (m + 9))⟩
theorem bIT (m : Nat) : bY (LT (m + 11)) 31 vZ := aLe (m + 10)
theorem bBY (m : Nat) : bY (LT (m + 11)) 32 sH := aCM (m + 10)
def opD (l : List DV) : OpP := match l with
 | [.int _ a, .int _ b, .int _ c, .str p, .str q, .str t] => ⟨a, b, c, p, q, t⟩
 | _ => op0
theorem bJi : ∀ {l : List DV}, aFn [.i, .i, .i, .s, .s, .s] l -> yV (opD l) = l /\ (opD l).ok
 | [a, b, c, d, e, f], h => by
   obtain ⟨⟨x1, rfl, y1⟩, ⟨x2, rfl, y2⟩, ⟨x3, rfl, y3⟩, ⟨s1, rfl, z1⟩, ⟨s2, rfl, z2⟩, ⟨s3, rfl, z3⟩, _⟩ := h; exact ⟨rfl, y1, y2, y3, z1, z2, z3⟩
 | [], h => h.elim
 | [_], h => h.2.elim
 | [_, _], h => h.2.2.elim
 | [_, _, _], h => h.2.2.2.elim
 | [_, _, _, _], h => h.2.2.2.2.elim
 | [_, _, _, _, _], h => h.2.2.2.2.2.elim
 | _ :: _ :: _ :: _ :: _ :: _ :: _ :: _, h => h.2.2.2.2.2.2.elim
theorem aUU : ∀ {L : List (List DV)}, (∀ l ∈ L, aFn [.i, .i, .i, .s, .s, .s] l) -> L.flatten = xW (L.map opD) /\ ∀ o ∈ L.map opD, o.ok
 | [], _ => ⟨rfl, λ o ho => by cases ho⟩
 | l :: L, h => by
   obtain ⟨a, b⟩ := bJi (h l (by simp))
   obtain ⟨c, d⟩ := aUU (L := L) λ x hx => h x (by simp [hx])
   refine ⟨?_, λ o ho => ?_⟩
   · show l ++ L.flatten = yV (opD l) ++ xW (L.map opD); rw [a, c]
   · rcases List.mem_cons.1 ho with rfl | ho
     · exact b
     · exact d o ho
theorem aMI : (S28 (SE aJo table 60) [] H0).map (λ x => x.1) = some (.bool true) := by kernel_rfl
theorem aMX : gD Tryz.prog 167 sP := aIC λ s c w h1 h2 => Tryz.strings_Repeat s c w h1 h2
theorem aHH : lD Tryz.prog aPb := kP (by kernel_rfl) aMX tQ
theorem aPP : gD Tryz.prog 148 mT := gD.forget ((tab.ok 148 aTM rfl).2 aPb aHH) (aUe rfl)
theorem aMW : gD Tryz.prog 131 mT := gD.forget ((tab.ok 131 aTP rfl).2 aAI tQ) aSQ
theorem aBZ : lD Tryz.prog aFk := kP (tab.ok 148 aTM rfl).1 aPP (kP (tab.ok 131 aTP rfl).1 aMW aHH)
theorem bGB : lD Tryz.prog LI := aRg aBZ tab aT
theorem aYr : gD Tryz.prog 140 wJ := gD.forget ((tab.ok 140 aTN rfl).2 aAI tQ) bJa
theorem aTW : gD Tryz.prog 139 wJ := gD.forget ((tab.ok 139 aTO rfl).2 aAI tQ) bBZ
theorem aYs : gD Tryz.prog 101 aHT := gD.mono ((tab.ok 101 aTQ rfl).2 aFk aBZ) (bJb (E := aFk) (by kernel_rfl))
theorem aMZ : gD Tryz.prog 147 (sQ LI) := gD.or (aTr ((tab.ok 147 aJr rfl).2 LI bGB) (by omega) λ b n c i vb vo vc vop pl h L N V t => aGH b n c i vb vo vc vop pl h L N V t) ((tab.ok 147 aJr rfl).2 LI bGB)
theorem aHG : lD Tryz.prog aJo := kP (tab.ok 147 aJr rfl).1 aMZ (kP (tab.ok 101 aTQ rfl).1 aYs (kP (tab.ok 140 aTN rfl).1 aYr (kP (tab.ok 139 aTO rfl).1 aTW aBZ)))
theorem aKC : gD Tryz.prog 28 aFG := aNC (B := aJo) (n := 60) aHG tab (show Tr.at_ table 28 = some S28 by kernel_rfl) aMI
theorem aWk : lD Tryz.prog bGA := kP (tab.ok 28 S28 rfl).1 aKC aHG
end Go.Proofs.YtmafhiogonejfaaGreatDoor
end
