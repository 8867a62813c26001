/- Both trees side by side; the laws' runs. No condition. -/
import Derived.Test.YtmafhiogonejfaaGreatDoorTr5
import Derived.KernelRfl
set_option linter.unusedVariables false
set_option linter.unusedSimpArgs false
noncomputable section
namespace Go.Proofs.YtmafhiogonejfaaGreatDoor
open Go.DI
def zc : Nat -> List DV
 | 0 => [ii 0, ii 0]
 | n + 1 => ii 0 :: .nili :: zc n
theorem aGz : ∀ n, (zc n).length = n * 2 + 2
 | 0 => rfl
 | n + 1 => by simp only [zc, List.length_cons, aGz n]; omega
theorem aDn : ∀ {n i : Nat}, i <= n -> (zc n)[i * 2]? = some (ii 0)
 | 0, i, h => by
   have : i = 0 := by omega
   subst this; rfl
 | n + 1, 0, h => rfl
 | n + 1, i + 1, h => by
   rw [show (i + 1) * 2 = i * 2 + 1 + 1 from by omega]
   show (zc n)[i * 2]? = _; exact aDn (by omega)
theorem aTo : ∀ {n i : Nat}, i < n -> (zc n)[i * 2 + 1]? = some .nili
 | n + 1, 0, h => rfl
 | n + 1, i + 1, h => by
   rw [show (i + 1) * 2 + 1 = i * 2 + 1 + 1 + 1 from by omega]
   show (zc n)[i * 2 + 1]? = _; exact aTo (by omega)
theorem aPo : ∀ n, (zc n)[n * 2 + 1]? = some (ii 0)
 | 0 => rfl
 | n + 1 => by
   rw [show (n + 1) * 2 + 1 = n * 2 + 1 + 1 + 1 from by omega]
   exact aPo n
def aFa (B : cE) : Prop := ∀ h : H, ∃ t h' C FN, B [] h = some (.ptr t 0, h') /\ cS h' t rH C FN /\ aJ h h' /\ ∀ c, Fp t FN c -> h.size <= c
set_option maxRecDepth 100000 in
theorem bAS {E : bO} (h : H) : S21 E [] h = eC (.agg (zc 256)) h λ x2 h3 =>
 vK (aL x2) λ x4 =>
 vK (aF 0 x4) λ x5 =>
 wK (aD E 65 [] h3) λ x6 h7 =>
 vK (eI [.nilp] [(0, 1, x6)]) λ x8 =>
 vK (lO 256 2 x5 (ii 1)) λ x9 =>
 vK (aF 1 x9) λ x10 =>
 wK (bU 1 x10 (.ifc 120 x8) h7) λ x11 h12 =>
 some (x2, h12) := rfl
theorem aBH (i : Nat) : bM rH.l i = if i = 1 then some ⟨1, 0, 2, [], []⟩ else none := by
 unfold bM rH; by_cases h : i = 1
 · subst h; rfl
 · rw [if_neg h, List.find?_cons, show ((1 : Nat) == i) = false from by rw [beq_eq_false_iff_ne]; omega]; rfl
theorem aRV {E : bO} (hN : cD E 65 aBf) : aFa (S21 E) := by
 obtain ⟨B0, b0, s0⟩ := hN.call; intro h; have hl := aGz 256; obtain ⟨h3, eh3, g3, o3⟩ : ∃ x, x = h.push (.blk ⟨(zc 256).length, (zc 256).length, false, true, Tr.ofL (zc 256)⟩) /\ aJ h x /\ bB x h.size (zc 256) := ⟨_, rfl, aJ.push _ _, bB.pushed⟩; have z3 : h3.size = h.size + 1 := by rw [eh3]; exact H.size_push _ _
 obtain ⟨d, h7, f7, hd, d7, g7⟩ := s0 h3; obtain ⟨h12, f12, fV, k12⟩ := (o3.grown g7).set (v := .ifc 120 (.agg [.ptr d 0])) (j := 3) rfl (by rw [hl]; omega)
 have d12 := d7.off (k12.off (F := λ c => c = h.size) rfl) λ c hc e => by simp at hc; omega
 refine ⟨h.size, h12, (zc 256).set 3 (.ifc 120 (.agg [.ptr d 0])), λ i => if i = 1 then [d] else [], ?_, ⟨?_, fV, ?_, ?_, λ i n hn => ?_, λ i hi hn => ?_, λ i hi => ?_, λ i j hij c hi hj => ?_, λ i hn => ?_⟩, k12.grown (g3.trans g7) (Nat.le_refl _), λ c hc => ?_⟩
 · have bld : eI [.nilp] [(0, 1, .ptr d 0)] = some (.agg [.ptr d 0]) := rfl; rw [bAS, jN, <- eh3, bH, aA, aM, aA, b0, f7, aB, bld, aA, aGC (by omega), aA, aM, aA, f12, aB]
 · rw [List.length_set]; exact hl
 · rw [List.getElem?_set, if_neg (by omega)]; exact aDn (n := 256) (i := 256) (Nat.le_refl _)
 · rw [List.getElem?_set, if_neg (by omega)]; exact aPo 256
 · rw [aBH] at hn; by_cases hi : i = 1
   · subst hi; rw [if_pos rfl] at hn; cases hn; refine ⟨?_, .ifc 120 (.agg [.ptr d 0]), ?_, .inr ⟨rfl, d, rfl, ?_⟩⟩
     · rw [List.getElem?_set, if_neg (by omega)]; exact aDn (n := 256) (i := 1) (by omega)
     · rw [List.getElem?_set, if_pos (by omega), if_pos (by rw [hl]; omega)]
     · exact d12
   · rw [if_neg hi] at hn; cases hn
 · rw [aBH] at hn; have hi1 : i ≠ 1 := λ e => by rw [if_pos e] at hn; cases hn
   rw [List.getElem?_set, if_neg (by omega), List.getElem?_set, if_neg (by omega)]
   exact ⟨aDn (by omega), aTo hi⟩
 · by_cases h1 : i = 1
   · simp only [h1, if_true] at hi; simp at hi; omega
   · simp only [h1, if_false] at hi; cases hi
 · by_cases h1 : i = 1
   · by_cases h2 : j = 1
     · omega
     · simp only [h2, if_false] at hj; cases hj
   · simp only [h1, if_false] at hi; cases hi
 · rw [aBH] at hn; by_cases h1 : i = 1
   · rw [if_pos h1] at hn; cases hn
   · simp only [h1, if_false]
 · rcases hc with rfl | ⟨i, hi⟩
   · exact Nat.le_refl _
   · by_cases h1 : i = 1
     · simp only [h1, if_true] at hi; simp at hi; omega
     · simp only [h1, if_false] at hi; cases hi
def opT (T : TreeP) (o : OpP) : TreeP × Nat :=
 if o.kind = 1 then mkT T o.path 2 else if o.kind = 2 then mkT T o.path 1 else if o.kind = 3 then kJ T o.path else if o.kind = 4 then mV T o.path else
   if o.kind = 5 then kN T o.path o.other else if o.kind = 6 then rP T o.path o.other else if o.kind = 7 then pD T o.path o.at_ o.text else if o.kind = 8 then pG T o.path o.n else (T, 0)
theorem bBr {k : Nat} {T : TreeP} (h : Inv k T) {o : OpP} (ho : o.ok) : Inv (k + 1) (opT T o).1 := by
 obtain ⟨_, _, _, o1, o2, o3⟩ := ho; unfold opT; split
 · exact aPX h o1 (.inr rfl)
 split
 · exact aPX h o1 (.inl rfl)
 split
 · exact (aKs h _).mono (by omega)
 split
 · exact (aNC h _).mono (by omega)
 split
 · exact aKY h _ o2
 split
 · exact aSy h _ o2
 split
 · exact (aMS h o3).mono (by omega)
 split
 · exact (aNc h _ _).mono (by omega)
 · exact h.mono (by omega)
def NA (t : Nat) (FN : Nat -> Ln) (FR : Nat -> Prop) : Nat -> Prop := λ c => ¬ Fp t FN c /\ ¬ FR c
def FRn (FR : Nat -> Prop) (a b : Nat) : Nat -> Prop := λ c => FR c \/ (a <= c /\ c < b)
section
variable {t : Nat} {FN FN' : Nat -> Ln} {FR FR' : Nat -> Prop} {h h' : H} {v : DV} {T : TreeP}
theorem aLb (r : dY (NA t FN FR) h v T) (s : lB t h FN h' FN') : dY (NA t FN' FR) h' v T :=
 r.move s.off.size (λ c hc hl => s.off.get c hl hc.1) λ c hc hl => ⟨λ hF => by
   rcases s.fp c hF with x | x
   · exact hc.1 x
   · exact absurd hl (Nat.not_lt.2 x), hc.2⟩
theorem wH {b : Nat} (r : dY (NA t FN FR) h v T) (k : But b h h') (hb : FR b) : dY (NA t FN FR) h' v T :=
 r.move (Nat.le_of_eq k.size.symm) (λ c hc hl => k.get c λ e => hc.2 (e ▸ hb)) λ _ x _ => x
theorem aEj (r : dY (NA t FN FR) h v T) (hFR : ∀ c, c < h.size -> FR' c -> FR c) : dY (NA t FN FR') h v T :=
 r.move (Nat.le_refl _) (λ _ _ _ => rfl) λ c hc hl => ⟨hc.1, λ x => hc.2 (hFR c hl x)⟩
end
theorem vE {E : bO} {t : Nat} {T T' : TreeP} {C : List DV} {FN : Nat -> Ln} {FR : Nat -> Prop} {o : OpP} {b3 b5 b8 e : Nat} {v' : DV} {L5 L8 : List DV} {hh : H} {P : H -> (DV -> H -> aU) -> aU}
   (hT : cS hh t T C FN) (hR : dY (NA t FN FR) hh v' T') (o3 : bB hh b3 (opV o)) (o5 : bB hh b5 L5) (h5 : L5.length = 2) (o8 : bB hh b8 L8) (h8 : L8.length = 2) (f5 : FR b5) (f8 : FR b8) (n58 : b5 ≠ b8) (n38 : b3 ≠ b8) (hFR : ∀ c, FR c -> ¬ Fp t FN c)
   (hP : ∀ h23, cS h23 t T C FN -> bB h23 b3 (opV o) -> ∃ h27 C' FN', (∀ K, P h23 K = K (ii e) h27) /\ cS h27 t T' C' FN' /\ lB t h23 FN h27 FN') :
   ∃ h' C' FN', (wK (bU 2 (.ptr b8 0) v' hh) λ _ h23 => P h23 λ x26 h27 => sE E (.ptr b5 0) (.ptr b8 0) (ii e) x26 h27) = some (.tup [v', .bool true], h') /\ cS h' t T' C' FN' /\ dY (NA t FN' FR) h' v' T' /\ kW (λ c => Fp t FN c \/ c = b5 \/ c = b8) hh h' /\ ∀ c, Fp t FN' c -> Fp t FN c \/ hh.size <= c := by
 obtain ⟨s, rfl, hs⟩ := hR.agg; have one2 : ([s, ii T'.gen]).all DV.one = true := by simp only [List.all_cons, List.all_nil, hs]; rfl
 obtain ⟨h23, f23, iD, k23⟩ := o8.setAll (n := 2) (cs := [s, ii T'.gen]) h8 rfl one2; have hT23 := hT.off (k23.off (F := λ c => c = b8) rfl) λ c hc e => hFR b8 f8 (e ▸ hc)
 obtain ⟨h27, C', FN', f27, t27, s27⟩ := hP h23 hT23 (o3.but n38 k23); have r27 := aLb (wH hR k23 f8) s27; have lD := iD.off s27.off (hFR b8 f8); have o527 := (o5.but n58 k23).off s27.off (hFR b5 f5); obtain ⟨h29, f29, mN, k29⟩ := o527.setAll (n := 2) (cs := [s, ii T'.gen]) h5 rfl one2; have hn5 : ¬ Fp t FN' b5 := λ hF => by
   rcases s27.fp b5 hF with x | x
   · exact hFR b5 f5 x
   · have := o5.1; have := k23.size; omega
 refine ⟨h29, C', FN', ?_, t27.off (k29.off (F := λ c => c = b5) rfl) (λ c hc e => hn5 (e ▸ hc)), wH r27 k29 f5, (((k23.off (F := λ c => c = b8) rfl).weak λ c _ hc => .inr (.inr hc)).trans (s27.off.weak λ c _ hc => .inl hc)).trans ((k29.off (F := λ c => c = b5) rfl).weak λ c _ hc => .inr (.inl hc)), λ c hc => ?_⟩
 · rw [f23, aB, f27]; unfold sE; rw [lD.all (n := 2) rfl, aA, cG, aA, f29, aB, mN.all (n := 2) rfl, aA, decide_eq_true rfl]
 · rcases s27.fp c hc with x | x
   · exact .inl x
   · have := k23.size; exact .inr (by omega)
structure aDD (E : bO) : Prop where
 nw : cD E 21 aFa
 md : cD E 40 (jK λ T p => mkT T p 2)
 cr : cD E 41 (jK λ T p => mkT T p 1)
 un : cD E 42 (jK kJ)
 rm : cD E 43 (jK mV)
 rn : cD E 44 (rU kN)
 ln : cD E 45 (rU rP)
 wr : cD E 46 zB
 tr : cD E 47 zC
 tx : cD E 24 vQ
def aWu (B : cE) : Prop := ∀ (A : Nat -> Prop) (h : H), (∀ c, h.size <= c -> A c) -> ∃ v h', B [] h = some (v, h') /\ dY A h' v rH /\ aJ h h'
structure aKb (E : bO) : Prop where
 nw : cD E 22 aWu
 md : cD E 66 aBX
 un : cD E 67 (xI kJ)
 rm : cD E 68 (xI mV)
 rn : cD E 69 (rX kN)
 ln : cD E 70 (rX rP)
 wr : cD E 71 zJ
 tr : cD E 72 zK
 tx : cD E 25 rF
structure aPm (E : bO) : Prop where
 rd : cD E 33 aBT
 st : cD E 34 aBS
 li : cD E 35 aBU
def aPl (B : cE) : Prop := ∀ (t : Nat) (T : TreeP) (C : List DV) (FN : Nat -> Ln) (k : Nat) (FR : Nat -> Prop) (v : DV) (o : OpP) (h : H), cS h t T C FN -> dY (NA t FN FR) h v T -> Inv k T -> k < 900 -> (∀ c, FR c -> c < h.size /\ ¬ Fp t FN c) -> o.ok -> o.path.length < 140737488355328 -> o.other.length < 140737488355328 ->
 ∃ v' h' C' FN', B [.ptr t 0, v, .agg (opV o)] h = some (.tup [v', .bool true], h') /\ cS h' t (opT T o).1 C' FN' /\ dY (NA t FN' FR) h' v' (opT T o).1 /\ lB t h FN h' FN'
theorem bCr {E : bO} (Q : aDD E) (D : aKb E) : aPl (S29 E) := by
 intro t T C FN k FR v o h hT hR hI hk hFR hok hpl hol; obtain ⟨hk0, ha0, hn0, okp, oko, okt⟩ := id hok; obtain ⟨s, ev, hs⟩ := hR.agg; subst ev; obtain ⟨h2, eh2, g2, o2⟩ := aV h 2 2 [s, ii T.gen] rfl; have z2 : h2.size = h.size + 1 := by rw [eh2]; exact H.size_push _ _
 obtain ⟨h4, eh4, g4, o4⟩ := aV h2 6 6 (opV o) rfl; have z4 : h4.size = h2.size + 1 := by rw [eh4]; exact H.size_push _ _
 obtain ⟨h6, eh6, g6, o6⟩ := aV h4 2 2 [.nils, ii 0] rfl; have z6 : h6.size = h4.size + 1 := by rw [eh6]; exact H.size_push _ _
 obtain ⟨h9, eh9, g9, o9⟩ := aV h6 2 2 [.nils, ii 0] rfl; have z9 : h9.size = h6.size + 1 := by rw [eh9]; exact H.size_push _ _
 have one2 : ([s, ii T.gen]).all DV.one = true := by simp only [List.all_cons, List.all_nil, hs]; rfl
 obtain ⟨h11, f11, gE, k11⟩ := o9.setAll (n := 2) (cs := [s, ii T.gen]) rfl rfl one2; have z11 : h11.size = h9.size := k11.size; have G11 : aJ h h11 := k11.grown (((g2.trans g4).trans g6).trans g9) (by omega)
 have q2 : bB h11 h.size [s, ii T.gen] := bB.but (((o2.grown g4).grown g6).grown g9) (by omega) k11
 have q4 : bB h11 h2.size (opV o) := bB.but ((o4.grown g6).grown g9) (by omega) k11
 have q6 : bB h11 h4.size [.nils, ii 0] := bB.but (o6.grown g9) (by omega) k11
 have t11 := hT.grown G11; have hlt : ∀ c, Fp t FN c -> c < h.size := λ c hc => hT.lt hc
 have r11 : dY (NA t FN (FRn FR h.size h11.size)) h11 (.agg [s, ii T.gen]) T := (aEj hR λ c hc x => x.elim id λ y => by omega).grown G11
 have hA : ∀ c, h11.size <= c -> NA t FN (FRn FR h.size h11.size) c := λ c hc => ⟨λ x => by have := hlt c x; omega, λ x => x.elim (λ y => by have := (hFR c y).1; omega) λ y => by omega⟩
 have hFR' : ∀ c, FRn FR h.size h11.size c -> ¬ Fp t FN c := λ c x => x.elim (λ y => (hFR c y).2) λ y z => by have := hlt c z; omega
 have fx : ∀ q, aF q (.ptr h2.size 0) = some (.ptr h2.size q) := λ q => by rw [aM, Nat.zero_add]
 have rd0 : ∀ {hh : H}, bB hh h2.size (opV o) -> aG hh.get (.ptr h2.size 0) = some (.int .i64 o.kind) := λ x => x.read rfl
 have rd1 : ∀ {hh : H}, bB hh h2.size (opV o) -> aG hh.get (.ptr h2.size 1) = some (.int .i64 o.at_) := λ x => x.read rfl
 have rd2 : ∀ {hh : H}, bB hh h2.size (opV o) -> aG hh.get (.ptr h2.size 2) = some (.int .i64 o.n) := λ x => x.read rfl
 have rd3 : ∀ {hh : H}, bB hh h2.size (opV o) -> aG hh.get (.ptr h2.size 3) = some (.str o.path) := λ x => x.read rfl
 have rd4 : ∀ {hh : H}, bB hh h2.size (opV o) -> aG hh.get (.ptr h2.size 4) = some (.str o.other) := λ x => x.read rfl
 have rd5 : ∀ {hh : H}, bB hh h2.size (opV o) -> aG hh.get (.ptr h2.size 5) = some (.str o.text) := λ x => x.read rfl
 have fin : ∀ {hh h' : H} {v' : DV} {T' : TreeP} {C' : List DV} {FN' : Nat -> Ln}, aJ h11 hh -> cS h' t T' C' FN' -> dY (NA t FN' (FRn FR h.size h11.size)) h' v' T' -> kW (λ c => Fp t FN c \/ c = h4.size \/ c = h6.size) hh h' -> (∀ c, Fp t FN' c -> Fp t FN c \/ hh.size <= c) -> cS h' t T' C' FN' /\ dY (NA t FN' FR) h' v' T' /\ lB t h FN h' FN' := by
   intro hh h' v' T' C' FN' g a b c d; have zz := g.size; have gg := G11.trans g; have zg := gg.size; refine ⟨a, aEj b λ c _ x => .inl x, ⟨Nat.le_trans zg c.size, λ x hx hn => ?_⟩, λ x hx => (d x hx).elim .inl λ y => .inr (by omega)⟩
   rw [c.get x (by omega) (λ y => by rcases y with y | y | y <;> first | exact hn y | omega)]
   exact gg.get x hx
 show ∃ v' h' C' FN', aRA E (.ptr t 0) (.agg [s, ii T.gen]) (.agg (opV o)) h = _ /\ _; unfold aRA; rw [nbx eh2 rfl, nbx eh4 rfl, cB, <- eh6, (o2.grown g4 |>.grown g6).all (n := 2) rfl, aA, cB, <- eh9, f11, aB, fx, aA, rd0 q4, aA]; unfold opT; rw [jM, aA]; by_cases c1 : o.kind = 1
 · obtain ⟨B0, b0, s0⟩ := D.md.call; obtain ⟨B1, b1, s1⟩ := Q.md.call; obtain ⟨v', h19, f19, r19, g19⟩ := s0 _ _ T k o.path 2 h11 r11 hI hk okp hpl hA; rw [show (o.kind == Int.ofNat 1) = true from by rw [beq_iff_eq]; exact c1, aE, if_pos c1, q2.all (n := 2) rfl, aA, fx, aA, rd3 q4, aA, b0, f19, aB, aZ, aA, aY, aA]
   obtain ⟨h', C', FN', y1, y2, y3, y4, y5⟩ := vE (E := E) (e := (mkT T o.path 2).2) (T' := (mkT T o.path 2).1) (P := λ h23 K => vK (aF 3 (.ptr h2.size 0)) λ a3 => vK (aG h23.get a3) λ y3 => wK (aD E 40 [.ptr t 0, y3] h23) K) (t11.grown g19) r19 (q4.grown g19) (q6.grown g19) rfl (gE.grown g19) rfl (.inr ⟨by omega, by omega⟩) (.inr ⟨by omega, by omega⟩) (by omega) (by omega) hFR' (λ h23 t23 q23 => by
     obtain ⟨h27, C', FN', f27, t27, s27⟩ := s1 t T C FN k o.path h23 t23 hI hk okp hpl; exact ⟨h27, C', FN', λ K => by simp only [fx, rd3 q23, aA, b1, f27, aB], t27, s27⟩)
   exact ⟨v', h', C', FN', y1, fin g19 y2 y3 y4 y5⟩
 rw [show (o.kind == Int.ofNat 1) = false from by rw [beq_eq_false_iff_ne]; exact c1, aC, if_neg c1]
 rw [jM, aA]; by_cases c2 : o.kind = 2
 · obtain ⟨B0, b0, s0⟩ := D.md.call; obtain ⟨B1, b1, s1⟩ := Q.cr.call; obtain ⟨v', h19, f19, r19, g19⟩ := s0 _ _ T k o.path 1 h11 r11 hI hk okp hpl hA; rw [show (o.kind == Int.ofNat 2) = true from by rw [beq_iff_eq]; exact c2, aE, if_pos c2, q2.all (n := 2) rfl, aA, fx, aA, rd3 q4, aA, b0, f19, aB, aZ, aA, aY, aA]
   obtain ⟨h', C', FN', y1, y2, y3, y4, y5⟩ := vE (E := E) (e := (mkT T o.path 1).2) (T' := (mkT T o.path 1).1) (P := λ h23 K => vK (aF 3 (.ptr h2.size 0)) λ a3 => vK (aG h23.get a3) λ y3 => wK (aD E 41 [.ptr t 0, y3] h23) K) (t11.grown g19) r19 (q4.grown g19) (q6.grown g19) rfl (gE.grown g19) rfl (.inr ⟨by omega, by omega⟩) (.inr ⟨by omega, by omega⟩) (by omega) (by omega) hFR' (λ h23 t23 q23 => by
     obtain ⟨h27, C', FN', f27, t27, s27⟩ := s1 t T C FN k o.path h23 t23 hI hk okp hpl; exact ⟨h27, C', FN', λ K => by simp only [fx, rd3 q23, aA, b1, f27, aB], t27, s27⟩)
   exact ⟨v', h', C', FN', y1, fin g19 y2 y3 y4 y5⟩
 rw [show (o.kind == Int.ofNat 2) = false from by rw [beq_eq_false_iff_ne]; exact c2, aC, if_neg c2]
 rw [jM, aA]; by_cases c3 : o.kind = 3
 · obtain ⟨B0, b0, s0⟩ := D.un.call; obtain ⟨B1, b1, s1⟩ := Q.un.call; obtain ⟨v', h19, f19, r19, g19⟩ := s0 _ _ T k o.path h11 r11 hI hk hpl hA; rw [show (o.kind == Int.ofNat 3) = true from by rw [beq_iff_eq]; exact c3, aE, if_pos c3, q2.all (n := 2) rfl, aA, fx, aA, rd3 q4, aA, b0, f19, aB, aZ, aA, aY, aA]
   obtain ⟨h', C', FN', y1, y2, y3, y4, y5⟩ := vE (E := E) (e := (kJ T o.path).2) (T' := (kJ T o.path).1) (P := λ h23 K => vK (aF 3 (.ptr h2.size 0)) λ a3 => vK (aG h23.get a3) λ y3 => wK (aD E 42 [.ptr t 0, y3] h23) K) (t11.grown g19) r19 (q4.grown g19) (q6.grown g19) rfl (gE.grown g19) rfl (.inr ⟨by omega, by omega⟩) (.inr ⟨by omega, by omega⟩) (by omega) (by omega) hFR' (λ h23 t23 q23 => by
     obtain ⟨h27, C', FN', f27, t27, s27⟩ := s1 t T C FN k o.path h23 t23 hI hk okp hpl; exact ⟨h27, C', FN', λ K => by simp only [fx, rd3 q23, aA, b1, f27, aB], t27, s27⟩)
   exact ⟨v', h', C', FN', y1, fin g19 y2 y3 y4 y5⟩
 rw [show (o.kind == Int.ofNat 3) = false from by rw [beq_eq_false_iff_ne]; exact c3, aC, if_neg c3]
 rw [jM, aA]; by_cases c4 : o.kind = 4
 · obtain ⟨B0, b0, s0⟩ := D.rm.call; obtain ⟨B1, b1, s1⟩ := Q.rm.call; obtain ⟨v', h19, f19, r19, g19⟩ := s0 _ _ T k o.path h11 r11 hI hk hpl hA; rw [show (o.kind == Int.ofNat 4) = true from by rw [beq_iff_eq]; exact c4, aE, if_pos c4, q2.all (n := 2) rfl, aA, fx, aA, rd3 q4, aA, b0, f19, aB, aZ, aA, aY, aA]
   obtain ⟨h', C', FN', y1, y2, y3, y4, y5⟩ := vE (E := E) (e := (mV T o.path).2) (T' := (mV T o.path).1) (P := λ h23 K => vK (aF 3 (.ptr h2.size 0)) λ a3 => vK (aG h23.get a3) λ y3 => wK (aD E 43 [.ptr t 0, y3] h23) K) (t11.grown g19) r19 (q4.grown g19) (q6.grown g19) rfl (gE.grown g19) rfl (.inr ⟨by omega, by omega⟩) (.inr ⟨by omega, by omega⟩) (by omega) (by omega) hFR' (λ h23 t23 q23 => by
     obtain ⟨h27, C', FN', f27, t27, s27⟩ := s1 t T C FN k o.path h23 t23 hI hk okp hpl; exact ⟨h27, C', FN', λ K => by simp only [fx, rd3 q23, aA, b1, f27, aB], t27, s27⟩)
   exact ⟨v', h', C', FN', y1, fin g19 y2 y3 y4 y5⟩
 rw [show (o.kind == Int.ofNat 4) = false from by rw [beq_eq_false_iff_ne]; exact c4, aC, if_neg c4]
 rw [jM, aA]; by_cases c5 : o.kind = 5
 · obtain ⟨B0, b0, s0⟩ := D.rn.call; obtain ⟨B1, b1, s1⟩ := Q.rn.call; obtain ⟨v', h19, f19, r19, g19⟩ := s0 _ _ T k o.path o.other h11 r11 hI hk hpl hol oko hA; rw [show (o.kind == Int.ofNat 5) = true from by rw [beq_iff_eq]; exact c5, aE, if_pos c5, q2.all (n := 2) rfl, aA, fx, aA, rd3 q4, aA, fx, aA, rd4 q4, aA, b0, f19, aB, aZ, aA, aY, aA]
   obtain ⟨h', C', FN', y1, y2, y3, y4, y5⟩ := vE (E := E) (e := (kN T o.path o.other).2) (T' := (kN T o.path o.other).1) (P := λ h23 K => vK (aF 3 (.ptr h2.size 0)) λ a3 => vK (aG h23.get a3) λ y3 => vK (aF 4 (.ptr h2.size 0)) λ a4 => vK (aG h23.get a4) λ y4 => wK (aD E 44 [.ptr t 0, y3, y4] h23) K) (t11.grown g19) r19 (q4.grown g19) (q6.grown g19) rfl (gE.grown g19) rfl (.inr ⟨by omega, by omega⟩) (.inr ⟨by omega, by omega⟩) (by omega) (by omega) hFR' (λ h23 t23 q23 => by
     obtain ⟨h27, C', FN', f27, t27, s27⟩ := s1 t T C FN k o.path o.other h23 t23 hI hk oko hpl hol; exact ⟨h27, C', FN', λ K => by simp only [fx, rd3 q23, rd4 q23, aA, b1, f27, aB], t27, s27⟩)
   exact ⟨v', h', C', FN', y1, fin g19 y2 y3 y4 y5⟩
 rw [show (o.kind == Int.ofNat 5) = false from by rw [beq_eq_false_iff_ne]; exact c5, aC, if_neg c5]
 rw [jM, aA]; by_cases c6 : o.kind = 6
 · obtain ⟨B0, b0, s0⟩ := D.ln.call; obtain ⟨B1, b1, s1⟩ := Q.ln.call; obtain ⟨v', h19, f19, r19, g19⟩ := s0 _ _ T k o.path o.other h11 r11 hI hk hpl hol oko hA; rw [show (o.kind == Int.ofNat 6) = true from by rw [beq_iff_eq]; exact c6, aE, if_pos c6, q2.all (n := 2) rfl, aA, fx, aA, rd3 q4, aA, fx, aA, rd4 q4, aA, b0, f19, aB, aZ, aA, aY, aA]
   obtain ⟨h', C', FN', y1, y2, y3, y4, y5⟩ := vE (E := E) (e := (rP T o.path o.other).2) (T' := (rP T o.path o.other).1) (P := λ h23 K => vK (aF 3 (.ptr h2.size 0)) λ a3 => vK (aG h23.get a3) λ y3 => vK (aF 4 (.ptr h2.size 0)) λ a4 => vK (aG h23.get a4) λ y4 => wK (aD E 45 [.ptr t 0, y3, y4] h23) K) (t11.grown g19) r19 (q4.grown g19) (q6.grown g19) rfl (gE.grown g19) rfl (.inr ⟨by omega, by omega⟩) (.inr ⟨by omega, by omega⟩) (by omega) (by omega) hFR' (λ h23 t23 q23 => by
     obtain ⟨h27, C', FN', f27, t27, s27⟩ := s1 t T C FN k o.path o.other h23 t23 hI hk oko hpl hol; exact ⟨h27, C', FN', λ K => by simp only [fx, rd3 q23, rd4 q23, aA, b1, f27, aB], t27, s27⟩)
   exact ⟨v', h', C', FN', y1, fin g19 y2 y3 y4 y5⟩
 rw [show (o.kind == Int.ofNat 6) = false from by rw [beq_eq_false_iff_ne]; exact c6, aC, if_neg c6]
 rw [jM, aA]; by_cases c7 : o.kind = 7
 · obtain ⟨B0, b0, s0⟩ := D.wr.call; obtain ⟨B1, b1, s1⟩ := Q.wr.call; obtain ⟨v', h19, f19, r19, g19⟩ := s0 _ _ T k o.path o.at_ o.text h11 r11 hI hk hpl okt ha0 hA; rw [show (o.kind == Int.ofNat 7) = true from by rw [beq_iff_eq]; exact c7, aE, if_pos c7, q2.all (n := 2) rfl, aA, fx, aA, rd3 q4, aA, fx, aA, rd1 q4, aA, fx, aA, rd5 q4, aA, b0, f19, aB, aZ, aA, aY, aA]
   obtain ⟨h', C', FN', y1, y2, y3, y4, y5⟩ := vE (E := E) (e := (pD T o.path o.at_ o.text).2) (T' := (pD T o.path o.at_ o.text).1) (P := λ h23 K => vK (aF 3 (.ptr h2.size 0)) λ a3 => vK (aG h23.get a3) λ y3 => vK (aF 1 (.ptr h2.size 0)) λ a1 => vK (aG h23.get a1) λ y1 => vK (aF 5 (.ptr h2.size 0)) λ a5 => vK (aG h23.get a5) λ y5 => wK (aD E 46 [.ptr t 0, y3, y1, y5] h23) K) (t11.grown g19) r19 (q4.grown g19) (q6.grown g19) rfl (gE.grown g19) rfl (.inr ⟨by omega, by omega⟩) (.inr ⟨by omega, by omega⟩) (by omega) (by omega) hFR' (λ h23 t23 q23 => by
     obtain ⟨h27, C', FN', f27, t27, s27⟩ := s1 t T C FN k o.path o.at_ o.text h23 t23 hI hk hpl okt ha0; exact ⟨h27, C', FN', λ K => by simp only [fx, rd3 q23, rd1 q23, rd5 q23, aA, b1, f27, aB], t27, s27⟩)
   exact ⟨v', h', C', FN', y1, fin g19 y2 y3 y4 y5⟩
 rw [show (o.kind == Int.ofNat 7) = false from by rw [beq_eq_false_iff_ne]; exact c7, aC, if_neg c7]
 rw [jM, aA]; by_cases c8 : o.kind = 8
 · obtain ⟨B0, b0, s0⟩ := D.tr.call; obtain ⟨B1, b1, s1⟩ := Q.tr.call; obtain ⟨v', h19, f19, r19, g19⟩ := s0 _ _ T k o.path o.n h11 r11 hI hk hpl hn0 hA; rw [show (o.kind == Int.ofNat 8) = true from by rw [beq_iff_eq]; exact c8, aE, if_pos c8, q2.all (n := 2) rfl, aA, fx, aA, rd3 q4, aA, fx, aA, rd2 q4, aA, b0, f19, aB, aZ, aA, aY, aA]
   obtain ⟨h', C', FN', y1, y2, y3, y4, y5⟩ := vE (E := E) (e := (pG T o.path o.n).2) (T' := (pG T o.path o.n).1) (P := λ h23 K => vK (aF 3 (.ptr h2.size 0)) λ a3 => vK (aG h23.get a3) λ y3 => vK (aF 2 (.ptr h2.size 0)) λ a2 => vK (aG h23.get a2) λ y2 => wK (aD E 47 [.ptr t 0, y3, y2] h23) K) (t11.grown g19) r19 (q4.grown g19) (q6.grown g19) rfl (gE.grown g19) rfl (.inr ⟨by omega, by omega⟩) (.inr ⟨by omega, by omega⟩) (by omega) (by omega) hFR' (λ h23 t23 q23 => by
     obtain ⟨h27, C', FN', f27, t27, s27⟩ := s1 t T C FN k o.path o.n h23 t23 hI hk hpl hn0; exact ⟨h27, C', FN', λ K => by simp only [fx, rd3 q23, rd2 q23, aA, b1, f27, aB], t27, s27⟩)
   exact ⟨v', h', C', FN', y1, fin g19 y2 y3 y4 y5⟩
 rw [show (o.kind == Int.ofNat 8) = false from by rw [beq_eq_false_iff_ne]; exact c8, aC, if_neg c8]
 obtain ⟨h', f', o', k'⟩ := q6.setAll (n := 2) (cs := [s, ii T.gen]) rfl rfl one2; obtain ⟨a, b, c⟩ := fin (aJ.refl h11) (t11.off (k'.off (F := λ c => c = h4.size) rfl) λ c hc e => by have := hlt c hc; omega) (wH r11 k' (.inr ⟨by omega, by omega⟩)) ((k'.off (F := λ c => c = h4.size) rfl).weak λ c _ hc => .inr (.inl hc)) (λ c hc => .inl hc)
 refine ⟨_, h', C, FN, ?_, a, b, c⟩; unfold sE; rw [gE.all (n := 2) rfl, aA, cG, aA, f', aB, o'.all (n := 2) rfl, aA, decide_eq_true rfl]
def xP (l : List OpP) : List DV := l.flatMap opV
theorem uU : ∀ l : List OpP, (xP l).length = l.length * 6
 | [] => rfl
 | x :: xs => by
   show (opV x ++ xP xs).length = _; rw [List.length_append, uU xs]; simp [opV]; omega
theorem aLj : ∀ {xs : List OpP} {i : Nat} {x : OpP}, xs[i]? = some x -> ∀ j, j < 6 -> (xP xs)[i * 6 + j]? = (opV x)[j]?
 | [], i, x, h, _, _ => by simp at h
 | y :: xs, 0, x, h, j, hj => by
   simp at h; subst h; show (opV y ++ xP xs)[_]? = _; rw [Nat.zero_mul, Nat.zero_add, List.getElem?_append_left (by simpa [opV] using hj)]
 | y :: xs, i + 1, x, h, j, hj => by
   simp only [List.getElem?_cons_succ] at h; show (opV y ++ xP xs)[_]? = _; rw [List.getElem?_append_right (by simp [opV]; omega)]
   have : (i + 1) * 6 + j - (opV y).length = i * 6 + j := by simp [opV]; omega
   rw [this]; exact aLj h j hj
theorem aLk {A : Nat -> Prop} {h : H} {s : DV} {xs : List OpP} (r : RowE A 6 h s (xP xs)) {i : Nat} {x : OpP} (he : xs[i]? = some x) (k : IntKind) :
   ∃ b o, bR 6 s (.int k (.ofNat i)) = some (.ptr b o) /\ (∀ q, aF q (.ptr b o) = some (.ptr b (o + q))) /\ aG h.get (.ptr b (o + 0)) = some (.int .i64 x.kind) /\ aG h.get (.ptr b (o + 1)) = some (.int .i64 x.at_) /\ aG h.get (.ptr b (o + 2)) = some (.int .i64 x.n) /\
     aG h.get (.ptr b (o + 3)) = some (.str x.path) /\ aG h.get (.ptr b (o + 4)) = some (.str x.other) /\ aG h.get (.ptr b (o + 5)) = some (.str x.text) /\ aK 6 h.get (.ptr b o) = some (.agg (opV x)) := by
 obtain ⟨b, o, h1, h2⟩ := r.ix (i := i) (n := xs.length) (uU xs) (List.getElem?_eq_some_iff.1 he).1 (by omega) k
 have g := aLj he; have c : ∀ j, j < 6 -> ∀ y, (opV x)[j]? = some y -> rdCell h.get b (o + j) = some y := λ j hj y hy => h2 j y hj (by rw [g j hj]; exact hy)
 have c0 := c 0 (by omega) _ rfl
 have c1 := c 1 (by omega) _ rfl
 have c2 := c 2 (by omega) _ rfl
 have c3 := c 3 (by omega) _ rfl
 have c4 := c 4 (by omega) _ rfl
 have c5 := c 5 (by omega) _ rfl
 refine ⟨b, o, h1, λ q => aM q b o, by simp only [aG, cH]; exact c0, by simp only [aG, cH]; exact c1, by simp only [aG, cH]; exact c2, by simp only [aG, cH]; exact c3, by simp only [aG, cH]; exact c4, by simp only [aG, cH]; exact c5, ?_⟩
 rw [Nat.add_zero] at c0; have hc : rdCells h.get b o 6 = some (opV x) := by
   simp only [rdCells, c0, c1, c2, c3, c4, c5, Nat.add_assoc, Nat.reduceAdd]; rfl
 simp only [aK, cC, hc]; rfl
theorem aAB {A : Nat -> Prop} {h : H} {s : DV} {xs : List OpP} (r : RowE A 6 h s (xP xs)) : bX s = some (ii xs.length) := by
 obtain ⟨n, e1, e2⟩ := r.len; have : n = xs.length := by rw [uU] at e1; omega
 rw [<- this]; exact e2
def aDt (o : OpP) : Prop := o.path.length <= 600 /\ o.other.length <= 600 /\ o.text.length <= 20000
def aJY (B : cE) : Prop := ∀ (A : Nat -> Prop) (v : DV) (l : List OpP) (h : H), RowE A 6 h v (xP l) -> ∃ e, B [v] h = some (ii e, h) /\ (e ≠ 0 -> l.length <= 60 /\ ∀ o ∈ l, aDt o)
theorem aOh {E : bO} {A : Nat -> Prop} {v : DV} {l : List OpP} {h : H} (r : RowE A 6 h v (xP l)) (hl : l.length <= 60) : ∀ (k i m : Nat), l.length - i = k -> i <= l.length ->
   ∃ e, aHu E v (m + (k + 1)) (ii i) h = some (ii e, h) /\ (e ≠ 0 -> ∀ o ∈ l.drop i, aDt o) := by
 intro k
 induction k with
 | zero =>
   intro i m hk hi; have : i = l.length := by omega
   subst this; refine ⟨1, ?_, λ _ o ho => by rw [List.drop_length] at ho; cases ho⟩
   show aMK E v (aHu E v m) _ h = _; unfold aMK; rw [aAB r, aA, aP, aA, decide_eq_false (Nat.lt_irrefl _), aC]
   rfl
 | succ k ih =>
   intro i m hk hi; have hlt : i < l.length := by omega
   obtain ⟨x, hx⟩ : ∃ x, l[i]? = some x := ⟨_, List.getElem?_eq_getElem hlt⟩; obtain ⟨b, o, q1, q2, q3, q4, q5, q6, q7, q8, q9⟩ := aLk r hx .i64; have hd : l.drop i = x :: l.drop (i + 1) := by
     rw [List.drop_eq_getElem_cons hlt]; rw [List.getElem?_eq_getElem hlt] at hx; rw [Option.some.inj hx]
   show ∃ e, aMK E v (aHu E v (m + (k + 1))) _ h = _ /\ _; unfold aMK; rw [aAB r, aA, aP, aA, decide_eq_true hlt, aE, q1, aA, q2, aA, q6, aA, bD, aA, dI, aA]; by_cases c1 : 600 < x.path.length
   · simp only [decide_eq_true c1, iN, fJ, cO, aA]; rw [aE]; exact ⟨0, rfl, λ y => absurd rfl y⟩
   · simp only [decide_eq_false c1, eN, q1, q2, q7, bD, dI, cP, aA]; by_cases c2 : 600 < x.other.length
     · simp only [decide_eq_true c2, iN, fJ, cO, aA]; rw [aE]; exact ⟨0, rfl, λ y => absurd rfl y⟩
     · simp only [decide_eq_false c2, eN, q1, q2, q8, bD, dI, cP, aA]; by_cases c3 : 20000 < x.text.length
       · rw [decide_eq_true c3, aE]; exact ⟨0, rfl, λ y => absurd rfl y⟩
       · obtain ⟨e, y1, y2⟩ := ih (i + 1) m (by omega) (by omega)
         rw [decide_eq_false c3, aC, bW (by omega), aA]
         refine ⟨e, y1, λ he o ho => ?_⟩
         rw [hd] at ho; rcases List.mem_cons.1 ho with rfl | ho
         · exact ⟨by omega, by omega, by omega⟩
         · exact y2 he o ho
theorem aUO {E : bO} : aJY (S20 E) := by
 intro A v l h r; show ∃ e, aRF E v h = _ /\ _; unfold aRF; rw [aAB r, aA, dI, aA]; by_cases c : 60 < l.length
 · rw [decide_eq_true c, aE]; exact ⟨0, rfl, λ y => absurd rfl y⟩
 · rw [decide_eq_false c, aC]; obtain ⟨e, y1, y2⟩ := aOh (E := E) r (by omega) l.length 0 (aR - (l.length + 1)) rfl (by omega)
   rw [show aR - (l.length + 1) + (l.length + 1) = aR from by unfold aR; omega] at y1
   exact ⟨e, y1, λ he => ⟨by omega, by have := y2 he; rwa [List.drop_zero] at this⟩⟩
theorem bSP {x : Bool} : gB (.bool false) false x = x := by cases x <;> rfl
theorem bBe {A : Nat -> Prop} {h : H} {v : DV} {T : TreeP} (r : dY A h v T) : rcK (some v) v = true := by
 obtain ⟨s, xs, rfl, _, e3, _⟩ := r; have hs : qD s s = true := wI e3; show qD _ _ = true; simp only [qD, aAQ, hs, Bool.and_true, Bool.true_and, decide_true]
structure aDm (N0 : Nat) (hh : H) (t b : Nat) (T : TreeP) (C : List DV) (FN : Nat -> Ln) (v : DV) (k : Nat) : Prop where
 tree : cS hh t T C FN
 ref : dY (NA t FN (λ c => c = b)) hh v T
 inv : Inv k T
 box : ∃ s, v = .agg [s, ii T.gen] /\ s.one = true /\ bB hh b [s, ii T.gen]
 hb : ¬ Fp t FN b
 lo : ∀ c, Fp t FN c -> N0 <= c
 lob : N0 <= b
theorem aDm.grown {N0 : Nat} {hh h' : H} {t b : Nat} {T : TreeP} {C : List DV} {FN : Nat -> Ln} {v : DV} {k : Nat} (B : aDm N0 hh t b T C FN v k) (g : aJ hh h') : aDm N0 h' t b T C FN v k where
 tree := B.tree.grown g
 ref := B.ref.grown g
 inv := B.inv
 box := by obtain ⟨s, e, e1, o⟩ := B.box; exact ⟨s, e, e1, o.grown g⟩
 hb := B.hb
 lo := B.lo
 lob := B.lob
theorem aDm.ld {N0 : Nat} {hh : H} {t b : Nat} {T : TreeP} {C : List DV} {FN : Nat -> Ln} {v : DV} {k : Nat} (B : aDm N0 hh t b T C FN v k) : aK 2 hh.get (.ptr b 0) = some v := by
 obtain ⟨s, rfl, e1, o⟩ := B.box; exact o.all (n := 2) rfl
theorem aDm.size {N0 : Nat} {hh : H} {t b : Nat} {T : TreeP} {C : List DV} {FN : Nat -> Ln} {v : DV} {k : Nat} (B : aDm N0 hh t b T C FN v k) : N0 <= hh.size := by
 obtain ⟨s, _, _, o⟩ := B.box; have := B.lob; have := o.1; omega
theorem bCs {B : cE} (sB : aPl B) {N0 : Nat} {hh : H} {t b : Nat} {T : TreeP} {C : List DV} {FN : Nat -> Ln} {v : DV} {k : Nat} {o : OpP} (S : aDm N0 hh t b T C FN v k) (hk : k < 900) (ho : o.ok) (hs : aDt o) :
   ∃ v' h9 h13 C' FN' s, B [.ptr t 0, v, .agg (opV o)] (hh.push (.blk ⟨2, 2, false, true, Tr.ofL [.nils, ii 0]⟩)) = some (.tup [v', .bool true], h9) /\ bU 2 (.ptr hh.size 0) v' h9 = some (.tup [], h13) /\ aK 2 h13.get (.ptr hh.size 0) = some v' /\
     cS h13 t (opT T o).1 C' FN' /\ dY (NA t FN' (λ c => c = b \/ c = hh.size)) h13 v' (opT T o).1 /\ dY (NA t FN' (λ c => c = b \/ c = hh.size)) h13 v T /\
     v' = .agg [s, ii ((opT T o).1.gen)] /\ s.one = true /\ aK 2 h13.get (.ptr b 0) = some v /\ (∃ L, bB h13 b L /\ L.length = 2) /\ bB h13 hh.size [s, ii ((opT T o).1.gen)] /\ ¬ Fp t FN' b /\ ¬ Fp t FN' hh.size /\ (∀ c, Fp t FN' c -> N0 <= c) /\ kW (λ c => N0 <= c) hh h13 /\ Inv (k + 1) (opT T o).1 /\ kW (Fp t FN) hh h13 /\ ∀ c, Fp t FN' c -> Fp t FN c \/ hh.size <= c := by
 obtain ⟨h7, eh7, g7, o7⟩ := aV hh 2 2 [.nils, ii 0] rfl; have z7 : h7.size = hh.size + 1 := by rw [eh7]; exact H.size_push _ _
 have S7 := S.grown g7; have hlt : ∀ c, Fp t FN c -> c < hh.size := λ c hc => S.tree.lt hc
 obtain ⟨sv, ev, hsv, ob⟩ := S7.box; have hb7 : b < hh.size := by
   obtain ⟨s, _, _, oo⟩ := S.box; exact oo.1
 have r7 : dY (NA t FN (λ c => c = b \/ c = hh.size)) h7 v T := (aEj S.ref λ c hc x => x.elim id λ y => by omega).grown g7
 have hFR : ∀ c, (c = b \/ c = hh.size) -> c < h7.size /\ ¬ Fp t FN c := λ c hc => by
   rcases hc with rfl | rfl
   · exact ⟨by omega, S.hb⟩
   · exact ⟨by omega, λ x => by have := hlt _ x; omega⟩
 obtain ⟨v', h9, C', FN', f9, t9, r9, s9⟩ := sB t T C FN k _ v o h7 S7.tree r7 S.inv hk hFR ho (by have := hs.1; omega) (by have := hs.2.1; omega)
 obtain ⟨s, ev', hs'⟩ := r9.agg; have one2 : ([s, ii ((opT T o).1.gen)]).all DV.one = true := by simp only [List.all_cons, List.all_nil, hs']; rfl
 have o9 := o7.off s9.off (hFR _ (.inr rfl)).2; obtain ⟨h13, f13, gN, k13⟩ := o9.setAll (n := 2) (cs := [s, ii ((opT T o).1.gen)]) rfl rfl one2; have nf : ∀ c, (c = b \/ c = hh.size) -> ¬ Fp t FN' c := λ c hc x => by
   obtain ⟨y1, y2⟩ := hFR c hc; rcases s9.fp c x with z | z
   · exact y2 z
   · omega
 have ob9 := ob.off s9.off S.hb; have ob13 := ob9.but (by omega) k13
 have hN := S.size; subst ev'; refine ⟨_, h9, h13, C', FN', s, by rw [<- eh7]; exact f9, f13, gN.all (n := 2) rfl, t9.off (k13.off (F := λ c => c = hh.size) rfl) (λ c hc e => nf _ (.inr rfl) (e ▸ hc)), wH r9 k13 (.inr rfl), wH (aLb r7 s9) k13 (.inr rfl), rfl, hs', by rw [ev]; exact ob13.all (n := 2) rfl, ⟨_, ob13, rfl⟩, gN, nf _ (.inl rfl), nf _ (.inr rfl), λ c hc => ?_, ((g7.off _).trans (s9.off.weak λ c _ hc => S.lo c hc)).trans (k13.off (F := λ c => N0 <= c) hN), bBr S.inv ho, (((g7.off _).trans (s9.off.weak λ c _ hc => .inl hc)).trans ((k13.off (F := λ c => c = hh.size) rfl).weak λ c _ hc => .inr hc)).weak (F := λ c => Fp t FN c \/ c = hh.size) λ c hc x => x.elim id λ y => by omega, λ c hc => (s9.fp c hc).elim .inl λ y => .inr (by omega)⟩
 rcases s9.fp c hc with x | x
 · exact S.lo c x
 · omega
theorem bIY {N0 : Nat} {hh : H} {t b : Nat} {T' : TreeP} {C' : List DV} {FN' : Nat -> Ln} {s : DV} {k : Nat} {FR : Nat -> Prop} (ht : cS hh t T' C' FN') (hr : dY (NA t FN' FR) hh (.agg [s, ii T'.gen]) T') (hs : s.one = true) (hFR : FR b) (ob : ∃ L, bB hh b L /\ L.length = 2) (hb : ¬ Fp t FN' b) (lo : ∀ c, Fp t FN' c -> N0 <= c) (lob : N0 <= b) (hI : Inv k T') :
   ∃ h16, bU 2 (.ptr b 0) (.agg [s, ii T'.gen]) hh = some (.tup [], h16) /\ aDm N0 h16 t b T' C' FN' (.agg [s, ii T'.gen]) k /\ kW (λ c => N0 <= c) hh h16 := by
 obtain ⟨L, ob, hL⟩ := ob; have one2 : ([s, ii T'.gen]).all DV.one = true := by simp only [List.all_cons, List.all_nil, hs]; rfl
 obtain ⟨h16, f16, iC, k16⟩ := ob.setAll (n := 2) (cs := [s, ii T'.gen]) hL rfl one2; refine ⟨h16, f16, ⟨ht.off (k16.off (F := λ c => c = b) rfl) (λ c hc e => hb (e ▸ hc)), (wH hr k16 hFR).move (Nat.le_refl _) (λ _ _ _ => rfl) (λ c hc _ => ⟨hc.1, λ e => hc.2 (e ▸ hFR)⟩), hI, ⟨s, rfl, hs, iC⟩, hb, lo, lob⟩, k16.off lob⟩
theorem aVs {E : bO} (Q : aDD E) (D : aKb E) (h : H) :
   ∃ t v h7 h9 h13 C FN b, aD E 21 [] h = some (.ptr t 0, h7) /\ aD E 22 [] h7 = some (v, h9) /\ b = h9.size /\ bU 2 (.ptr h9.size 0) v (h9.push (.blk ⟨2, 2, false, true, Tr.ofL [.nils, ii 0]⟩)) = some (.tup [], h13) /\ aDm h.size h13 t b rH C FN v 0 /\ aJ h h13 := by
 obtain ⟨B0, b0, s0⟩ := Q.nw.call; obtain ⟨B1, b1, s1⟩ := D.nw.call; obtain ⟨t, h7, C, FN, f7, t7, g7, lo⟩ := s0 h; have hlt : ∀ c, Fp t FN c -> c < h7.size := λ c hc => t7.lt hc
 obtain ⟨v, h9, f9, r9, g9⟩ := s1 (λ c => h7.size <= c) h7 λ c hc => hc
 obtain ⟨s, ev, hs⟩ := r9.agg; obtain ⟨h11, eh, g11, gE⟩ := aV h9 2 2 [.nils, ii 0] rfl; have one2 : ([s, ii rH.gen]).all DV.one = true := by simp only [List.all_cons, List.all_nil, hs]; rfl
 obtain ⟨h13, f13, gN, k13⟩ := gE.setAll (n := 2) (cs := [s, ii rH.gen]) rfl rfl one2; have z9 := g9.size; have z7 := g7.size; have G : aJ h9 h13 := k13.grown g11 (Nat.le_refl _); subst ev; refine ⟨t, _, h7, h9, h13, C, FN, h9.size, by rw [b0]; exact f7, by rw [b1]; exact f9, rfl, by rw [<- eh]; exact f13, ⟨(t7.grown g9).grown G, (r9.move (A' := NA t FN (λ c => c = h9.size)) (Nat.le_refl _) (λ _ _ _ => rfl) (λ c hc hl => ⟨λ x => by have := hlt c x; omega, λ e => by omega⟩)).grown G, aRT, ⟨s, rfl, hs, gN⟩, λ x => by have := hlt _ x; omega, lo, by omega⟩, (g7.trans g9).trans G⟩
structure aOx (E : bO) : Prop where
 dd : cD E 29 aPl
 fw : cD E 20 aJY
 P : aDD E
 D : aKb E
 aw : E 28 = some aFu
theorem aPI {n : Nat} {h h' : H} {w : DV} {l : List OpP} (r : RowE (λ c => c < n) 6 h w (xP l)) (k : kW (λ c => n <= c) h h') : RowE (λ c => c < n) 6 h' w (xP l) := r.off k λ c hc x => by omega
theorem aEi {E : bO} (K : aOx E) (Q : aPm E) {l : List OpP} {w : DV} {n0 t b : Nat} (hok : ∀ o ∈ l, o.ok /\ aDt o) (hl : l.length <= 60) :
   ∀ (k i m : Nat) (hh : H) (T : TreeP) (C : List DV) (FN : Nat -> Ln) (v : DV), l.length - i = k -> i <= l.length -> RowE (λ c => c < n0) 6 hh w (xP l) -> aDm n0 hh t b T C FN v i ->
   (aOy E w (.ptr t 0) (.ptr b 0) (m + (k + 1)) (ii i) hh).map (·.1) = some (.bool true) := by
 obtain ⟨B0, b0, s0⟩ := K.dd.call; obtain ⟨B1, b1, s1⟩ := Q.rd.call; obtain ⟨B2, b2, s2⟩ := Q.st.call; obtain ⟨B3, b3, s3⟩ := Q.li.call; obtain ⟨B4, b4, s4⟩ := K.P.tx.call; obtain ⟨B5, b5, s5⟩ := K.D.tx.call; have aw : ∀ m, aD E 28 [] m = some (.bool true, m) := λ m => by rw [cM K.aw]; rfl
 intro k
 induction k with
 | zero =>
   intro i m hh T C FN v hk hi r S; have : i = l.length := by omega
   subst this; show (bAJ E w _ _ (aOy E w _ _ m) _ hh).map _ = _; unfold bAJ; rw [aAB r, aA, aP, aA, decide_eq_false (Nat.lt_irrefl _), aC]; unfold bEH; rw [aw, aB]; rfl
 | succ k ih =>
   intro i m hh T C FN v hk hi r S; have hlt : i < l.length := by omega
   obtain ⟨o, ho⟩ : ∃ o, l[i]? = some o := ⟨_, List.getElem?_eq_getElem hlt⟩; obtain ⟨ok1, ok2⟩ := hok o (List.mem_of_getElem? ho); obtain ⟨h4, f4, g4⟩ := s4 t T C FN _ hh S.tree S.inv (by omega)
   have S4 := S.grown g4; have r4 := r.grown g4; obtain ⟨rb, ro, q1, q2, q3, q4, q5, q6, q7, q8, q9⟩ := aLk r4 ho .i64; obtain ⟨v', h11, h15, C', FN', s, f11, f15, l15, t15, r15, rold, rfl, hs, lb, ob, oh, nb, nh, lo, off15, hI, _, _⟩ := bCs s0 S4 (by omega) ok1 ok2
   obtain ⟨h22, f22, g22⟩ := s5 _ _ _ (i + 1) h15 r15 hI (by omega)
   obtain ⟨h24, f24, g24⟩ := s5 _ v T i h22 (rold.grown g22) S.inv (by omega)
   have G24 := g22.trans g24; obtain ⟨sv, ev, hsv, obv⟩ := S.box; have rest : ∀ (x37 : DV) (h38 : H), x37 = .bool false -> aJ h15 h38 -> (bK x37
 (some ((.bool false), h38))
 (vK (aK 2 h38.get (.ptr h4.size 0)) λ x40 =>
 wK (bU 2 (.ptr b 0) x40 h38) λ x41 h42 =>
 wK (aD E 24 [.ptr t 0] h42) λ x43 h44 =>
 vK (bR 6 w (ii i)) λ x45 =>
 vK (aF 3 x45) λ x46 =>
 vK (aG h44.get x46) λ x47 =>
 vK (bR 6 w (ii i)) λ x48 =>
 vK (aF 1 x48) λ x49 =>
 vK (aG h44.get x49) λ x50 =>
 vK (bR 6 w (ii i)) λ x51 =>
 vK (aF 2 x51) λ x52 =>
 vK (aG h44.get x52) λ x53 =>
 wK (aD E 33 [.ptr t 0, x47, x50, x53] h44) λ x54 h55 =>
 vK (bR 6 w (ii i)) λ x56 =>
 vK (aF 3 x56) λ x57 =>
 vK (aG h55.get x57) λ x58 =>
 wK (aD E 34 [.ptr t 0, x58] h55) λ x59 h60 =>
 vK (bR 6 w (ii i)) λ x61 =>
 vK (aF 3 x61) λ x62 =>
 vK (aG h60.get x62) λ x63 =>
 wK (aD E 35 [.ptr t 0, x63] h60) λ x64 h65 =>
 wK (aD E 24 [.ptr t 0] h65) λ x66 h67 =>
 vK (dD x66 x43) λ x68 =>
 bK x68
 (some ((.bool false), h67))
 (vK (bJ (ii i) (ii 1)) λ x69 =>
 aOy E w (.ptr t 0) (.ptr b 0) (m + (k + 1)) x69 h67)) : aU).map (·.1) = some (.bool true) := by
     intro x37 h38 hx g38; subst hx; obtain ⟨L, ob, hL⟩ := ob; obtain ⟨h42, f42, S42, off42⟩ := bIY (t15.grown g38) (r15.grown g38) hs (.inl rfl) ⟨L, ob.grown g38, hL⟩ nb lo S.lob hI; have r42 := aPI ((aPI r4 off15).grown g38) off42; obtain ⟨h44, f44, g44⟩ := s4 t _ C' FN' (i + 1) h42 S42.tree S42.inv (by omega)
     have S44 := S42.grown g44; have r44 := r42.grown g44; obtain ⟨rb', ro', p1, p2, p3, p4, p5, p6, p7, p8, p9⟩ := aLk r44 ho .i64; obtain ⟨h55, f55, g55⟩ := s1 t _ C' FN' (i + 1) o.path o.at_ o.n h44 S44.tree S44.inv (by omega) (by have := ok2.1; omega) ok1.2.1 ok1.2.2.1
     have S55 := S44.grown g55; have r55 := r44.grown g55; obtain ⟨rb2, ro2, u1, u2, u3, u4, u5, u6, u7, u8, u9⟩ := aLk r55 ho .i64; rw [p1] at u1; cases u1; obtain ⟨h60, f60, g60⟩ := s2 t _ C' FN' (i + 1) o.path h55 S55.tree S55.inv (by omega) (by have := ok2.1; omega)
     have S60 := S55.grown g60; have r60 := r55.grown g60; obtain ⟨rb3, ro3, y1, y2, y3, y4, y5, y6, y7, y8, y9⟩ := aLk r60 ho .i64; rw [p1] at y1; cases y1; obtain ⟨wl, h65, f65, _, g65⟩ := s3 t _ C' FN' (i + 1) o.path h60 S60.tree S60.inv (by omega) (by have := ok2.1; omega)
     have S65 := S60.grown g65; obtain ⟨h67, f67, g67⟩ := s4 t _ C' FN' (i + 1) h65 S65.tree S65.inv (by omega)
     have S67 := S65.grown g67; have r67 := (r60.grown g65).grown g67; rw [aC, (oh.grown g38).all (n := 2) rfl, aA, f42, aB, b4, f44, aB, p1, aA, p2, aA, p6, aA, aA, p2, aA, p4, aA, aA, p2, aA, p5, aA, b1, f55, aB]; rw [aA, u2, aA, u6, aA, b2, f60, aB]; rw [aA, y2, aA, y6, aA, b3, f65, aB, b4, f67, aB, iI, aA, show (aAl (opT T o).1 != aAl (opT T o).1) = false from by simp, aC, bW (by omega), aA]
     exact ih (i + 1) m h67 _ C' FN' _ (by omega) (by omega) r67 S67
   show (bAJ E w _ _ (aOy E w _ _ (m + (k + 1))) _ hh).map _ = _; unfold bAJ; rw [aAB r, aA, aP, aA, decide_eq_true hlt, aE, b4, f4, aB, S4.ld, aA, q1, aA, q9, aA, cB, b0, f11, aB, aZ, aA, aY, aA, f15, aB, fF, aA, Bool.not_true]; have lb22 : aK 2 h22.get (.ptr b 0) = some v := by
     obtain ⟨L, ob, hL⟩ := ob; have e1 := ob.all (n := 2) hL; rw [lb] at e1; rw [(ob.grown g22).all (n := 2) hL]; exact e1.symm
   simp only [eN, l15, lb, aA, b5, f22, aB, bSP, lb22, bBe rold, fY, f24, fR]; by_cases hq : aAl (opT T o).1 = aAl T
   · obtain ⟨h34, f34, g34⟩ := s4 t _ C' FN' (i + 1) h24 (t15.grown G24) hI (by omega)
     simp only [hq, beq_self_eq_true, iM, b4, f34, aB, iI, aA, cO]; rw [hq] at f34; simp only [f34, aB, iI, aA, bne_self_eq_false, cO, cP, aA]; have R := rest _ h34 rfl (G24.trans g34); simp only [q1, b4, aA] at R; exact R
   · have hq' : (aAl (opT T o).1 == aAl T) = false := by rw [beq_eq_false_iff_ne]; exact hq
     simp only [hq', yT, cP, aA]; have R := rest _ h24 rfl G24; simp only [q1, aA] at R; exact R
theorem aDl {E : bO} (K : aOx E) (Q : aPm E) {A : Nat -> Prop} {w : DV} {l : List OpP} {h0 : H} (r : RowE A 6 h0 w (xP l)) (hok : ∀ o ∈ l, o.ok) : (S9 E [w] h0).map (·.1) = some (.bool true) := by
 obtain ⟨B0, b0, s0⟩ := K.fw.call; have aw : ∀ m, aD E 28 [] m = some (.bool true, m) := λ m => by rw [cM K.aw]; rfl
 obtain ⟨e, fe, he⟩ := s0 A w l h0 r; show (bEI E w h0).map _ = _; unfold bEI; rw [b0, fe, aB, cG, aA]; by_cases e0 : e = 0
 · rw [decide_eq_true e0, aE, aw, aB]; rfl
 · obtain ⟨hl60, hsm⟩ := he e0; rw [decide_eq_false e0, aC]; obtain ⟨t, v, h7, h9, h13, C, FN, b, f7, f9, rfl, f13, S, g13⟩ := aVs K.P K.D h0; rw [f7, aB, f9, aB, cB, f13, aB]; have := aEi K Q (l := l) (w := w) (λ o ho => ⟨hok o ho, hsm o ho⟩) hl60 l.length 0 (aR - (l.length + 1)) h13 rH C FN v (by omega) (by omega) ((aDB r).grown g13) S
   rw [show aR - (l.length + 1) + (l.length + 1) = aR from by unfold aR; omega] at this
   exact this
def wA : cE := λ args h => match args with
 | [.str s, .int .i64 (.negSucc _), .str t] => some (.tup [.str [], .int .i64 (.ofNat 1)], h)
 | [.str s, .int .i64 (.ofNat a), .str t] => bif aBD s && aBD t then
     (bif Nat.blt 65536 s.length || (Nat.blt 65536 t.length || Nat.blt 65536 (a + t.length)) then some (.tup [.str [], .int .i64 (.ofNat 2)], h) else (xQ (xO s a t)).map λ v => (.tup [v, .int .i64 (.ofNat 0)], h)) else none
 | _ => none
theorem aHw {s t : Ln} {a : Nat} (hs : bF s = true) (ht : bF t = true) (h1 : s.length <= 65536) (h2 : a + t.length <= 65536) (h : H) : wA [.str s, .int .i64 (.ofNat a), .str t] h = some (.tup [.str (xO s a t), .int .i64 (.ofNat 0)], h) := by
 show (bif aBD s && aBD t then _ else none) = _; rw [wM, wM, hs, ht]; have : (Nat.blt 65536 s.length || (Nat.blt 65536 t.length || Nat.blt 65536 (a + t.length))) = false := by
   rw [Bool.or_eq_false_iff, Bool.or_eq_false_iff]; exact ⟨iY (by omega), iY (by omega), iY (by omega)⟩
 rw [this, hU]; rfl
theorem aMy {G : cE} (h1 : ∀ (s t : Ln) (a : Nat) (h : H), G [.str s, .int .i64 (.negSucc a), .str t] h = some (.tup [.str [], .int .i64 (.ofNat 1)], h))
   (h2 : ∀ (s t : Ln) (a : Nat) (h : H), (65536 < s.length \/ 65536 < t.length \/ 65536 < a + t.length) -> G [.str s, .int .i64 (.ofNat a), .str t] h = some (.tup [.str [], .int .i64 (.ofNat 2)], h))
   (h3 : ∀ (s t : Ln) (a : Nat) (h : H), bF s = true -> bF t = true -> s.length <= 65536 -> t.length <= 65536 -> a + t.length <= 65536 -> ∃ h', G [.str s, .int .i64 (.ofNat a), .str t] h = some (.tup [.str (xO s a t), .int .i64 (.ofNat 0)], h') /\ aJ h h')
   (args : List DV) (h : H) (v : DV) (h' : H) (e : wA args h = some (v, h')) : h' = h /\ oL v /\ ∃ h1, G args h = some (v, h1) /\ aJ h h1 := by
 unfold wA at e; split at e
 · cases e; exact ⟨rfl, oL.tup2 (oL.str _) (oL.int _ _), _, h1 _ _ _ _, aJ.refl _⟩
 · rename_i s a t; obtain ⟨hc, e⟩ := bG e; simp only [Bool.and_eq_true, wM] at hc; by_cases hb : 65536 < s.length \/ 65536 < t.length \/ 65536 < a + t.length
   · have : (Nat.blt 65536 s.length || (Nat.blt 65536 t.length || Nat.blt 65536 (a + t.length))) = true := by
       simp only [Bool.or_eq_true, Nat.blt_eq]; exact hb
     rw [this] at e; cases e; exact ⟨rfl, oL.tup2 (oL.str _) (oL.int _ _), _, h2 _ _ _ _ hb, aJ.refl _⟩
   · have : (Nat.blt 65536 s.length || (Nat.blt 65536 t.length || Nat.blt 65536 (a + t.length))) = false := by
       rw [Bool.or_eq_false_iff, Bool.or_eq_false_iff]; exact ⟨iY (by omega), iY (by omega), iY (by omega)⟩
     rw [this, hU] at e; cases e; obtain ⟨h', e1, e2⟩ := h3 s t a h hc.1 hc.2 (by omega) (by omega) (by omega)
     exact ⟨rfl, oL.tup2 (oL.str _) (oL.int _ _), h', e1, e2⟩
 · cases e
theorem aDp {t : Ln} (h : t.length <= 65536) : fA (ii 65536) (ii t.length) = some (ii (65536 - t.length)) := fO h (by omega)
theorem bIb {E : bO} : ∀ (args : List DV) (h : H) (v : DV) (h' : H), wA args h = some (v, h') -> h' = h /\ oL v /\ ∃ h1, aSW E args h = some (v, h1) /\ aJ h h1 := by
 refine aMy ?_ ?_ ?_
 · intro s t a h; show vX E (.str s) (.int .i64 (.negSucc a)) (.str t) h = _; unfold vX; rw [aBn _ (Int.negSucc_lt_zero a), aA, aE]
 · intro s t a h hb; show vX E (.str s) (.int .i64 (.ofNat a)) (.str t) h = _; unfold vX; have d0 : decide (a < 0) = false := by simp
   by_cases c1 : 65536 < s.length
   · simp only [aP, d0, aA, aC, bD, dI, decide_eq_true c1, iN, cO, aE]
   · by_cases c2 : 65536 < t.length
     · simp only [aP, d0, aA, aC, bD, dI, decide_eq_false c1, decide_eq_true c2, eN, iN, cO, cP, aE]
     · have c3 : 65536 - t.length < a := by omega
       simp only [aP, d0, aA, aC, bD, dI, decide_eq_false c1, decide_eq_false c2, decide_eq_true c3, eN, cP, aE, aDp (Nat.not_lt.1 c2)]
 · intro s t a h hs ht l1 l2 l3; show ∃ h', vX E (.str s) (.int .i64 (.ofNat a)) (.str t) h = _ /\ _; unfold vX; have d0 : decide (a < 0) = false := by simp
   have c1 : ¬ 65536 < s.length := by omega
   have c2 : ¬ 65536 < t.length := by omega
   have c3 : ¬ 65536 - t.length < a := by omega
   simp only [aP, d0, aA, aC, bD, dI, decide_eq_false c1, decide_eq_false c2, decide_eq_false c3, eN, cP, aDp l2, bW (show a + t.length < 9223372036854775808 by omega), aDL]
   have hm : max s.length (a + t.length) < 140737488355328 := by omega
   rw [aEx hm]; have hb := cU.made (h := h) (z := eM 0) hm; obtain ⟨h1, f1, f2, f3⟩ := hb.copy_str (s := s) (o := 0) (n := max s.length (a + t.length)) (c := max s.length (a + t.length)) (op := false) (by omega) (by simp; omega)
   show ∃ h', wK (lM 1 (.slc h.size 0 _ _ false) (.str s) _) _ = _ /\ _; rw [show (DV.int .u8 (.ofNat 0)) = eM 0 from rfl, f1, aB]
   have e2 : (List.replicate (max s.length (a + t.length)) (eM 0)).take 0 ++ bT s ++ (List.replicate (max s.length (a + t.length)) (eM 0)).drop (0 + s.length) = bT (fU s (max s.length (a + t.length))) := by
     unfold fU; rw [eB, aAY]; simp
   rw [e2] at f2; have hl : (fU s (max s.length (a + t.length))).length = max s.length (a + t.length) := kO (by omega)
   have e3 : bT (xO s a t) = (bT (fU s (max s.length (a + t.length)))).take a ++ bT t ++ (bT (fU s (max s.length (a + t.length)))).drop (a + t.length) := by
     unfold xO; rw [eB, eB, aMd, aMe]
   rw [aMX (show a <= max s.length (a + t.length) by omega)]
   have key : ∃ h2, lM 1 (if a < max s.length (a + t.length) then DV.slc h.size (0 + a) (max s.length (a + t.length) - a) (max s.length (a + t.length) - a) false else if false = true then .slE h.size 0 (0 + a) else .slc h.size 0 0 0 false) (.str t) h1 = some (.int .i64 (.ofNat t.length), h2) /\ cU h2 h.size (bT (xO s a t)) /\ But h.size h1 h2 := by
     rw [e3]; by_cases ha : a < max s.length (a + t.length)
     · rw [if_pos ha, Nat.zero_add]; exact f2.copy_str (by omega) (by rw [bQ, hl]; omega)
     · have ht0 : t = [] := List.eq_nil_of_length_eq_zero (by omega)
       subst ht0; rw [if_neg ha]; obtain ⟨h2, g1, g2, g3⟩ := f2.copy_str (s := []) (o := 0) (n := 0) (c := 0) (op := false) (by simp) (by simp)
       refine ⟨h2, g1, ?_, g3⟩
       simpa [bT] using g2
   obtain ⟨h2, g1, g2, g3⟩ := key; rw [aA, g1, aB]; have hpl := qM s t a; have := g2.text (aEp hs ht a) (max s.length (a + t.length)) false; rw [hpl] at this; rw [this, aA]; exact ⟨h2, rfl, But.grown (But.grown (aJ.push h _) (Nat.le_refl _) f3) (Nat.le_refl _) g3⟩
theorem bAV (p t q : Ln) (x y : Nat) : (p ++ (x :: q)).set p.length y = p ++ (y :: q) := by
 rw [List.set_append_right _ _ (Nat.le_refl _)]; simp
theorem aNz {E : bO} {n0 : Nat} (a : Nat) (t0 : Ln) (ht0 : a + t0.length <= 65536) (hok : bF t0 = true) : ∀ (t p P Q : Ln) (m : Nat) (v : DV) (h : H), t0 = p ++ t -> P.length = a + p.length -> t.length <= Q.length -> P.length + Q.length <= 1000000 -> cK n0 h v (bT (P ++ Q)) -> bF (P ++ Q) = true ->
   ∃ h', aCg E (.int .i64 (.ofNat a)) (.str t0) v (m + (t.length + 1)) (.int .i64 (.ofNat p.length)) h = some (.tup [.str (P ++ t ++ Q.drop t.length), .int .i64 (.ofNat 0)], h') /\ cI n0 h h' := by
 intro t
 induction t with
 | nil =>
   intro p P Q m v h e hp hq hpq ho hok2; have : p.length = t0.length := by rw [e]; simp
   show ∃ h', aFG E _ _ _ (aCg E _ _ _ m) _ h = _ /\ _; unfold aFG; rw [bD, aA, aP, aA, this, show decide (t0.length < t0.length) = false from by simp, aC]
   unfold aJv; rw [ho.text hok2, aA]; exact ⟨h, by simp, cI.refl _ _⟩
 | cons y t ih =>
   intro p P Q m v h e hp hq hpq ho hok2; cases Q with
   | nil => simp at hq
   | cons q Q =>
     have hlt : p.length < t0.length := by rw [e]; simp
     have hy : t0[p.length]? = some y := by rw [e]; simp
     show ∃ h', aFG E _ _ _ (aCg E _ _ _ (m + (t.length + 1))) _ h = _ /\ _; unfold aFG; have d1 : decide (p.length < t0.length) = true := by simp [hlt]
     have hset : P.length < (bT (P ++ q :: Q)).length := by rw [bQ]; simp
     obtain ⟨b, h1, g1, g2, g3, g4⟩ := ho.store1 (x := eM y) hset rfl .i64; rw [<- aOu, bAV P t0 Q q y] at g3; have hap : bJ (.int .i64 (.ofNat a)) (.int .i64 (.ofNat p.length)) = some (.int .i64 (.ofNat P.length)) := by rw [bW (by omega), hp]
     have hy256 : bF [y] = true := by
       rw [gH]; intro z hz; rw [gH] at hok; exact hok z (by rw [e]; simp at hz; subst hz; simp)
     simp only [bD, aA, aP, d1, aE, hap, oY hy, g1]; rw [show (DV.int .u8 (.ofNat y)) = eM y from rfl, g2, aB, fG (by omega), aA]
     have hok3 : bF (P ++ y :: Q) = true := by
       have h5 := yP hok2 P.length; rw [List.take_left] at h5; have h6 := yQ hok2 (P.length + 1); rw [show (P ++ q :: Q).drop (P.length + 1) = Q from by simp] at h6
       exact cW h5 (cW (s := [y]) hy256 h6)
     obtain ⟨h', k1, k2⟩ := ih (p ++ [y]) (P ++ [y]) Q m v h1 (by rw [e]; simp) (by simp [hp]; omega) (by simpa using hq) (by simp at hpq ⊢; omega) (by simpa using g3) (by simpa using hok3)
     rw [List.length_append] at k1; exact ⟨h', by simpa using k1, g4.trans k2⟩
theorem aSi {E : bO} {n0 : Nat} (a : Nat) (t0 : Ln) (ht0 : a + t0.length <= 65536) (hok : bF t0 = true) : ∀ (k m : Nat) (L : Ln) (v : DV) (h : H), (k = 0 -> a + t0.length <= L.length) -> (0 < k -> L.length + k = a + t0.length) -> L.length <= 65536 -> n0 <= h.size -> cK n0 h v (bT L) ->
   ∃ v' h', aCh E (ii a) (.str t0) (m + (k + 1)) v h = aFo E (ii a) (.str t0) v' h' /\ cK n0 h' v' (bT (L ++ List.replicate k 0)) /\ cI n0 h h' := by
 intro k
 induction k with
 | zero =>
   intro m L v h h0 _ hL hn ho; refine ⟨v, h, ?_, by simpa using ho, cI.refl _ _⟩
   show aFH E _ _ (aCh E _ _ m) _ h = _; unfold aFH; have d1 : decide (L.length < a + t0.length) = false := by simp; exact h0 rfl
   simp only [ho.len, bQ, bD, aA, bW (show a + t0.length < 9223372036854775808 by omega), aP, d1, aC]
 | succ k ih =>
   intro m L v h _ h1 hL hn ho; have hk := h1 (by omega)
   have d1 : decide (L.length < a + t0.length) = true := by simp; omega
   obtain ⟨v1, h1', g1, g2, g3⟩ := ho.push1 (x := eM 0) (z := eM 0) (bytes := 1) hn rfl (by rw [bQ]; unfold aQ; omega) (by rw [bQ]; unfold aQ; omega)
   have g2' : cK n0 h1' v1 (bT (L ++ [0])) := by rw [eB]; exact g2
   obtain ⟨v2, h2, k1, k2, k3⟩ := ih m (L ++ [0]) v1 h1' (by intro e; simp; omega) (by intro e; simp; omega) (by simp; omega) (Nat.le_trans hn g3.size) g2'
   refine ⟨v2, h2, ?_, ?_, g3.trans k3⟩
   · show aFH E _ _ (aCh E _ _ (m + (k + 1))) _ h = _; unfold aFH; simp only [ho.len, bQ, bD, aA, bW (show a + t0.length < 9223372036854775808 by omega), aP, d1, aE]
     rw [show (DV.int .u8 (.ofNat 0)) = eM 0 from rfl, g1]
     exact k1
   · rw [List.replicate_succ]; simpa using k2
theorem bAW {E : bO} : ∀ (args : List DV) (h : H) (v : DV) (h' : H), wA args h = some (v, h') -> h' = h /\ oL v /\ ∃ h1, aSX E args h = some (v, h1) /\ aJ h h1 := by
 refine aMy ?_ ?_ ?_
 · intro s t a h; show vY E (.str s) (.int .i64 (.negSucc a)) (.str t) h = _; unfold vY; rw [aBn _ (Int.negSucc_lt_zero a), aA, aE]
 · intro s t a h hb; show vY E (.str s) (.int .i64 (.ofNat a)) (.str t) h = _; unfold vY; have d0 : decide (a < 0) = false := by simp
   by_cases c1 : 65536 < s.length
   · simp only [aP, d0, aA, aC, bD, dI, decide_eq_true c1, iN, cO, aE]
   · by_cases c2 : 65536 < t.length
     · simp only [aP, d0, aA, aC, bD, dI, decide_eq_false c1, decide_eq_true c2, eN, iN, cO, cP, aE]
     · have c3 : 65536 - t.length < a := by omega
       simp only [aP, d0, aA, aC, bD, dI, decide_eq_false c1, decide_eq_false c2, decide_eq_true c3, eN, cP, aE, aDp (Nat.not_lt.1 c2)]
 · intro s t a h hs ht l1 l2 l3; show ∃ h', vY E (.str s) (.int .i64 (.ofNat a)) (.str t) h = _ /\ _; unfold vY; have d0 : decide (a < 0) = false := by simp
   have c1 : ¬ 65536 < s.length := by omega
   have c2 : ¬ 65536 < t.length := by omega
   have c3 : ¬ 65536 - t.length < a := by omega
   simp only [aP, d0, aA, aC, bD, dI, decide_eq_false c1, decide_eq_false c2, decide_eq_false c3, eN, cP, aDp l2]; obtain ⟨v1, h1, f1, f2, f3, _⟩ := cK.s2b (h := h) (Nat.le_refl h.size) s; rw [f1]
   let k := max s.length (a + t.length) - s.length
   obtain ⟨v2, h2, g1, g2, g3⟩ := aSi (E := E) (n0 := h.size) a t l3 ht k (aR - (k + 1)) s v1 h1 (by intro e; omega) (by intro e; omega) l1 f3.size f2
   rw [show aR - (k + 1) + (k + 1) = aR from by unfold aR; omega] at g1
   rw [g1]; unfold aFo; have hz : s ++ List.replicate k 0 = fU s (max s.length (a + t.length)) := rfl; rw [hz] at g2; have hzl : (fU s (max s.length (a + t.length))).length = max s.length (a + t.length) := kO (by omega)
   have hsplit := List.take_append_drop a (fU s (max s.length (a + t.length))); rw [<- hsplit] at g2; obtain ⟨h3, k1, k2⟩ := aNz (E := E) (n0 := h.size) a t l3 ht t [] ((fU s (max s.length (a + t.length))).take a) ((fU s (max s.length (a + t.length))).drop a) (aR - (t.length + 1)) v2 h2 rfl (by rw [List.length_take, hzl]; simp; omega) (by rw [List.length_drop, hzl]; omega) (by rw [List.length_take, List.length_drop, hzl]; omega) g2 (by rw [hsplit]; exact uV hs _)
   rw [show aR - (t.length + 1) + (t.length + 1) = aR from by unfold aR; omega, List.drop_drop] at k1
   refine ⟨h3, k1, ?_⟩; exact cI.grown (f3.trans (g3.trans k2))
def mM : cE := λ args h => match args with
 | [.int .i64 (.ofNat n)] => bif Nat.blt n 1000000 then (xQ (List.replicate n 0)).map λ v => (v, h) else none
 | _ => none
theorem aDc {n : Nat} (hn : n < 1000000) (h : H) : mM [.int .i64 (.ofNat n)] h = some (.str (List.replicate n 0), h) := by
 show (bif Nat.blt n 1000000 then (xQ (List.replicate n 0)).map λ v => (v, h) else none) = _
 rw [dQ hn, hU]; rfl
theorem aFt {G : cE} (h3 : ∀ (n : Nat) (h : H), n < 1000000 -> ∃ h', G [.int .i64 (.ofNat n)] h = some (.str (List.replicate n 0), h') /\ aJ h h')
   (args : List DV) (h : H) (v : DV) (h' : H) (e : mM args h = some (v, h')) : h' = h /\ oL v /\ ∃ h1, G args h = some (v, h1) /\ aJ h h1 := by
 unfold mM at e; split at e
 · rename_i n; obtain ⟨hc, e⟩ := bG e; rw [Nat.blt_eq] at hc; rw [hU] at e; cases e; obtain ⟨h', e1, e2⟩ := h3 n h hc; exact ⟨rfl, oL.str _, h', e1, e2⟩
 · cases e
theorem aTn {E : bO} (hE : E 167 = some sG) : ∀ (args : List DV) (h : H) (v : DV) (h' : H), mM args h = some (v, h') -> h' = h /\ oL v /\ ∃ h1, aSV E args h = some (v, h1) /\ aJ h h1 := by
 refine aFt λ n h hn => ⟨h, ?_, aJ.refl _⟩
 show aJo E (.int .i64 (.ofNat n)) h = _; unfold aJo; rw [cM hE, aJZ n (by omega), aB]
theorem aSd {E : bO} : ∀ (args : List DV) (h : H) (v : DV) (h' : H), mM args h = some (v, h') -> h' = h /\ oL v /\ ∃ h1, aSY E args h = some (v, h1) /\ aJ h h1 := by
 refine aFt λ n h hn => ?_
 show ∃ h', aJC E (.int .i64 (.ofNat n)) h = _ /\ _; unfold aJC; rw [aEx (show n < 140737488355328 by omega)]
 have hb := cU.made (h := h) (z := eM 0) (n := n) (by omega)
 rw [<- aAY] at hb; have := hb.text (aCE n) n false; rw [List.length_replicate] at this; rw [show (DV.int .u8 (.ofNat 0)) = eM 0 from rfl, this, aA]
 exact ⟨_, rfl, aJ.push h _⟩
def aHx : cE := λ args h => match args with
 | [.str s, .int .i64 (.negSucc _)] => some (.tup [.str [], .int .i64 (.ofNat 1)], h)
 | [.str s, .int .i64 (.ofNat n)] => bif Nat.blt 65536 n then some (.tup [.str [], .int .i64 (.ofNat 1)], h) else bif Nat.blt n s.length then some (.tup [.str [], .int .i64 (.ofNat 2)], h) else (xQ (fU s n)).map λ v => (.tup [v, .int .i64 (.ofNat 0)], h)
 | _ => none
theorem aTf {s : Ln} {n : Nat} (h1 : n <= 65536) (h2 : s.length <= n) (h : H) : aHx [.str s, .int .i64 (.ofNat n)] h = some (.tup [.str (fU s n), .int .i64 (.ofNat 0)], h) := by
 show (bif Nat.blt 65536 n then _ else bif Nat.blt n s.length then _ else _) = _; rw [show Nat.blt 65536 n = false from iY (by omega), show Nat.blt n s.length = false from iY (by omega), hU]; rfl
theorem bIc {E : bO} (hE : E 148 = some mM) (args : List DV) (h : H) (r : DV × H) (e : aHx args h = some r) : aSZ E args h = some r := by
 unfold aHx at e; split at e
 · rename_i s a; rw [<- e]; show aCp E (.str s) (.int .i64 (.negSucc a)) h = _; unfold aCp; simp only [aBn _ (Int.negSucc_lt_zero a), aA, iN, cO, aE]
 · rename_i s n; show aCp E (.str s) (.int .i64 (.ofNat n)) h = _; unfold aCp; have d0 : decide (n < 0) = false := by simp
   simp only [aP, d0, aA, eN, dI, cP, bD]; by_cases c1 : 65536 < n
   · rw [dQ c1, cond_true] at e; rw [decide_eq_true c1, aE, <- e]
   · rw [show Nat.blt 65536 n = false from iY (by omega), cond_false] at e
     rw [decide_eq_false c1, aC]; by_cases c2 : n < s.length
     · rw [dQ c2, cond_true] at e; rw [decide_eq_true c2, aE, <- e]
     · rw [show Nat.blt n s.length = false from iY (by omega), cond_false, hU] at e
       rw [decide_eq_false c2, aC, fO (by omega) (by omega), aA, cM hE, aDc (by omega), aB, gF (by simp; unfold gQ; omega), aA, <- e]; rfl
 · cases e
def aOv : bO := nN 167 sG aAE
def aEW : bO := nN 148 mM (nN 131 mM aOv)
def LI : bO := SE aEW table aR
def aIM : bO := nN 147 (sH LI) (nN 101 aHx (nN 140 wA (nN 139 wA aEW)))
def bFI : bO := nN 28 aFu aIM
def LT (m : Nat) : bO := SE bFI table m
theorem bJe (m : Nat) : cD (LT (m + 1)) 140 aDC := ⟨wA, by kernel_rfl, λ s t a h h1 h2 h3 h4 => aHw h1 h2 h3 h4 h⟩
theorem bIa (m : Nat) : cD (LT (m + 1)) 139 aDC := ⟨wA, by kernel_rfl, λ s t a h h1 h2 h3 h4 => aHw h1 h2 h3 h4 h⟩
theorem bJf (m : Nat) : cD (LT (m + 1)) 101 aQE := ⟨aHx, by kernel_rfl, λ s n h h1 h2 => aTf h1 h2 h⟩
theorem aTK (m : Nat) : cD (LT (m + 1)) 131 aHn := ⟨mM, by kernel_rfl, λ n h h1 => aDc h1 h⟩
theorem bIZ (m : Nat) : cD (LT (m + 1)) 147 aDG := ⟨sH LI, by kernel_rfl, aLy LI⟩
theorem aCV (m : Nat) : cD (LT (m + 1)) 97 aDF := ⟨S97 (LT (m + 0)), by kernel_rfl, aSK  ⟩
theorem aCF (m : Nat) : cD (LT (m + 1)) 48 sD := ⟨S48 (LT (m + 0)), by kernel_rfl, aSv  ⟩
theorem aEs (m : Nat) : cD (LT (m + 1)) 106 aDE := ⟨aWr (LT (m + 0)), by kernel_rfl, aUp  ⟩
theorem aCs (m : Nat) : cD (LT (m + 4)) 50 oA := ⟨S50 (LT (m + 3)), by kernel_rfl, aRI (F := LT (m + 2)) (G := LT (m + 1)) (by kernel_rfl) (by kernel_rfl) (aEs m)⟩
theorem aNa (m : Nat) : cD (LT (m + 2)) 108 aIN := ⟨aWq (LT (m + 1)), by kernel_rfl, aTw  (aEs m)⟩
theorem aAd (m : Nat) : cD (LT (m + 5)) 51 nC := ⟨S51 (LT (m + 4)), by kernel_rfl, aMR (F := LT (m + 3)) (G := LT (m + 2)) (by kernel_rfl) (by kernel_rfl) (aNa m)⟩
theorem aAe (m : Nat) : cD (LT (m + 1)) 52 nD := ⟨S52 (LT (m + 0)), by kernel_rfl, aMU  ⟩
theorem aIB (m : Nat) : cD (LT (m + 6)) 220 aCq := ⟨aVD (LT (m + 5)), by kernel_rfl, aOm  (aCF (m + 4)) (aCs (m + 1)) (aAd m) (aAe (m + 4))⟩
theorem aHA (m : Nat) : cD (LT (m + 3)) 49 rT := ⟨S49 (LT (m + 2)), by kernel_rfl, aMV (F := LT (m + 1)) (G := LT (m + 0)) (by kernel_rfl) (by kernel_rfl)⟩
theorem aPY (m : Nat) : aFf (LT (m + 2)) where
 k1 f h := by rw [cM (show LT (m + 2) 221 = some (bCH (LT (m + 1))) by kernel_rfl)]; rfl
 k2 d h := by rw [cM (show LT (m + 2) 217 = some (aVG (LT (m + 1))) by kernel_rfl)]; exact aOd d h
 s1 f l s h o := by rw [cM (show LT (m + 2) 222 = some (aVC (LT (m + 1))) by kernel_rfl)]; exact aOf f l s h o
 s2 d l h r := by
   obtain ⟨B, b, s⟩ := (aCV m).call; rw [cM (show LT (m + 2) 218 = some (aVF (LT (m + 1))) by kernel_rfl)]; exact aOc b s d l h r
theorem bBL (m : Nat) : aMm (LT (m + 7)) where
 t1 f l s h o := by rw [cM (show LT (m + 7) 223 = some (aVB (LT (m + 6))) by kernel_rfl)]; exact aOe f l s h o
 t2 d l h r hl hok := by
   obtain ⟨B, b, s⟩ := (aIB m).call; rw [cM (show LT (m + 7) 219 = some (aVE (LT (m + 6))) by kernel_rfl)]; exact aOb b s d l h r hl hok
theorem sU (m : Nat) : cD (LT (m + 1)) 170 jL := ⟨aVK (LT (m + 0)), by kernel_rfl, aNA  ⟩
theorem nG (m : Nat) : cD (LT (m + 2)) 154 iO := ⟨aVR (LT (m + 1)), by kernel_rfl, aKT  (sU m)⟩
theorem aAw (m : Nat) : cD (LT (m + 2)) 156 vW := ⟨aVP (LT (m + 1)), by kernel_rfl, aNF  (sU m)⟩
theorem aEg (m : Nat) : cD (LT (m + 3)) 150 zN := ⟨aVV (LT (m + 2)), by kernel_rfl, aIa  (nG m) (aAw m)⟩
theorem sV (m : Nat) : cD (LT (m + 1)) 169 sA := ⟨aVL (LT (m + 0)), by kernel_rfl, aNH  ⟩
theorem aAv (m : Nat) : cD (LT (m + 2)) 151 rZ := ⟨aVU (LT (m + 1)), by kernel_rfl, aND  (sV m)⟩
theorem yK (m : Nat) : cD (LT (m + 1)) 122 tQ := ⟨aWn (LT (m + 0)), by kernel_rfl, aTZ  ⟩
theorem kM (m : Nat) : cD (LT (m + 3)) 124 lV := ⟨aWl (LT (m + 2)), by kernel_rfl, aNr  (nG m) (aAv m) (yK (m + 1))⟩
theorem nS (m : Nat) : cD (LT (m + 4)) 120 pZ := ⟨aWp (LT (m + 3)), by kernel_rfl, aSj  (aEg m) (kM m)⟩
theorem qX (m : Nat) : cD (LT (m + 3)) 121 pY := ⟨aWo (LT (m + 2)), by kernel_rfl, aKS  (aAv m)⟩
theorem aLe (m : Nat) : cD (LT (m + 2)) 152 aFd := ⟨aVT (LT (m + 1)), by kernel_rfl, aSp  (sU m) (sV m)⟩
theorem sS (m : Nat) : cD (LT (m + 1)) 153 rW := ⟨aVS (LT (m + 0)), by kernel_rfl, aNq  ⟩
theorem uO (m : Nat) : cD (LT (m + 3)) 123 vR := ⟨aWm (LT (m + 2)), by kernel_rfl, aSh  (aLe m) (sS (m + 1))⟩
theorem aNB (m : Nat) : cD (LT (m + 5)) 66 aBX := ⟨S66 (LT (m + 4)), by kernel_rfl, aTQ  (nS m) (qX (m + 1)) (yK (m + 3)) (uO (m + 1))⟩
theorem aKU (m : Nat) : cD (LT (m + 2)) 155 aFc := ⟨aVQ (LT (m + 1)), by kernel_rfl, aSg  (sV m)⟩
theorem sT (m : Nat) : cD (LT (m + 3)) 125 rY := ⟨aWk (LT (m + 2)), by kernel_rfl, aNw  (aKU m) (sS (m + 1))⟩
theorem xX (m : Nat) : cD (LT (m + 1)) 126 tO := ⟨aWj (LT (m + 0)), by kernel_rfl, aKV  ⟩
theorem aAx (m : Nat) : cD (LT (m + 2)) 127 xJ := ⟨aWi (LT (m + 1)), by kernel_rfl, aNG  (yK m)⟩
theorem aNt (m : Nat) : cD (LT (m + 5)) 67 (xI kJ) := ⟨S67 (LT (m + 4)), by kernel_rfl, aTN  (kM (m + 1)) (nS m) (sT (m + 1)) (xX (m + 3)) (aAx (m + 2))⟩
theorem aNy (m : Nat) : cD (LT (m + 5)) 68 (xI mV) := ⟨S68 (LT (m + 4)), by kernel_rfl, aTP  (kM (m + 1)) (nS m) (sT (m + 1)) (aAx (m + 2))⟩
theorem aNE (m : Nat) : cD (LT (m + 5)) 70 (rX rP) := ⟨S70 (LT (m + 4)), by kernel_rfl, aTS  (kM (m + 1)) (nS m) (qX (m + 1)) (xX (m + 3)) (uO (m + 1))⟩
theorem aEb (m : Nat) : cD (LT (m + 3)) 128 nB := ⟨aWh (LT (m + 2)), by kernel_rfl, aHU  (nG m)⟩
theorem aGl (m : Nat) : cD (LT (m + 3)) 129 aCr := ⟨aWg (LT (m + 2)), by kernel_rfl, aLc  (nG m) (aAw m)⟩
theorem aNx (m : Nat) : cD (LT (m + 5)) 69 (rX kN) := ⟨S69 (LT (m + 4)), by kernel_rfl, aTO  (kM (m + 1)) (nS m) (qX (m + 1)) (sT (m + 1)) (uO (m + 1)) (aEb (m + 1)) (aGl (m + 1))⟩
theorem aKQ (m : Nat) : cD (LT (m + 1)) 32 aFb := ⟨S32 (LT (m + 0)), by kernel_rfl, aSf  ⟩
theorem aAz (m : Nat) : cD (LT (m + 4)) 130 xL := ⟨aWf (LT (m + 3)), by kernel_rfl, aNJ  (kM m)⟩
theorem aAy (m : Nat) : cD (LT (m + 2)) 132 xK := ⟨aWe (LT (m + 1)), by kernel_rfl, aNI  (aKQ m) (sS m)⟩
theorem aGd (m : Nat) : cD (LT (m + 3)) 90 zI := ⟨S90 (LT (m + 2)), by kernel_rfl, aKO  (bIa (m + 1)) (aAy m)⟩
theorem aGm (m : Nat) : cD (LT (m + 5)) 71 zJ := ⟨S71 (LT (m + 4)), by kernel_rfl, aLf  (aAz m) (aGd (m + 1))⟩
theorem aGn (m : Nat) : cD (LT (m + 5)) 72 zK := ⟨S72 (LT (m + 4)), by kernel_rfl, aLg  (aAz m) (aTK (m + 3)) (aAy (m + 2))⟩
theorem uP (m : Nat) : cD (LT (m + 1)) 53 qA := ⟨S53 (LT (m + 0)), by kernel_rfl, aSm  ⟩
theorem aAu (m : Nat) : cD (LT (m + 2)) 54 pC := ⟨S54 (LT (m + 1)), by kernel_rfl, aNv  (uP m)⟩
theorem aDe (m : Nat) : cD (LT (m + 3)) 77 tP := ⟨S77 (LT (m + 2)), by kernel_rfl, aGj  (uP (m + 1)) (aAu m)⟩
theorem aHY (m : Nat) : cD (LT (m + 4)) 25 rF := ⟨S25 (LT (m + 3)), by kernel_rfl, aNu  (uP (m + 2)) (aAu (m + 1)) (aDe m)⟩
theorem aCU (m : Nat) : cD (LT (m + 1)) 65 aBf := ⟨S65 (LT (m + 0)), by kernel_rfl, aSJ  ⟩
theorem aGa (m : Nat) : cD (LT (m + 5)) 161 zH := ⟨aVO (LT (m + 4)), by kernel_rfl, aKF (F := LT (m + 3)) (G := LT (m + 2)) (K := LT (m + 1)) (M := LT (m + 0)) (by kernel_rfl) (by kernel_rfl) (by kernel_rfl) (by kernel_rfl) (by kernel_rfl)⟩
theorem aAR (m : Nat) : cD (LT (m + 3)) 146 jL := ⟨aVW (LT (m + 2)), by kernel_rfl, aOo (F := LT (m + 1)) (G := LT (m + 0)) (by kernel_rfl) (by kernel_rfl)⟩
theorem qY (m : Nat) : cD (LT (m + 6)) 137 iO := ⟨aWd (LT (m + 5)), by kernel_rfl, aLh  (aGa m) (aAR (m + 2))⟩
theorem qF (m : Nat) : cD (LT (m + 1)) 87 pX := ⟨S87 (LT (m + 0)), by kernel_rfl, aRW  ⟩
theorem aGb (m : Nat) : cD (LT (m + 2)) 162 zE := ⟨aVN (LT (m + 1)), by kernel_rfl, aKN (F := LT (m + 0)) (by kernel_rfl)⟩
theorem tK (m : Nat) : cD (LT (m + 3)) 142 vZ := ⟨aWa (LT (m + 2)), by kernel_rfl, aOr  (aGb m)⟩
theorem aAS (m : Nat) : cD (LT (m + 4)) 145 vT := ⟨aVX (LT (m + 3)), by kernel_rfl, aOp  (tK m)⟩
theorem aAj (m : Nat) : cD (LT (m + 5)) 138 xG := ⟨aWc (LT (m + 4)), by kernel_rfl, aNb  (qF (m + 3)) (aAS m)⟩
theorem nR (m : Nat) : cD (LT (m + 7)) 95 oC := ⟨S95 (LT (m + 6)), by kernel_rfl, aRU  (qY m) (aAj (m + 1)) (qF (m + 5))⟩
theorem qV (m : Nat) : cD (LT (m + 5)) 99 pW := ⟨S99 (LT (m + 4)), by kernel_rfl, aKu  (aAS m)⟩
theorem aHL (m : Nat) : cD (LT (m + 1)) 141 aBV := ⟨aWb (LT (m + 0)), by kernel_rfl, aNi  ⟩
theorem vF (m : Nat) : cD (LT (m + 4)) 100 sJ := ⟨aWt (LT (m + 3)), by kernel_rfl, aSM  (aAR m) (tK m) (bIZ (m + 2))⟩
theorem aCv (m : Nat) : cD (LT (m + 8)) 94 aBb := ⟨S94 (LT (m + 7)), by kernel_rfl, aRX  (nR m) (qV (m + 2)) (aHL (m + 6)) (vF (m + 3))⟩
theorem aFX (m : Nat) : cD (LT (m + 9)) 40 (jK (λ T p => mkT T p 2)) := ⟨S40 (LT (m + 8)), by kernel_rfl, aKy  (aCU (m + 7)) (aCv m)⟩
theorem aDU (m : Nat) : cD (LT (m + 9)) 41 (jK (λ T p => mkT T p 1)) := ⟨S41 (LT (m + 8)), by kernel_rfl, aHN  (aCv m)⟩
theorem iV (m : Nat) : cD (LT (m + 7)) 85 kS := ⟨S85 (LT (m + 6)), by kernel_rfl, aNg  (qY m) (aAj (m + 1))⟩
theorem oP (m : Nat) : cD (LT (m + 1)) 86 pB := ⟨S86 (LT (m + 0)), by kernel_rfl, aNk  ⟩
theorem aLO (m : Nat) : cD (LT (m + 1)) 143 aFw := ⟨aVZ (LT (m + 0)), by kernel_rfl, aSL  ⟩
theorem vD (m : Nat) : cD (LT (m + 4)) 96 sI := ⟨S96 (LT (m + 3)), by kernel_rfl, aSI  (tK m) (aLO (m + 2))⟩
theorem aDP (m : Nat) : cD (LT (m + 8)) 42 (jK kJ) := ⟨S42 (LT (m + 7)), by kernel_rfl, aHF  (iV m) (oP (m + 6)) (nR m) (vD (m + 3))⟩
theorem aFV (m : Nat) : cD (LT (m + 8)) 43 (jK mV) := ⟨S43 (LT (m + 7)), by kernel_rfl, aKv  (iV m) (qF (m + 6)) (aCV (m + 6)) (nR m) (vD (m + 3))⟩
theorem aHK (m : Nat) : cD (LT (m + 8)) 45 (rU rP) := ⟨S45 (LT (m + 7)), by kernel_rfl, aNh  (iV m) (nR m) (oP (m + 6)) (qV (m + 2)) (vF (m + 3))⟩
theorem aGt (m : Nat) : cD (LT (m + 1)) 144 aPk := ⟨aVY (LT (m + 0)), by kernel_rfl, aLI  ⟩
theorem aEk (m : Nat) : cD (LT (m + 7)) 98 nB := ⟨S98 (LT (m + 6)), by kernel_rfl, aIi  (qY m) (aGt (m + 5))⟩
theorem aDQ (m : Nat) : cD (LT (m + 8)) 44 (rU kN) := ⟨S44 (LT (m + 7)), by kernel_rfl, aHH  (iV m) (nR m) (aEk m) (qV (m + 2)) (vD (m + 3)) (vF (m + 3))⟩
theorem sM (m : Nat) : cD (LT (m + 8)) 83 rV := ⟨S83 (LT (m + 7)), by kernel_rfl, aNf  (iV m) (oP (m + 6))⟩
theorem aAn (m : Nat) : cD (LT (m + 1)) 102 xH := ⟨aWs (LT (m + 0)), by kernel_rfl, aNj  ⟩
theorem aFU (m : Nat) : cD (LT (m + 2)) 92 zA := ⟨S92 (LT (m + 1)), by kernel_rfl, aKt  (bJe m) (aAn m)⟩
theorem aFY (m : Nat) : cD (LT (m + 9)) 46 zB := ⟨S46 (LT (m + 8)), by kernel_rfl, aKB  (sM m) (aFU (m + 6))⟩
theorem aFZ (m : Nat) : cD (LT (m + 9)) 47 zC := ⟨S47 (LT (m + 8)), by kernel_rfl, aKC  (sM m) (bJf (m + 7)) (aAn (m + 7))⟩
theorem aHJ (m : Nat) : cD (LT (m + 1)) 84 aBR := ⟨S84 (LT (m + 0)), by kernel_rfl, aNe  ⟩
theorem aHP (m : Nat) : cD (LT (m + 9)) 33 aBT := ⟨S33 (LT (m + 8)), by kernel_rfl, aNm  (sM m) (aHJ (m + 7))⟩
theorem aIF (m : Nat) : cD (LT (m + 1)) 88 aFg := ⟨S88 (LT (m + 0)), by kernel_rfl, aOq  ⟩
theorem aHQ (m : Nat) : cD (LT (m + 8)) 35 aBU := ⟨S35 (LT (m + 7)), by kernel_rfl, aNn  (iV m) (qF (m + 6)) (aIF (m + 6))⟩
theorem aHO (m : Nat) : cD (LT (m + 8)) 34 aBS := ⟨S34 (LT (m + 7)), by kernel_rfl, aNl  (iV m) (oP (m + 6)) (aPY (m + 5))⟩
theorem aDR (m : Nat) : cD (LT (m + 10)) 24 vQ := ⟨S24 (LT (m + 9)), by kernel_rfl, aHI (F := LT (m + 8)) (G := LT (m + 7)) (by kernel_rfl) (by kernel_rfl) (by kernel_rfl) (aCF (m + 7)) (aAe (m + 7)) (aCs (m + 3)) (aHA (m + 4)) (aAd (m + 2)) (aPY (m + 5)) (bBL m)⟩
theorem aKx (m : Nat) : cD (LT (m + 2)) 21 aFa := ⟨S21 (LT (m + 1)), by kernel_rfl, aRV  (aCU m)⟩
theorem aOg (m : Nat) : cD (LT (m + 1)) 20 aJY := ⟨S20 (LT (m + 0)), by kernel_rfl, aUO  ⟩
theorem aUa (m : Nat) : aDD (LT (m + 10)) where
 nw := aKx (m + 8)
 md := aFX (m + 1)
 cr := aDU (m + 1)
 un := aDP (m + 2)
 rm := aFV (m + 2)
 rn := aDQ (m + 2)
 ln := aHK (m + 2)
 wr := aFY (m + 1)
 tr := aFZ (m + 1)
 tx := aDR (m + 0)
theorem bFH (m : Nat) : aKb (LT (m + 10)) where
 nw := ⟨S22 (LT (m + 9)), by kernel_rfl, λ A h hA => aSk A h hA⟩
 md := aNB (m + 5)
 un := aNt (m + 5)
 rm := aNy (m + 5)
 rn := aNx (m + 5)
 ln := aNE (m + 5)
 wr := aGm (m + 5)
 tr := aGn (m + 5)
 tx := aHY (m + 6)
theorem bTy (m : Nat) : aPm (LT (m + 10)) where
 rd := aHP (m + 1)
 st := aHO (m + 2)
 li := aHQ (m + 2)
theorem bSy (m : Nat) : aOx (LT (m + 11)) where
 dd := ⟨S29 (LT (m + 10)), by kernel_rfl, bCr (aUa m) (bFH m)⟩
 fw := aOg (m + 10)
 P := aUa (m + 1)
 D := bFH (m + 1)
 aw := by kernel_rfl
def opD (l : List DV) : OpP := match l with
 | [.int _ a, .int _ b, .int _ c, .str p, .str q, .str t] => ⟨a, b, c, p, q, t⟩
 | _ => op0
theorem bIi : ∀ {l : List DV}, aEZ [.i, .i, .i, .s, .s, .s] l -> opV (opD l) = l /\ (opD l).ok
 | [a, b, c, d, e, f], h => by
   obtain ⟨⟨x1, rfl, y1⟩, ⟨x2, rfl, y2⟩, ⟨x3, rfl, y3⟩, ⟨s1, rfl, z1⟩, ⟨s2, rfl, z2⟩, ⟨s3, rfl, z3⟩, _⟩ := h; exact ⟨rfl, y1, y2, y3, z1, z2, z3⟩
 | [], h => h.elim
 | [_], h => h.2.elim
 | [_, _], h => h.2.2.elim
 | [_, _, _], h => h.2.2.2.elim
 | [_, _, _, _], h => h.2.2.2.2.elim
 | [_, _, _, _, _], h => h.2.2.2.2.2.elim
 | _ :: _ :: _ :: _ :: _ :: _ :: _ :: _, h => h.2.2.2.2.2.2.elim
theorem aUf : ∀ {L : List (List DV)}, (∀ l ∈ L, aEZ [.i, .i, .i, .s, .s, .s] l) -> L.flatten = xP (L.map opD) /\ ∀ o ∈ L.map opD, o.ok
 | [], _ => ⟨rfl, λ o ho => by cases ho⟩
 | l :: L, h => by
   obtain ⟨a, b⟩ := bIi (h l (by simp))
   obtain ⟨c, d⟩ := aUf (L := L) λ x hx => h x (by simp [hx])
   refine ⟨?_, λ o ho => ?_⟩
   · show l ++ L.flatten = opV (opD l) ++ xP (L.map opD); rw [a, c]
   · rcases List.mem_cons.1 ho with rfl | ho
     · exact b
     · exact d o ho
theorem aMj : (S28 (SE aIM table 60) [] H0).map (λ x => x.1) = some (.bool true) := by kernel_rfl
theorem aMx : fX Tryz.prog 167 sG := aIf λ s c w h1 h2 => Tryz.strings_Repeat s c w h1 h2
theorem aHm : kX Tryz.prog aOv := kH (by kernel_rfl) aMx tG
theorem aPj : fX Tryz.prog 148 mM := fX.forget ((tab.ok 148 aSV rfl).2 aOv aHm) (aTn rfl)
theorem aMw : fX Tryz.prog 131 mM := fX.forget ((tab.ok 131 aSY rfl).2 aAE tG) aSd
theorem aBQ : kX Tryz.prog aEW := kH (tab.ok 148 aSV rfl).1 aPj (kH (tab.ok 131 aSY rfl).1 aMw aHm)
theorem bFJ : kX Tryz.prog LI := aQD aBQ tab aR
theorem aXz : fX Tryz.prog 140 wA := fX.forget ((tab.ok 140 aSW rfl).2 aAE tG) bIb
theorem aTe : fX Tryz.prog 139 wA := fX.forget ((tab.ok 139 aSX rfl).2 aAE tG) bAW
theorem aXA : fX Tryz.prog 101 aHx := fX.mono ((tab.ok 101 aSZ rfl).2 aEW aBQ) (bIc (E := aEW) (by kernel_rfl))
theorem aMz : fX Tryz.prog 147 (sH LI) := fX.or (aSB ((tab.ok 147 aIP rfl).2 LI bFJ) (by omega) λ b n c i vb vo vc vop pl h L N V t => aGr b n c i vb vo vc vop pl h L N V t) ((tab.ok 147 aIP rfl).2 LI bFJ)
theorem aHl : kX Tryz.prog aIM := kH (tab.ok 147 aIP rfl).1 aMz (kH (tab.ok 101 aSZ rfl).1 aXA (kH (tab.ok 140 aSW rfl).1 aXz (kH (tab.ok 139 aSX rfl).1 aTe aBQ)))
theorem aKa : fX Tryz.prog 28 aFu := aNd (B := aIM) (n := 60) aHl tab (show Tr.at_ table 28 = some S28 by kernel_rfl) aMj
theorem aVt : kX Tryz.prog bFI := kH (tab.ok 28 S28 rfl).1 aKa aHl
end Go.Proofs.YtmafhiogonejfaaGreatDoor
end
