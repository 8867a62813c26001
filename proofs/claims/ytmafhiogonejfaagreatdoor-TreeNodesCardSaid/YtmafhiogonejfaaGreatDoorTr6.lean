/- Both trees side by side; the laws' runs. No condition. -/
import Derived.Test.YtmafhiogonejfaaGreatDoorTr5
import Derived.KernelRfl
set_option linter.unusedVariables false
set_option linter.unusedSimpArgs false
noncomputable section
namespace Go.Proofs.YtmafhiogonejfaaGreatDoor
open Go.DI
def zc : Nat -> List DV
 | 0 => [ii 0, ii 0]
 | n + 1 => ii 0 :: .nili :: zc n
theorem aGT : ∀ n, (zc n).length = n * 2 + 2
 | 0 => rfl
 | n + 1 => by simp only [zc, List.length_cons, aGT n]; omega
theorem aDz : ∀ {n i : Nat}, i <= n -> (zc n)[i * 2]? = some (ii 0)
 | 0, i, h => by
   have : i = 0 := by omega
   subst this; rfl
 | n + 1, 0, h => rfl
 | n + 1, i + 1, h => by
   rw [show (i + 1) * 2 = i * 2 + 1 + 1 from by omega]
   show (zc n)[i * 2]? = _; exact aDz (by omega)
theorem aTU : ∀ {n i : Nat}, i < n -> (zc n)[i * 2 + 1]? = some .nili
 | n + 1, 0, h => rfl
 | n + 1, i + 1, h => by
   rw [show (i + 1) * 2 + 1 = i * 2 + 1 + 1 + 1 from by omega]
   show (zc n)[i * 2 + 1]? = _; exact aTU (by omega)
theorem aPN : ∀ n, (zc n)[n * 2 + 1]? = some (ii 0)
 | 0 => rfl
 | n + 1 => by
   rw [show (n + 1) * 2 + 1 = n * 2 + 1 + 1 + 1 from by omega]
   exact aPN n
def aFr (B : cE) : Prop := ∀ h : H, ∃ t h' C FN, B [] h = some (.ptr t 0, h') /\ cP h' t rN C FN /\ aH h h' /\ ∀ c, Fp t FN c -> h.size <= c
set_option maxRecDepth 100000 in
theorem bBG {E : bO} (h : H) : S21 E [] h = dN (.agg (zc 256)) h λ x2 h3 =>
 vK (aL x2) λ x4 =>
 vK (aF 0 x4) λ x5 =>
 wK (aD E 65 [] h3) λ x6 h7 =>
 vK (eM [.nilp] [(0, 1, x6)]) λ x8 =>
 vK (lG 256 2 x5 (ii 1)) λ x9 =>
 vK (aF 1 x9) λ x10 =>
 wK (bQ 1 x10 (.ifc 120 x8) h7) λ x11 h12 =>
 some (x2, h12) := rfl
theorem aBY (i : Nat) : bH rN.l i = if i = 1 then some ⟨1, 0, 2, [], []⟩ else none := by
 unfold bH rN; by_cases h : i = 1
 · subst h; rfl
 · rw [if_neg h, List.find?_cons, show ((1 : Nat) == i) = false from by rw [beq_eq_false_iff_ne]; omega]; rfl
theorem aSv {E : bO} (hN : cD E 65 aBu) : aFr (S21 E) := by
 obtain ⟨B0, b0, s0⟩ := hN.call; intro h; have hl := aGT 256; obtain ⟨h3, eh3, g3, o3⟩ : ∃ x, x = h.push (.blk ⟨(zc 256).length, (zc 256).length, false, true, Tr.ofL (zc 256)⟩) /\ aH h x /\ bB x h.size (zc 256) := ⟨_, rfl, aH.push _ _, bB.pushed⟩; have z3 : h3.size = h.size + 1 := by rw [eh3]; exact H.size_push _ _
 obtain ⟨d, h7, f7, hd, d7, g7⟩ := s0 h3; obtain ⟨h12, f12, fL, k12⟩ := (o3.grown g7).set (v := .ifc 120 (.agg [.ptr d 0])) (j := 3) rfl (by rw [hl]; omega)
 have d12 := d7.off (k12.off (F := λ c => c = h.size) rfl) λ c hc e => by simp at hc; omega
 refine ⟨h.size, h12, (zc 256).set 3 (.ifc 120 (.agg [.ptr d 0])), λ i => if i = 1 then [d] else [], ?_, ⟨?_, fL, ?_, ?_, λ i n hn => ?_, λ i hi hn => ?_, λ i hi => ?_, λ i j hij c hi hj => ?_, λ i hn => ?_⟩, k12.grown (g3.trans g7) (Nat.le_refl _), λ c hc => ?_⟩
 · have bld : eM [.nilp] [(0, 1, .ptr d 0)] = some (.agg [.ptr d 0]) := rfl; rw [bBG, fJ, <- eh3, bG, aA, aM, aA, b0, f7, aB, bld, aA, aGX (by omega), aA, aM, aA, f12, aB]
 · rw [List.length_set]; exact hl
 · rw [List.getElem?_set, if_neg (by omega)]; exact aDz (n := 256) (i := 256) (Nat.le_refl _)
 · rw [List.getElem?_set, if_neg (by omega)]; exact aPN 256
 · rw [aBY] at hn; by_cases hi : i = 1
   · subst hi; rw [if_pos rfl] at hn; cases hn; refine ⟨?_, .ifc 120 (.agg [.ptr d 0]), ?_, .inr ⟨rfl, d, rfl, ?_⟩⟩
     · rw [List.getElem?_set, if_neg (by omega)]; exact aDz (n := 256) (i := 1) (by omega)
     · rw [List.getElem?_set, if_pos (by omega), if_pos (by rw [hl]; omega)]
     · exact d12
   · rw [if_neg hi] at hn; cases hn
 · rw [aBY] at hn; have hi1 : i ≠ 1 := λ e => by rw [if_pos e] at hn; cases hn
   rw [List.getElem?_set, if_neg (by omega), List.getElem?_set, if_neg (by omega)]
   exact ⟨aDz (by omega), aTU hi⟩
 · by_cases h1 : i = 1
   · simp only [h1, if_true] at hi; simp at hi; omega
   · simp only [h1, if_false] at hi; cases hi
 · by_cases h1 : i = 1
   · by_cases h2 : j = 1
     · omega
     · simp only [h2, if_false] at hj; cases hj
   · simp only [h1, if_false] at hi; cases hi
 · rw [aBY] at hn; by_cases h1 : i = 1
   · rw [if_pos h1] at hn; cases hn
   · simp only [h1, if_false]
 · rcases hc with rfl | ⟨i, hi⟩
   · exact Nat.le_refl _
   · by_cases h1 : i = 1
     · simp only [h1, if_true] at hi; simp at hi; omega
     · simp only [h1, if_false] at hi; cases hi
def opT (T : TreeP) (o : OpP) : TreeP × Nat :=
 if o.kind = 1 then mkT T o.path 2 else if o.kind = 2 then mkT T o.path 1 else if o.kind = 3 then kR T o.path else if o.kind = 4 then nG T o.path else
   if o.kind = 5 then kW T o.path o.other else if o.kind = 6 then rW T o.path o.other else if o.kind = 7 then pI T o.path o.at_ o.text else if o.kind = 8 then pM T o.path o.n else (T, 0)
theorem bCe {k : Nat} {T : TreeP} (h : Inv k T) {o : OpP} (ho : o.ok) : Inv (k + 1) (opT T o).1 := by
 obtain ⟨_, _, _, o1, o2, o3⟩ := ho; unfold opT; split
 · exact aQt h o1 (.inr rfl)
 split
 · exact aQt h o1 (.inl rfl)
 split
 · exact (aKU h _).mono (by omega)
 split
 · exact (aOg h _).mono (by omega)
 split
 · exact aLC h _ o2
 split
 · exact aTb h _ o2
 split
 · exact (aNw h o3).mono (by omega)
 split
 · exact (aNF h _ _).mono (by omega)
 · exact h.mono (by omega)
def NA (t : Nat) (FN : Nat -> Ln) (FR : Nat -> Prop) : Nat -> Prop := λ c => ¬ Fp t FN c /\ ¬ FR c
def FRn (FR : Nat -> Prop) (a b : Nat) : Nat -> Prop := λ c => FR c \/ (a <= c /\ c < b)
section
variable {t : Nat} {FN FN' : Nat -> Ln} {FR FR' : Nat -> Prop} {h h' : H} {v : DV} {T : TreeP}
theorem aEx (r : dR (NA t FN FR) h v T) (s : kO t h FN h' FN') : dR (NA t FN' FR) h' v T :=
 r.move s.off.size (λ c hc hl => s.off.get c hl hc.1) λ c hc hl => ⟨λ hF => by
   rcases s.fp c hF with x | x
   · exact hc.1 x
   · exact absurd hl (Nat.not_lt.2 x), hc.2⟩
theorem wW {b : Nat} (r : dR (NA t FN FR) h v T) (k : But b h h') (hb : FR b) : dR (NA t FN FR) h' v T :=
 r.move (Nat.le_of_eq k.size.symm) (λ c hc hl => k.get c λ e => hc.2 (e ▸ hb)) λ _ x _ => x
theorem aEy (r : dR (NA t FN FR) h v T) (hFR : ∀ c, c < h.size -> FR' c -> FR c) : dR (NA t FN FR') h v T :=
 r.move (Nat.le_refl _) (λ _ _ _ => rfl) λ c hc hl => ⟨hc.1, λ x => hc.2 (hFR c hl x)⟩
end
theorem vR {E : bO} {t : Nat} {T T' : TreeP} {C : List DV} {FN : Nat -> Ln} {FR : Nat -> Prop} {o : OpP} {b3 b5 b8 e : Nat} {v' : DV} {L5 L8 : List DV} {hh : H} {P : H -> (DV -> H -> aU) -> aU}
   (hT : cP hh t T C FN) (hR : dR (NA t FN FR) hh v' T') (o3 : bB hh b3 (opV o)) (o5 : bB hh b5 L5) (h5 : L5.length = 2) (o8 : bB hh b8 L8) (h8 : L8.length = 2) (f5 : FR b5) (f8 : FR b8) (n58 : b5 ≠ b8) (n38 : b3 ≠ b8) (hFR : ∀ c, FR c -> ¬ Fp t FN c)
   (hP : ∀ h23, cP h23 t T C FN -> bB h23 b3 (opV o) -> ∃ h27 C' FN', (∀ K, P h23 K = K (ii e) h27) /\ cP h27 t T' C' FN' /\ kO t h23 FN h27 FN') :
   ∃ h' C' FN', (wK (bQ 2 (.ptr b8 0) v' hh) λ _ h23 => P h23 λ x26 h27 => sL E (.ptr b5 0) (.ptr b8 0) (ii e) x26 h27) = some (.tup [v', .bool true], h') /\ cP h' t T' C' FN' /\ dR (NA t FN' FR) h' v' T' /\ kP (λ c => Fp t FN c \/ c = b5 \/ c = b8) hh h' /\ ∀ c, Fp t FN' c -> Fp t FN c \/ hh.size <= c := by
 obtain ⟨s, rfl, hs⟩ := hR.agg; have one2 : ([s, ii T'.gen]).all DV.one = true := by simp only [List.all_cons, List.all_nil, hs]; rfl
 obtain ⟨h23, f23, iB, k23⟩ := o8.setAll (n := 2) (cs := [s, ii T'.gen]) h8 rfl one2; have hT23 := hT.off (k23.off (F := λ c => c = b8) rfl) λ c hc e => hFR b8 f8 (e ▸ hc)
 obtain ⟨h27, C', FN', f27, t27, s27⟩ := hP h23 hT23 (o3.but n38 k23); have r27 := aEx (wW hR k23 f8) s27; have lB := iB.off s27.off (hFR b8 f8); have o527 := (o5.but n58 k23).off s27.off (hFR b5 f5); obtain ⟨h29, f29, lZ, k29⟩ := o527.setAll (n := 2) (cs := [s, ii T'.gen]) h5 rfl one2; have hn5 : ¬ Fp t FN' b5 := λ hF => by
   rcases s27.fp b5 hF with x | x
   · exact hFR b5 f5 x
   · have := o5.1; have := k23.size; omega
 refine ⟨h29, C', FN', ?_, t27.off (k29.off (F := λ c => c = b5) rfl) (λ c hc e => hn5 (e ▸ hc)), wW r27 k29 f5, (((k23.off (F := λ c => c = b8) rfl).weak λ c _ hc => .inr (.inr hc)).trans (s27.off.weak λ c _ hc => .inl hc)).trans ((k29.off (F := λ c => c = b5) rfl).weak λ c _ hc => .inr (.inl hc)), λ c hc => ?_⟩
 · rw [f23, aB, f27]; unfold sL; rw [lB.all (n := 2) rfl, aA, cG, aA, f29, aB, lZ.all (n := 2) rfl, aA, decide_eq_true rfl]
 · rcases s27.fp c hc with x | x
   · exact .inl x
   · have := k23.size; exact .inr (by omega)
structure aDP (E : bO) : Prop where
 nw : cD E 21 aFr
 md : cD E 40 (jQ λ T p => mkT T p 2)
 cr : cD E 41 (jQ λ T p => mkT T p 1)
 un : cD E 42 (jQ kR)
 rm : cD E 43 (jQ nG)
 rn : cD E 44 (sD kW)
 ln : cD E 45 (sD rW)
 wr : cD E 46 zV
 tr : cD E 47 aAa
 tx : cD E 24 wC
def aXf (B : cE) : Prop := ∀ (A : Nat -> Prop) (h : H), (∀ c, h.size <= c -> A c) -> ∃ v h', B [] h = some (v, h') /\ dR A h' v rN /\ aH h h'
structure aKF (E : bO) : Prop where
 nw : cD E 22 aXf
 md : cD E 66 aCo
 un : cD E 67 (xX kR)
 rm : cD E 68 (xX nG)
 rn : cD E 69 (sG kW)
 ln : cD E 70 (sG rW)
 wr : cD E 71 aAe
 tr : cD E 72 aAf
 tx : cD E 25 rL
def aKG (B : cE) : Prop := ∀ (t : Nat) (T : TreeP) (C : List DV) (FN : Nat -> Ln) (k : Nat) (FR : Nat -> Prop) (v : DV) (o : OpP) (h : H), cP h t T C FN -> dR (NA t FN FR) h v T -> Inv k T -> k < 900 -> (∀ c, FR c -> c < h.size /\ ¬ Fp t FN c) -> o.ok -> o.path.length < 140737488355328 -> o.other.length < 140737488355328 ->
 ∃ v' h' C' FN', B [.ptr t 0, v, .agg (opV o)] h = some (.tup [v', .bool true], h') /\ cP h' t (opT T o).1 C' FN' /\ dR (NA t FN' FR) h' v' (opT T o).1 /\ kO t h FN h' FN'
theorem bCW {E : bO} (Q : aDP E) (D : aKF E) : aKG (S29 E) := by
 intro t T C FN k FR v o h hT hR hI hk hFR hok hpl hol; obtain ⟨hk0, ha0, hn0, okp, oko, okt⟩ := id hok; obtain ⟨s, ev, hs⟩ := hR.agg; subst ev; obtain ⟨h2, eh2, g2, o2⟩ := aP h 2 2 [s, ii T.gen] rfl; have z2 : h2.size = h.size + 1 := by rw [eh2]; exact H.size_push _ _
 obtain ⟨h4, eh4, g4, o4⟩ := aP h2 6 6 (opV o) rfl; have z4 : h4.size = h2.size + 1 := by rw [eh4]; exact H.size_push _ _
 obtain ⟨h6, eh6, g6, o6⟩ := aP h4 2 2 [.nils, ii 0] rfl; have z6 : h6.size = h4.size + 1 := by rw [eh6]; exact H.size_push _ _
 obtain ⟨h9, eh9, g9, o9⟩ := aP h6 2 2 [.nils, ii 0] rfl; have z9 : h9.size = h6.size + 1 := by rw [eh9]; exact H.size_push _ _
 have one2 : ([s, ii T.gen]).all DV.one = true := by simp only [List.all_cons, List.all_nil, hs]; rfl
 obtain ⟨h11, f11, fZ, k11⟩ := o9.setAll (n := 2) (cs := [s, ii T.gen]) rfl rfl one2; have z11 : h11.size = h9.size := k11.size; have G11 : aH h h11 := k11.grown (((g2.trans g4).trans g6).trans g9) (by omega)
 have q2 : bB h11 h.size [s, ii T.gen] := bB.but (((o2.grown g4).grown g6).grown g9) (by omega) k11
 have q4 : bB h11 h2.size (opV o) := bB.but ((o4.grown g6).grown g9) (by omega) k11
 have q6 : bB h11 h4.size [.nils, ii 0] := bB.but (o6.grown g9) (by omega) k11
 have t11 := hT.grown G11; have hlt : ∀ c, Fp t FN c -> c < h.size := λ c hc => hT.lt hc
 have r11 : dR (NA t FN (FRn FR h.size h11.size)) h11 (.agg [s, ii T.gen]) T := (aEy hR λ c hc x => x.elim id λ y => by omega).grown G11
 have hA : ∀ c, h11.size <= c -> NA t FN (FRn FR h.size h11.size) c := λ c hc => ⟨λ x => by have := hlt c x; omega, λ x => x.elim (λ y => by have := (hFR c y).1; omega) λ y => by omega⟩
 have hFR' : ∀ c, FRn FR h.size h11.size c -> ¬ Fp t FN c := λ c x => x.elim (λ y => (hFR c y).2) λ y z => by have := hlt c z; omega
 have fx : ∀ q, aF q (.ptr h2.size 0) = some (.ptr h2.size q) := λ q => by rw [aM, Nat.zero_add]
 have rd0 : ∀ {hh : H}, bB hh h2.size (opV o) -> aI hh.get (.ptr h2.size 0) = some (.int .i64 o.kind) := λ x => x.read rfl
 have rd1 : ∀ {hh : H}, bB hh h2.size (opV o) -> aI hh.get (.ptr h2.size 1) = some (.int .i64 o.at_) := λ x => x.read rfl
 have rd2 : ∀ {hh : H}, bB hh h2.size (opV o) -> aI hh.get (.ptr h2.size 2) = some (.int .i64 o.n) := λ x => x.read rfl
 have rd3 : ∀ {hh : H}, bB hh h2.size (opV o) -> aI hh.get (.ptr h2.size 3) = some (.str o.path) := λ x => x.read rfl
 have rd4 : ∀ {hh : H}, bB hh h2.size (opV o) -> aI hh.get (.ptr h2.size 4) = some (.str o.other) := λ x => x.read rfl
 have rd5 : ∀ {hh : H}, bB hh h2.size (opV o) -> aI hh.get (.ptr h2.size 5) = some (.str o.text) := λ x => x.read rfl
 have fin : ∀ {hh h' : H} {v' : DV} {T' : TreeP} {C' : List DV} {FN' : Nat -> Ln}, aH h11 hh -> cP h' t T' C' FN' -> dR (NA t FN' (FRn FR h.size h11.size)) h' v' T' -> kP (λ c => Fp t FN c \/ c = h4.size \/ c = h6.size) hh h' -> (∀ c, Fp t FN' c -> Fp t FN c \/ hh.size <= c) -> cP h' t T' C' FN' /\ dR (NA t FN' FR) h' v' T' /\ kO t h FN h' FN' := by
   intro hh h' v' T' C' FN' g a b c d; have zz := g.size; have gg := G11.trans g; have zg := gg.size; refine ⟨a, aEy b λ c _ x => .inl x, ⟨Nat.le_trans zg c.size, λ x hx hn => ?_⟩, λ x hx => (d x hx).elim .inl λ y => .inr (by omega)⟩
   rw [c.get x (by omega) (λ y => by rcases y with y | y | y <;> first | exact hn y | omega)]
   exact gg.get x hx
 show ∃ v' h' C' FN', aSa E (.ptr t 0) (.agg [s, ii T.gen]) (.agg (opV o)) h = _ /\ _; unfold aSa; rw [nbx eh2 rfl, nbx eh4 rfl, bW, <- eh6, (o2.grown g4 |>.grown g6).all (n := 2) rfl, aA, bW, <- eh9, f11, aB, fx, aA, rd0 q4, aA]; unfold opT; rw [jS, aA]; by_cases c1 : o.kind = 1
 · obtain ⟨B0, b0, s0⟩ := D.md.call; obtain ⟨B1, b1, s1⟩ := Q.md.call; obtain ⟨v', h19, f19, r19, g19⟩ := s0 _ _ T k o.path 2 h11 r11 hI hk okp hpl hA; rw [show (o.kind == Int.ofNat 1) = true from by rw [beq_iff_eq]; exact c1, aE, if_pos c1, q2.all (n := 2) rfl, aA, fx, aA, rd3 q4, aA, b0, f19, aB, aY, aA, aX, aA]
   obtain ⟨h', C', FN', y1, y2, y3, y4, y5⟩ := vR (E := E) (e := (mkT T o.path 2).2) (T' := (mkT T o.path 2).1) (P := λ h23 K => vK (aF 3 (.ptr h2.size 0)) λ a3 => vK (aI h23.get a3) λ y3 => wK (aD E 40 [.ptr t 0, y3] h23) K) (t11.grown g19) r19 (q4.grown g19) (q6.grown g19) rfl (fZ.grown g19) rfl (.inr ⟨by omega, by omega⟩) (.inr ⟨by omega, by omega⟩) (by omega) (by omega) hFR' (λ h23 t23 q23 => by
     obtain ⟨h27, C', FN', f27, t27, s27⟩ := s1 t T C FN k o.path h23 t23 hI hk okp hpl; exact ⟨h27, C', FN', λ K => by simp only [fx, rd3 q23, aA, b1, f27, aB], t27, s27⟩)
   exact ⟨v', h', C', FN', y1, fin g19 y2 y3 y4 y5⟩
 rw [show (o.kind == Int.ofNat 1) = false from by rw [beq_eq_false_iff_ne]; exact c1, aC, if_neg c1]
 rw [jS, aA]; by_cases c2 : o.kind = 2
 · obtain ⟨B0, b0, s0⟩ := D.md.call; obtain ⟨B1, b1, s1⟩ := Q.cr.call; obtain ⟨v', h19, f19, r19, g19⟩ := s0 _ _ T k o.path 1 h11 r11 hI hk okp hpl hA; rw [show (o.kind == Int.ofNat 2) = true from by rw [beq_iff_eq]; exact c2, aE, if_pos c2, q2.all (n := 2) rfl, aA, fx, aA, rd3 q4, aA, b0, f19, aB, aY, aA, aX, aA]
   obtain ⟨h', C', FN', y1, y2, y3, y4, y5⟩ := vR (E := E) (e := (mkT T o.path 1).2) (T' := (mkT T o.path 1).1) (P := λ h23 K => vK (aF 3 (.ptr h2.size 0)) λ a3 => vK (aI h23.get a3) λ y3 => wK (aD E 41 [.ptr t 0, y3] h23) K) (t11.grown g19) r19 (q4.grown g19) (q6.grown g19) rfl (fZ.grown g19) rfl (.inr ⟨by omega, by omega⟩) (.inr ⟨by omega, by omega⟩) (by omega) (by omega) hFR' (λ h23 t23 q23 => by
     obtain ⟨h27, C', FN', f27, t27, s27⟩ := s1 t T C FN k o.path h23 t23 hI hk okp hpl; exact ⟨h27, C', FN', λ K => by simp only [fx, rd3 q23, aA, b1, f27, aB], t27, s27⟩)
   exact ⟨v', h', C', FN', y1, fin g19 y2 y3 y4 y5⟩
 rw [show (o.kind == Int.ofNat 2) = false from by rw [beq_eq_false_iff_ne]; exact c2, aC, if_neg c2]
 rw [jS, aA]; by_cases c3 : o.kind = 3
 · obtain ⟨B0, b0, s0⟩ := D.un.call; obtain ⟨B1, b1, s1⟩ := Q.un.call; obtain ⟨v', h19, f19, r19, g19⟩ := s0 _ _ T k o.path h11 r11 hI hk hpl hA; rw [show (o.kind == Int.ofNat 3) = true from by rw [beq_iff_eq]; exact c3, aE, if_pos c3, q2.all (n := 2) rfl, aA, fx, aA, rd3 q4, aA, b0, f19, aB, aY, aA, aX, aA]
   obtain ⟨h', C', FN', y1, y2, y3, y4, y5⟩ := vR (E := E) (e := (kR T o.path).2) (T' := (kR T o.path).1) (P := λ h23 K => vK (aF 3 (.ptr h2.size 0)) λ a3 => vK (aI h23.get a3) λ y3 => wK (aD E 42 [.ptr t 0, y3] h23) K) (t11.grown g19) r19 (q4.grown g19) (q6.grown g19) rfl (fZ.grown g19) rfl (.inr ⟨by omega, by omega⟩) (.inr ⟨by omega, by omega⟩) (by omega) (by omega) hFR' (λ h23 t23 q23 => by
     obtain ⟨h27, C', FN', f27, t27, s27⟩ := s1 t T C FN k o.path h23 t23 hI hk okp hpl; exact ⟨h27, C', FN', λ K => by simp only [fx, rd3 q23, aA, b1, f27, aB], t27, s27⟩)
   exact ⟨v', h', C', FN', y1, fin g19 y2 y3 y4 y5⟩
 rw [show (o.kind == Int.ofNat 3) = false from by rw [beq_eq_false_iff_ne]; exact c3, aC, if_neg c3]
 rw [jS, aA]; by_cases c4 : o.kind = 4
 · obtain ⟨B0, b0, s0⟩ := D.rm.call; obtain ⟨B1, b1, s1⟩ := Q.rm.call; obtain ⟨v', h19, f19, r19, g19⟩ := s0 _ _ T k o.path h11 r11 hI hk hpl hA; rw [show (o.kind == Int.ofNat 4) = true from by rw [beq_iff_eq]; exact c4, aE, if_pos c4, q2.all (n := 2) rfl, aA, fx, aA, rd3 q4, aA, b0, f19, aB, aY, aA, aX, aA]
   obtain ⟨h', C', FN', y1, y2, y3, y4, y5⟩ := vR (E := E) (e := (nG T o.path).2) (T' := (nG T o.path).1) (P := λ h23 K => vK (aF 3 (.ptr h2.size 0)) λ a3 => vK (aI h23.get a3) λ y3 => wK (aD E 43 [.ptr t 0, y3] h23) K) (t11.grown g19) r19 (q4.grown g19) (q6.grown g19) rfl (fZ.grown g19) rfl (.inr ⟨by omega, by omega⟩) (.inr ⟨by omega, by omega⟩) (by omega) (by omega) hFR' (λ h23 t23 q23 => by
     obtain ⟨h27, C', FN', f27, t27, s27⟩ := s1 t T C FN k o.path h23 t23 hI hk okp hpl; exact ⟨h27, C', FN', λ K => by simp only [fx, rd3 q23, aA, b1, f27, aB], t27, s27⟩)
   exact ⟨v', h', C', FN', y1, fin g19 y2 y3 y4 y5⟩
 rw [show (o.kind == Int.ofNat 4) = false from by rw [beq_eq_false_iff_ne]; exact c4, aC, if_neg c4]
 rw [jS, aA]; by_cases c5 : o.kind = 5
 · obtain ⟨B0, b0, s0⟩ := D.rn.call; obtain ⟨B1, b1, s1⟩ := Q.rn.call; obtain ⟨v', h19, f19, r19, g19⟩ := s0 _ _ T k o.path o.other h11 r11 hI hk hpl hol oko hA; rw [show (o.kind == Int.ofNat 5) = true from by rw [beq_iff_eq]; exact c5, aE, if_pos c5, q2.all (n := 2) rfl, aA, fx, aA, rd3 q4, aA, fx, aA, rd4 q4, aA, b0, f19, aB, aY, aA, aX, aA]
   obtain ⟨h', C', FN', y1, y2, y3, y4, y5⟩ := vR (E := E) (e := (kW T o.path o.other).2) (T' := (kW T o.path o.other).1) (P := λ h23 K => vK (aF 3 (.ptr h2.size 0)) λ a3 => vK (aI h23.get a3) λ y3 => vK (aF 4 (.ptr h2.size 0)) λ a4 => vK (aI h23.get a4) λ y4 => wK (aD E 44 [.ptr t 0, y3, y4] h23) K) (t11.grown g19) r19 (q4.grown g19) (q6.grown g19) rfl (fZ.grown g19) rfl (.inr ⟨by omega, by omega⟩) (.inr ⟨by omega, by omega⟩) (by omega) (by omega) hFR' (λ h23 t23 q23 => by
     obtain ⟨h27, C', FN', f27, t27, s27⟩ := s1 t T C FN k o.path o.other h23 t23 hI hk oko hpl hol; exact ⟨h27, C', FN', λ K => by simp only [fx, rd3 q23, rd4 q23, aA, b1, f27, aB], t27, s27⟩)
   exact ⟨v', h', C', FN', y1, fin g19 y2 y3 y4 y5⟩
 rw [show (o.kind == Int.ofNat 5) = false from by rw [beq_eq_false_iff_ne]; exact c5, aC, if_neg c5]
 rw [jS, aA]; by_cases c6 : o.kind = 6
 · obtain ⟨B0, b0, s0⟩ := D.ln.call; obtain ⟨B1, b1, s1⟩ := Q.ln.call; obtain ⟨v', h19, f19, r19, g19⟩ := s0 _ _ T k o.path o.other h11 r11 hI hk hpl hol oko hA; rw [show (o.kind == Int.ofNat 6) = true from by rw [beq_iff_eq]; exact c6, aE, if_pos c6, q2.all (n := 2) rfl, aA, fx, aA, rd3 q4, aA, fx, aA, rd4 q4, aA, b0, f19, aB, aY, aA, aX, aA]
   obtain ⟨h', C', FN', y1, y2, y3, y4, y5⟩ := vR (E := E) (e := (rW T o.path o.other).2) (T' := (rW T o.path o.other).1) (P := λ h23 K => vK (aF 3 (.ptr h2.size 0)) λ a3 => vK (aI h23.get a3) λ y3 => vK (aF 4 (.ptr h2.size 0)) λ a4 => vK (aI h23.get a4) λ y4 => wK (aD E 45 [.ptr t 0, y3, y4] h23) K) (t11.grown g19) r19 (q4.grown g19) (q6.grown g19) rfl (fZ.grown g19) rfl (.inr ⟨by omega, by omega⟩) (.inr ⟨by omega, by omega⟩) (by omega) (by omega) hFR' (λ h23 t23 q23 => by
     obtain ⟨h27, C', FN', f27, t27, s27⟩ := s1 t T C FN k o.path o.other h23 t23 hI hk oko hpl hol; exact ⟨h27, C', FN', λ K => by simp only [fx, rd3 q23, rd4 q23, aA, b1, f27, aB], t27, s27⟩)
   exact ⟨v', h', C', FN', y1, fin g19 y2 y3 y4 y5⟩
 rw [show (o.kind == Int.ofNat 6) = false from by rw [beq_eq_false_iff_ne]; exact c6, aC, if_neg c6]
 rw [jS, aA]; by_cases c7 : o.kind = 7
 · obtain ⟨B0, b0, s0⟩ := D.wr.call; obtain ⟨B1, b1, s1⟩ := Q.wr.call; obtain ⟨v', h19, f19, r19, g19⟩ := s0 _ _ T k o.path o.at_ o.text h11 r11 hI hk hpl okt ha0 hA; rw [show (o.kind == Int.ofNat 7) = true from by rw [beq_iff_eq]; exact c7, aE, if_pos c7, q2.all (n := 2) rfl, aA, fx, aA, rd3 q4, aA, fx, aA, rd1 q4, aA, fx, aA, rd5 q4, aA, b0, f19, aB, aY, aA, aX, aA]
   obtain ⟨h', C', FN', y1, y2, y3, y4, y5⟩ := vR (E := E) (e := (pI T o.path o.at_ o.text).2) (T' := (pI T o.path o.at_ o.text).1) (P := λ h23 K => vK (aF 3 (.ptr h2.size 0)) λ a3 => vK (aI h23.get a3) λ y3 => vK (aF 1 (.ptr h2.size 0)) λ a1 => vK (aI h23.get a1) λ y1 => vK (aF 5 (.ptr h2.size 0)) λ a5 => vK (aI h23.get a5) λ y5 => wK (aD E 46 [.ptr t 0, y3, y1, y5] h23) K) (t11.grown g19) r19 (q4.grown g19) (q6.grown g19) rfl (fZ.grown g19) rfl (.inr ⟨by omega, by omega⟩) (.inr ⟨by omega, by omega⟩) (by omega) (by omega) hFR' (λ h23 t23 q23 => by
     obtain ⟨h27, C', FN', f27, t27, s27⟩ := s1 t T C FN k o.path o.at_ o.text h23 t23 hI hk hpl okt ha0; exact ⟨h27, C', FN', λ K => by simp only [fx, rd3 q23, rd1 q23, rd5 q23, aA, b1, f27, aB], t27, s27⟩)
   exact ⟨v', h', C', FN', y1, fin g19 y2 y3 y4 y5⟩
 rw [show (o.kind == Int.ofNat 7) = false from by rw [beq_eq_false_iff_ne]; exact c7, aC, if_neg c7]
 rw [jS, aA]; by_cases c8 : o.kind = 8
 · obtain ⟨B0, b0, s0⟩ := D.tr.call; obtain ⟨B1, b1, s1⟩ := Q.tr.call; obtain ⟨v', h19, f19, r19, g19⟩ := s0 _ _ T k o.path o.n h11 r11 hI hk hpl hn0 hA; rw [show (o.kind == Int.ofNat 8) = true from by rw [beq_iff_eq]; exact c8, aE, if_pos c8, q2.all (n := 2) rfl, aA, fx, aA, rd3 q4, aA, fx, aA, rd2 q4, aA, b0, f19, aB, aY, aA, aX, aA]
   obtain ⟨h', C', FN', y1, y2, y3, y4, y5⟩ := vR (E := E) (e := (pM T o.path o.n).2) (T' := (pM T o.path o.n).1) (P := λ h23 K => vK (aF 3 (.ptr h2.size 0)) λ a3 => vK (aI h23.get a3) λ y3 => vK (aF 2 (.ptr h2.size 0)) λ a2 => vK (aI h23.get a2) λ y2 => wK (aD E 47 [.ptr t 0, y3, y2] h23) K) (t11.grown g19) r19 (q4.grown g19) (q6.grown g19) rfl (fZ.grown g19) rfl (.inr ⟨by omega, by omega⟩) (.inr ⟨by omega, by omega⟩) (by omega) (by omega) hFR' (λ h23 t23 q23 => by
     obtain ⟨h27, C', FN', f27, t27, s27⟩ := s1 t T C FN k o.path o.n h23 t23 hI hk hpl hn0; exact ⟨h27, C', FN', λ K => by simp only [fx, rd3 q23, rd2 q23, aA, b1, f27, aB], t27, s27⟩)
   exact ⟨v', h', C', FN', y1, fin g19 y2 y3 y4 y5⟩
 rw [show (o.kind == Int.ofNat 8) = false from by rw [beq_eq_false_iff_ne]; exact c8, aC, if_neg c8]
 obtain ⟨h', f', o', k'⟩ := q6.setAll (n := 2) (cs := [s, ii T.gen]) rfl rfl one2; obtain ⟨a, b, c⟩ := fin (aH.refl h11) (t11.off (k'.off (F := λ c => c = h4.size) rfl) λ c hc e => by have := hlt c hc; omega) (wW r11 k' (.inr ⟨by omega, by omega⟩)) ((k'.off (F := λ c => c = h4.size) rfl).weak λ c _ hc => .inr (.inl hc)) (λ c hc => .inl hc)
 refine ⟨_, h', C, FN, ?_, a, b, c⟩; unfold sL; rw [fZ.all (n := 2) rfl, aA, cG, aA, f', aB, o'.all (n := 2) rfl, aA, decide_eq_true rfl]
def uI (l : List OpP) : List DV := l.flatMap opV
theorem vE : ∀ l : List OpP, (uI l).length = l.length * 6
 | [] => rfl
 | x :: xs => by
   show (opV x ++ uI xs).length = _; rw [List.length_append, vE xs]; simp [opV]; omega
theorem aLN : ∀ {xs : List OpP} {i : Nat} {x : OpP}, xs[i]? = some x -> ∀ j, j < 6 -> (uI xs)[i * 6 + j]? = (opV x)[j]?
 | [], i, x, h, _, _ => by simp at h
 | y :: xs, 0, x, h, j, hj => by
   simp at h; subst h; show (opV y ++ uI xs)[_]? = _; rw [Nat.zero_mul, Nat.zero_add, List.getElem?_append_left (by simpa [opV] using hj)]
 | y :: xs, i + 1, x, h, j, hj => by
   simp only [List.getElem?_cons_succ] at h; show (opV y ++ uI xs)[_]? = _; rw [List.getElem?_append_right (by simp [opV]; omega)]
   have : (i + 1) * 6 + j - (opV y).length = i * 6 + j := by simp [opV]; omega
   rw [this]; exact aLN h j hj
theorem aUK {A : Nat -> Prop} {h : H} {s : DV} {xs : List OpP} (r : RowE A 6 h s (uI xs)) {i : Nat} {x : OpP} (he : xs[i]? = some x) (k : IntKind) :
   ∃ b o, cC 6 s (.int k (.ofNat i)) = some (.ptr b o) /\ (∀ q, aF q (.ptr b o) = some (.ptr b (o + q))) /\ aI h.get (.ptr b (o + 0)) = some (.int .i64 x.kind) /\ aI h.get (.ptr b (o + 1)) = some (.int .i64 x.at_) /\ aI h.get (.ptr b (o + 2)) = some (.int .i64 x.n) /\
     aI h.get (.ptr b (o + 3)) = some (.str x.path) /\ aI h.get (.ptr b (o + 4)) = some (.str x.other) /\ aI h.get (.ptr b (o + 5)) = some (.str x.text) /\ aK 6 h.get (.ptr b o) = some (.agg (opV x)) := by
 obtain ⟨b, o, h1, h2⟩ := r.ix (i := i) (n := xs.length) (vE xs) (List.getElem?_eq_some_iff.1 he).1 (by omega) k
 have g := aLN he; have c : ∀ j, j < 6 -> ∀ y, (opV x)[j]? = some y -> rdCell h.get b (o + j) = some y := λ j hj y hy => h2 j y hj (by rw [g j hj]; exact hy)
 have c0 := c 0 (by omega) _ rfl
 have c1 := c 1 (by omega) _ rfl
 have c2 := c 2 (by omega) _ rfl
 have c3 := c 3 (by omega) _ rfl
 have c4 := c 4 (by omega) _ rfl
 have c5 := c 5 (by omega) _ rfl
 refine ⟨b, o, h1, λ q => aM q b o, by simp only [aI, cK]; exact c0, by simp only [aI, cK]; exact c1, by simp only [aI, cK]; exact c2, by simp only [aI, cK]; exact c3, by simp only [aI, cK]; exact c4, by simp only [aI, cK]; exact c5, ?_⟩
 rw [Nat.add_zero] at c0; have hc : rdCells h.get b o 6 = some (opV x) := by
   simp only [rdCells, c0, c1, c2, c3, c4, c5, Nat.add_assoc, Nat.reduceAdd]; rfl
 simp only [aK, cI, hc]; rfl
theorem qT {A : Nat -> Prop} {h : H} {s : DV} {xs : List OpP} (r : RowE A 6 h s (uI xs)) : cB s = some (ii xs.length) := by
 obtain ⟨n, e1, e2⟩ := r.len; have : n = xs.length := by rw [vE] at e1; omega
 rw [<- this]; exact e2
def tN (o : OpP) : Prop := o.path.length <= 600 /\ o.other.length <= 600 /\ o.text.length <= 20000
def aKC (B : cE) : Prop := ∀ (A : Nat -> Prop) (v : DV) (l : List OpP) (h : H), RowE A 6 h v (uI l) -> ∃ e, B [v] h = some (ii e, h) /\ (e ≠ 0 -> l.length <= 60 /\ ∀ o ∈ l, tN o)
theorem aOL {E : bO} {A : Nat -> Prop} {v : DV} {l : List OpP} {h : H} (r : RowE A 6 h v (uI l)) (hl : l.length <= 60) : ∀ (k i m : Nat), l.length - i = k -> i <= l.length ->
   ∃ e, aHO E v (m + (k + 1)) (ii i) h = some (ii e, h) /\ (e ≠ 0 -> ∀ o ∈ l.drop i, tN o) := by
 intro k
 induction k with
 | zero =>
   intro i m hk hi; have : i = l.length := by omega
   subst this; refine ⟨1, ?_, λ _ o ho => by rw [List.drop_length] at ho; cases ho⟩
   show aNn E v (aHO E v m) _ h = _; unfold aNn; rw [qT r, aA, aN, aA, decide_eq_false (Nat.lt_irrefl _), aC]
   rfl
 | succ k ih =>
   intro i m hk hi; have hlt : i < l.length := by omega
   obtain ⟨x, hx⟩ : ∃ x, l[i]? = some x := ⟨_, List.getElem?_eq_getElem hlt⟩; obtain ⟨b, o, q1, q2, q3, q4, q5, q6, q7, q8, q9⟩ := aUK r hx .i64; have hd : l.drop i = x :: l.drop (i + 1) := by
     rw [List.drop_eq_getElem_cons hlt]; rw [List.getElem?_eq_getElem hlt] at hx; rw [Option.some.inj hx]
   show ∃ e, aNn E v (aHO E v (m + (k + 1))) _ h = _ /\ _; unfold aNn; rw [qT r, aA, aN, aA, decide_eq_true hlt, aE, q1, aA, q2, aA, q6, aA, bC, aA, dB, aA]; by_cases c1 : 600 < x.path.length
   · simp only [decide_eq_true c1, fP, eK, bX, aA]; rw [aE]; exact ⟨0, rfl, λ y => absurd rfl y⟩
   · simp only [decide_eq_false c1, dX, q1, q2, q7, bC, dB, bY, aA]; by_cases c2 : 600 < x.other.length
     · simp only [decide_eq_true c2, fP, eK, bX, aA]; rw [aE]; exact ⟨0, rfl, λ y => absurd rfl y⟩
     · simp only [decide_eq_false c2, dX, q1, q2, q8, bC, dB, bY, aA]; by_cases c3 : 20000 < x.text.length
       · rw [decide_eq_true c3, aE]; exact ⟨0, rfl, λ y => absurd rfl y⟩
       · obtain ⟨e, y1, y2⟩ := ih (i + 1) m (by omega) (by omega)
         rw [decide_eq_false c3, aC, bV (by omega), aA]
         refine ⟨e, y1, λ he o ho => ?_⟩
         rw [hd] at ho; rcases List.mem_cons.1 ho with rfl | ho
         · exact ⟨by omega, by omega, by omega⟩
         · exact y2 he o ho
theorem aVy {E : bO} : aKC (S20 E) := by
 intro A v l h r; show ∃ e, aSf E v h = _ /\ _; unfold aSf; rw [qT r, aA, dB, aA]; by_cases c : 60 < l.length
 · rw [decide_eq_true c, aE]; exact ⟨0, rfl, λ y => absurd rfl y⟩
 · rw [decide_eq_false c, aC]; obtain ⟨e, y1, y2⟩ := aOL (E := E) r (by omega) l.length 0 (aR - (l.length + 1)) rfl (by omega)
   rw [show aR - (l.length + 1) + (l.length + 1) = aR from by unfold aR; omega] at y1
   exact ⟨e, y1, λ he => ⟨by omega, by have := y2 he; rwa [List.drop_zero] at this⟩⟩
theorem bBI (T : TreeP) (p : Ln) : (stT T p).1.length = 5 := by
 unfold stT; split
 · unfold aPW; split <;> rfl
 · rfl
theorem bUc {x : Bool} : gB (.bool true) true x = x := by cases x <;> rfl
theorem bBT {A : Nat -> Prop} {h : H} {v : DV} {T : TreeP} (r : dR A h v T) : rcK (some v) v = true := by
 obtain ⟨s, xs, rfl, _, e3, _⟩ := r; have hs : qJ s s = true := wX e3; show qJ _ _ = true; simp only [qJ, aBe, hs, Bool.and_true, Bool.true_and, decide_true]
structure uL (N0 : Nat) (hh : H) (t b : Nat) (T : TreeP) (C : List DV) (FN : Nat -> Ln) (v : DV) (k : Nat) : Prop where
 tree : cP hh t T C FN
 ref : dR (NA t FN (λ c => c = b)) hh v T
 inv : Inv k T
 box : ∃ s, v = .agg [s, ii T.gen] /\ s.one = true /\ bB hh b [s, ii T.gen]
 hb : ¬ Fp t FN b
 lo : ∀ c, Fp t FN c -> N0 <= c
 lob : N0 <= b
theorem uL.grown {N0 : Nat} {hh h' : H} {t b : Nat} {T : TreeP} {C : List DV} {FN : Nat -> Ln} {v : DV} {k : Nat} (B : uL N0 hh t b T C FN v k) (g : aH hh h') : uL N0 h' t b T C FN v k where
 tree := B.tree.grown g
 ref := B.ref.grown g
 inv := B.inv
 box := by obtain ⟨s, e, e1, o⟩ := B.box; exact ⟨s, e, e1, o.grown g⟩
 hb := B.hb
 lo := B.lo
 lob := B.lob
theorem uL.ld {N0 : Nat} {hh : H} {t b : Nat} {T : TreeP} {C : List DV} {FN : Nat -> Ln} {v : DV} {k : Nat} (B : uL N0 hh t b T C FN v k) : aK 2 hh.get (.ptr b 0) = some v := by
 obtain ⟨s, rfl, e1, o⟩ := B.box; exact o.all (n := 2) rfl
theorem uL.size {N0 : Nat} {hh : H} {t b : Nat} {T : TreeP} {C : List DV} {FN : Nat -> Ln} {v : DV} {k : Nat} (B : uL N0 hh t b T C FN v k) : N0 <= hh.size := by
 obtain ⟨s, _, _, o⟩ := B.box; have := B.lob; have := o.1; omega
theorem bCX {B : cE} (sB : aKG B) {N0 : Nat} {hh : H} {t b : Nat} {T : TreeP} {C : List DV} {FN : Nat -> Ln} {v : DV} {k : Nat} {o : OpP} (S : uL N0 hh t b T C FN v k) (hk : k < 900) (ho : o.ok) (hs : tN o) :
   ∃ v' h9 h13 C' FN' s, B [.ptr t 0, v, .agg (opV o)] (hh.push (.blk ⟨2, 2, false, true, Tr.ofL [.nils, ii 0]⟩)) = some (.tup [v', .bool true], h9) /\ bQ 2 (.ptr hh.size 0) v' h9 = some (.tup [], h13) /\ aK 2 h13.get (.ptr hh.size 0) = some v' /\
     cP h13 t (opT T o).1 C' FN' /\ dR (NA t FN' (λ c => c = b \/ c = hh.size)) h13 v' (opT T o).1 /\ dR (NA t FN' (λ c => c = b \/ c = hh.size)) h13 v T /\
     v' = .agg [s, ii ((opT T o).1.gen)] /\ s.one = true /\ aK 2 h13.get (.ptr b 0) = some v /\ (∃ L, bB h13 b L /\ L.length = 2) /\ bB h13 hh.size [s, ii ((opT T o).1.gen)] /\ ¬ Fp t FN' b /\ ¬ Fp t FN' hh.size /\ (∀ c, Fp t FN' c -> N0 <= c) /\ kP (λ c => N0 <= c) hh h13 /\ Inv (k + 1) (opT T o).1 /\ kP (Fp t FN) hh h13 /\ ∀ c, Fp t FN' c -> Fp t FN c \/ hh.size <= c := by
 obtain ⟨h7, eh7, g7, o7⟩ := aP hh 2 2 [.nils, ii 0] rfl; have z7 : h7.size = hh.size + 1 := by rw [eh7]; exact H.size_push _ _
 have S7 := S.grown g7; have hlt : ∀ c, Fp t FN c -> c < hh.size := λ c hc => S.tree.lt hc
 obtain ⟨sv, ev, hsv, ob⟩ := S7.box; have hb7 : b < hh.size := by
   obtain ⟨s, _, _, oo⟩ := S.box; exact oo.1
 have r7 : dR (NA t FN (λ c => c = b \/ c = hh.size)) h7 v T := (aEy S.ref λ c hc x => x.elim id λ y => by omega).grown g7
 have hFR : ∀ c, (c = b \/ c = hh.size) -> c < h7.size /\ ¬ Fp t FN c := λ c hc => by
   rcases hc with rfl | rfl
   · exact ⟨by omega, S.hb⟩
   · exact ⟨by omega, λ x => by have := hlt _ x; omega⟩
 obtain ⟨v', h9, C', FN', f9, t9, r9, s9⟩ := sB t T C FN k _ v o h7 S7.tree r7 S.inv hk hFR ho (by have := hs.1; omega) (by have := hs.2.1; omega)
 obtain ⟨s, ev', hs'⟩ := r9.agg; have one2 : ([s, ii ((opT T o).1.gen)]).all DV.one = true := by simp only [List.all_cons, List.all_nil, hs']; rfl
 have o9 := o7.off s9.off (hFR _ (.inr rfl)).2; obtain ⟨h13, f13, fX, k13⟩ := o9.setAll (n := 2) (cs := [s, ii ((opT T o).1.gen)]) rfl rfl one2; have nf : ∀ c, (c = b \/ c = hh.size) -> ¬ Fp t FN' c := λ c hc x => by
   obtain ⟨y1, y2⟩ := hFR c hc; rcases s9.fp c x with z | z
   · exact y2 z
   · omega
 have ob9 := ob.off s9.off S.hb; have ob13 := ob9.but (by omega) k13
 have hN := S.size; subst ev'; refine ⟨_, h9, h13, C', FN', s, by rw [<- eh7]; exact f9, f13, fX.all (n := 2) rfl, t9.off (k13.off (F := λ c => c = hh.size) rfl) (λ c hc e => nf _ (.inr rfl) (e ▸ hc)), wW r9 k13 (.inr rfl), wW (aEx r7 s9) k13 (.inr rfl), rfl, hs', by rw [ev]; exact ob13.all (n := 2) rfl, ⟨_, ob13, rfl⟩, fX, nf _ (.inl rfl), nf _ (.inr rfl), λ c hc => ?_, ((g7.off _).trans (s9.off.weak λ c _ hc => S.lo c hc)).trans (k13.off (F := λ c => N0 <= c) hN), bCe S.inv ho, (((g7.off _).trans (s9.off.weak λ c _ hc => .inl hc)).trans ((k13.off (F := λ c => c = hh.size) rfl).weak λ c _ hc => .inr hc)).weak (F := λ c => Fp t FN c \/ c = hh.size) λ c hc x => x.elim id λ y => by omega, λ c hc => (s9.fp c hc).elim .inl λ y => .inr (by omega)⟩
 rcases s9.fp c hc with x | x
 · exact S.lo c x
 · omega
theorem bKg {N0 : Nat} {hh : H} {t b : Nat} {T' : TreeP} {C' : List DV} {FN' : Nat -> Ln} {s : DV} {k : Nat} {FR : Nat -> Prop} (ht : cP hh t T' C' FN') (hr : dR (NA t FN' FR) hh (.agg [s, ii T'.gen]) T') (hs : s.one = true) (hFR : FR b) (ob : ∃ L, bB hh b L /\ L.length = 2) (hb : ¬ Fp t FN' b) (lo : ∀ c, Fp t FN' c -> N0 <= c) (lob : N0 <= b) (hI : Inv k T') :
   ∃ h16, bQ 2 (.ptr b 0) (.agg [s, ii T'.gen]) hh = some (.tup [], h16) /\ uL N0 h16 t b T' C' FN' (.agg [s, ii T'.gen]) k /\ kP (λ c => N0 <= c) hh h16 := by
 obtain ⟨L, ob, hL⟩ := ob; have one2 : ([s, ii T'.gen]).all DV.one = true := by simp only [List.all_cons, List.all_nil, hs]; rfl
 obtain ⟨h16, f16, iG, k16⟩ := ob.setAll (n := 2) (cs := [s, ii T'.gen]) hL rfl one2; refine ⟨h16, f16, ⟨ht.off (k16.off (F := λ c => c = b) rfl) (λ c hc e => hb (e ▸ hc)), (wW hr k16 hFR).move (Nat.le_refl _) (λ _ _ _ => rfl) (λ c hc _ => ⟨hc.1, λ e => hc.2 (e ▸ hFR)⟩), hI, ⟨s, rfl, hs, iG⟩, hb, lo, lob⟩, k16.off lob⟩
theorem aQD {B : cE} (sB : aKG B) {N0 : Nat} {hh : H} {t b : Nat} {T : TreeP} {C : List DV} {FN : Nat -> Ln} {v : DV} {k : Nat} {o : OpP} (S : uL N0 hh t b T C FN v k) (hk : k < 900) (ho : o.ok) (hs : tN o) :
   ∃ v' h9 h13 h16 C' FN', B [.ptr t 0, v, .agg (opV o)] (hh.push (.blk ⟨2, 2, false, true, Tr.ofL [.nils, ii 0]⟩)) = some (.tup [v', .bool true], h9) /\ bQ 2 (.ptr hh.size 0) v' h9 = some (.tup [], h13) /\ aK 2 h13.get (.ptr hh.size 0) = some v' /\
     bQ 2 (.ptr b 0) v' h13 = some (.tup [], h16) /\ uL N0 h16 t b (opT T o).1 C' FN' v' (k + 1) /\ kP (λ c => N0 <= c) hh h16 /\ kP (λ c => Fp t FN c \/ c = b) hh h16 /\ ∀ c, Fp t FN' c -> Fp t FN c \/ hh.size <= c := by
 obtain ⟨v', h9, h13, C', FN', s, f9, f13, l13, t13, r13, _, rfl, hs', _, ⟨L, ob, hL⟩, _, nb, nh, lo, off13, hI, offp, fpp⟩ := bCX sB S hk ho hs; have one2 : ([s, ii ((opT T o).1.gen)]).all DV.one = true := by simp only [List.all_cons, List.all_nil, hs']; rfl
 obtain ⟨h16, f16, S16, off16⟩ := bKg t13 r13 hs' (.inl rfl) ⟨L, ob, hL⟩ nb lo S.lob hI; obtain ⟨h16', f16', _, k16⟩ := ob.setAll (n := 2) (cs := [s, ii ((opT T o).1.gen)]) hL rfl one2; rw [f16] at f16'; cases f16'; exact ⟨_, h9, h13, h16, C', FN', f9, f13, l13, f16, S16, off13.trans off16, (offp.weak λ c _ hc => .inl hc).trans (k16.off (F := λ c => Fp t FN c \/ c = b) (.inr rfl)), fpp⟩
theorem aWd {E : bO} (Q : aDP E) (D : aKF E) (h : H) :
   ∃ t v h7 h9 h13 C FN b, aD E 21 [] h = some (.ptr t 0, h7) /\ aD E 22 [] h7 = some (v, h9) /\ b = h9.size /\ bQ 2 (.ptr h9.size 0) v (h9.push (.blk ⟨2, 2, false, true, Tr.ofL [.nils, ii 0]⟩)) = some (.tup [], h13) /\ uL h.size h13 t b rN C FN v 0 /\ aH h h13 := by
 obtain ⟨B0, b0, s0⟩ := Q.nw.call; obtain ⟨B1, b1, s1⟩ := D.nw.call; obtain ⟨t, h7, C, FN, f7, t7, g7, lo⟩ := s0 h; have hlt : ∀ c, Fp t FN c -> c < h7.size := λ c hc => t7.lt hc
 obtain ⟨v, h9, f9, r9, g9⟩ := s1 (λ c => h7.size <= c) h7 λ c hc => hc
 obtain ⟨s, ev, hs⟩ := r9.agg; obtain ⟨h11, eh, g11, fZ⟩ := aP h9 2 2 [.nils, ii 0] rfl; have one2 : ([s, ii rN.gen]).all DV.one = true := by simp only [List.all_cons, List.all_nil, hs]; rfl
 obtain ⟨h13, f13, fX, k13⟩ := fZ.setAll (n := 2) (cs := [s, ii rN.gen]) rfl rfl one2; have z9 := g9.size; have z7 := g7.size; have G : aH h9 h13 := k13.grown g11 (Nat.le_refl _); subst ev; refine ⟨t, _, h7, h9, h13, C, FN, h9.size, by rw [b0]; exact f7, by rw [b1]; exact f9, rfl, by rw [<- eh]; exact f13, ⟨(t7.grown g9).grown G, (r9.move (A' := NA t FN (λ c => c = h9.size)) (Nat.le_refl _) (λ _ _ _ => rfl) (λ c hc hl => ⟨λ x => by have := hlt c x; omega, λ e => by omega⟩)).grown G, aSt, ⟨s, rfl, hs, fX⟩, λ x => by have := hlt _ x; omega, lo, by omega⟩, (g7.trans g9).trans G⟩
structure aFw (E : bO) : Prop where
 dd : cD E 29 aKG
 fw : cD E 20 aKC
 P : aDP E
 D : aKF E
 aw : E 28 = some aFK
theorem aQh {n : Nat} {h h' : H} {w : DV} {l : List OpP} (r : RowE (λ c => c < n) 6 h w (uI l)) (k : kP (λ c => n <= c) h h') : RowE (λ c => c < n) 6 h' w (uI l) := r.off k λ c hc x => by omega
theorem bJH {E : bO} (K : aFw E) {l : List OpP} {w r1 r2 : DV} {n0 t b : Nat} (hok : ∀ o ∈ l, o.ok /\ tN o) (hl : l.length <= 60) :
   ∀ (k i m : Nat) (hh : H) (T : TreeP) (C : List DV) (FN : Nat -> Ln) (v : DV), l.length / 2 - i = k -> i <= l.length / 2 -> RowE (λ c => c < n0) 6 hh w (uI l) -> uL n0 hh t b T C FN v i ->
   ∃ h' T' C' FN' v', aHQ E w r1 r2 (.ptr t 0) (.ptr b 0) (m + (k + 1)) (ii i) hh = aMY E w r1 r2 (.ptr t 0) (.ptr b 0) h' /\ RowE (λ c => c < n0) 6 h' w (uI l) /\ uL n0 h' t b T' C' FN' v' (l.length / 2) := by
 obtain ⟨B0, b0, s0⟩ := K.dd.call; intro k
 induction k with
 | zero =>
   intro i m hh T C FN v hk hi r S; have : i = l.length / 2 := by omega
   subst this; refine ⟨hh, T, C, FN, v, ?_, r, S⟩; show aNp E w r1 r2 _ _ (aHQ E w r1 r2 _ _ m) _ hh = _; unfold aNp; rw [qT r, aA, wS (by omega) (by omega), aA, aN, aA, decide_eq_false (Nat.lt_irrefl _), aC]
 | succ k ih =>
   intro i m hh T C FN v hk hi r S; have hlt : i < l.length / 2 := by omega
   have hlt2 : i < l.length := by omega
   obtain ⟨o, ho⟩ : ∃ o, l[i]? = some o := ⟨_, List.getElem?_eq_getElem hlt2⟩; obtain ⟨ok1, ok2⟩ := hok o (List.mem_of_getElem? ho); obtain ⟨rb, ro, q1, q2, q3, q4, q5, q6, q7, q8, q9⟩ := aUK r ho .i64; obtain ⟨v', h9, h13, h16, C', FN', f9, f13, l13, f16, S16, off, _, _⟩ := aQD s0 S (by omega) ok1 ok2
   obtain ⟨h', T', C2, F2, v2, y1, y2, y3⟩ := ih (i + 1) m h16 _ C' FN' v' (by omega) (by omega) (aQh r off) S16
   refine ⟨h', T', C2, F2, v2, ?_, y2, y3⟩; show aNp E w r1 r2 _ _ (aHQ E w r1 r2 _ _ (m + (k + 1))) _ hh = _; unfold aNp; rw [qT r, aA, wS (by omega) (by omega), aA, aN, aA, decide_eq_true hlt, aE, S.ld, aA, q1, aA, q9, aA, bW, b0, f9, aB, aY, aA, aX, aA, f13, aB, l13, aA, f16, aB, fE, aA, Bool.not_true, aC, bV (by omega), aA]
   exact y1
theorem bJG {E : bO} (K : aFw E) {l : List OpP} {w r2 r13 : DV} {n0 t b sb : Nat} {L5 : List DV} (hok : ∀ o ∈ l, o.ok /\ tN o) (hl : l.length <= 60) (hsb : sb ≠ b) :
   ∀ (k i m : Nat) (hh : H) (T : TreeP) (C : List DV) (FN : Nat -> Ln) (v : DV), l.length - i = k -> i <= l.length -> RowE (λ c => c < n0) 6 hh w (uI l) -> uL n0 hh t b T C FN v i -> bB hh sb L5 -> ¬ Fp t FN sb ->
   ∃ h' T' C' FN' v', aHP E w r2 (.ptr t 0) (.ptr b 0) (.ptr sb 0) r13 (m + (k + 1)) (ii i) hh = aHT E r2 (.ptr t 0) (.ptr b 0) (.ptr sb 0) r13 h' /\ uL n0 h' t b T' C' FN' v' l.length /\ bB h' sb L5 /\ ¬ Fp t FN' sb := by
 obtain ⟨B0, b0, s0⟩ := K.dd.call; intro k
 induction k with
 | zero =>
   intro i m hh T C FN v hk hi r S os ns; have : i = l.length := by omega
   subst this; refine ⟨hh, T, C, FN, v, ?_, S, os, ns⟩; show aNo E w r2 _ _ _ r13 (aHP E w r2 _ _ _ r13 m) _ hh = _; unfold aNo; rw [qT r, aA, aN, aA, decide_eq_false (Nat.lt_irrefl _)]; simp only [vJ, bY, aA]; rw [aC]
 | succ k ih =>
   intro i m hh T C FN v hk hi r S os ns; have hlt : i < l.length := by omega
   obtain ⟨o, ho⟩ : ∃ o, l[i]? = some o := ⟨_, List.getElem?_eq_getElem hlt⟩; obtain ⟨ok1, ok2⟩ := hok o (List.mem_of_getElem? ho); obtain ⟨rb, ro, q1, q2, q3, q4, q5, q6, q7, q8, q9⟩ := aUK r ho .i64; obtain ⟨v', h9, h13, h16, C', FN', f9, f13, l13, f16, S16, off, offp, fpp⟩ := aQD s0 S (by omega) ok1 ok2
   have os16 := os.off offp λ x => x.elim ns hsb
   have ns16 : ¬ Fp t FN' sb := λ x => (fpp sb x).elim ns λ y => by have := os.1; omega
   obtain ⟨h', T', C2, F2, v2, y1, y2, y3, y4⟩ := ih (i + 1) m h16 _ C' FN' v' (by omega) (by omega) (aQh r off) S16 os16 ns16
   refine ⟨h', T', C2, F2, v2, ?_, y2, y3, y4⟩; show aNo E w r2 _ _ _ r13 (aHP E w r2 _ _ _ r13 (m + (k + 1))) _ hh = _; unfold aNo; rw [qT r, aA, aN, aA, decide_eq_true hlt]; simp only [hH, fA, Nat.zero_le, decide_true, bX, aA]; rw [aE, S.ld, aA, q1, aA, q9, aA, bW, b0, f9, aB, aY, aA, aX, aA, f13, aB, l13, aA, f16, aB, fE, aA, Bool.not_true, aC, bV (by omega), aA]
   exact y1
theorem bTK {k : Nat} {T : TreeP} (hI : Inv k T) : jI T 0 0 = false := by
 unfold jI; cases hg : bH T.l 0 with
 | none => rfl
 | some n => have := hI.idx hg; omega
theorem aNx {k : Nat} {T : TreeP} (h : Inv k T) {i g : Nat} {a : Int} {t : Ln} (ht : bF t = true) : Inv k (iZ T i g a t).1 := by
 unfold iZ; split
 · rename_i hn; obtain ⟨n, hn, hk, _⟩ := aEL hn; exact aDU h hn hk ht
 · exact h
structure aJt (E : bO) : Prop where
 st : cD E 34 aCk
 rdn : cD E 38 aJo
 wrn : cD E 37 aJn
 rrdn : cD E 39 aJs
 rwrn : cD E 36 aJr
theorem bJF {E : bO} (K : aFw E) (Q : aJt E) {n0 t b sb e k i g : Nat} {st s : Ln} {hh : H} {T : TreeP} {C : List DV} {FN : Nat -> Ln} {v : DV} (S : uL n0 hh t b T C FN v k) (hk : k <= 60) (os : bB hh sb (dH st)) (ns : ¬ Fp t FN sb) (hsb : sb ≠ b) (hst : st.length = 5) (h0 : st[0]? = some i) (h1 : st[1]? = some g) (he : e ≠ 0 -> i = 0 /\ g = 0) (hs : bF s = true) :
   (aHT E (.str s) (.ptr t 0) (.ptr b 0) (.ptr sb 0) (ii e) hh).map (·.1) = some (.bool true) := by
 obtain ⟨B0, b0, s0⟩ := Q.rwrn.call; obtain ⟨B1, b1, s1⟩ := Q.wrn.call; obtain ⟨B2, b2, s2⟩ := Q.rdn.call; obtain ⟨B3, b3, s3⟩ := Q.rrdn.call; obtain ⟨B4, b4, s4⟩ := K.P.tx.call; obtain ⟨B5, b5, s5⟩ := K.D.tx.call; have aw : ∀ m, aD E 28 [] m = some (.bool true, m) := λ m => by rw [cO K.aw]; rfl
 have hlt : ∀ c, Fp t FN c -> c < hh.size := λ c hc => S.tree.lt hc
 have i1 : gC 1 := by constructor <;> decide
 have i0 : gC 0 := by constructor <;> decide
 have i100 : gC 100 := by constructor <;> decide
 obtain ⟨v', h4, f4, r4, g4⟩ := s0 (λ c => ¬ Fp t FN c) v T k st i g 1 s hh (S.ref.move (Nat.le_refl _) (λ _ _ _ => rfl) λ c hc _ => hc.1) S.inv hst h0 h1 i1 hs λ c hc x => by have := hlt c x; omega
 have z4 := g4.size; have S4 := S.grown g4; have os4 := os.grown g4; obtain ⟨sv, ev, hsv⟩ := r4.agg; obtain ⟨h8, eh8, g8, o8⟩ := aP h4 2 2 [.nils, ii 0] rfl; have z8 : h8.size = h4.size + 1 := by rw [eh8]; exact H.size_push _ _
 have one2 : ([sv, ii ((iZ T i g 1 s).1.gen)]).all DV.one = true := by simp only [List.all_cons, List.all_nil, hsv]; rfl
 obtain ⟨h10, f10, fR, k10⟩ := o8.setAll (n := 2) (cs := [sv, ii ((iZ T i g 1 s).1.gen)]) rfl rfl one2; have G10 : aH h4 h10 := k10.grown g8 (Nat.le_refl _); have z10 := k10.size; have S10 := S4.grown G10; have os10 := os4.grown G10; have r10 : dR (NA t FN λ c => c = h4.size) h10 v' (iZ T i g 1 s).1 := (r4.move (A' := NA t FN λ c => c = h4.size) (Nat.le_refl _) (λ _ _ _ => rfl) λ c hc hl => ⟨hc, λ e => by omega⟩).grown G10
 obtain ⟨h13, C', FN', f13, t13, st13⟩ := s1 t T C FN k st i g 1 s h10 S10.tree S10.inv hst h0 h1 i1 hs; have os13 := os10.off st13.off ns; have fX := fR.off st13.off λ x => by have := hlt _ x; omega
 have r13 := aEx r10 st13; have hI := aNx S.inv (i := i) (g := g) (a := 1) hs; obtain ⟨h16, f16, g16⟩ := s2 t _ C' FN' k st i g 0 100 h13 t13 hI hst h0 h1 i0 i100; obtain ⟨h22, f22, g22⟩ := s3 _ v' _ k st i g 0 100 h16 (r13.grown g16) hI hst h0 h1 i0 i100; have G22 := g16.trans g22; obtain ⟨h51, f51, g51⟩ := s4 t _ C' FN' k h22 (t13.grown G22) hI (by omega)
 obtain ⟨h53, f53, g53⟩ := s5 _ v' _ k h51 ((r13.grown G22).grown g51) hI (by omega)
 subst ev; have e7 : e ≠ 0 -> (iZ T i g 1 s).2 = 7 := λ x => by
   obtain ⟨rfl, rfl⟩ := he x; unfold iZ; rw [bTK S.inv]; rfl
 unfold aHT; rw [S.ld, aA, os.all (n := 5) (hY hst), aA, b0]; change (wK (B0 [v, .agg (dH st), .int .i64 1, .str s] hh) _).map _ = _; rw [f4, aB, aY, aA, aX, aA, bW, <- eh8, f10, aB, os10.all (n := 5) (hY hst), aA, b1]; change (wK (B1 [.ptr t 0, .agg (dH st), .int .i64 1, .str s] h10) _).map _ = _; rw [f13, aB, os13.all (n := 5) (hY hst), aA, b2]; change (wK (B2 [.ptr t 0, .agg (dH st), .int .i64 0, .int .i64 100] h13) _).map _ = _; rw [f16, aB, aY, aA, aX, aA, (fX.grown g16).all (n := 2) rfl, aA, (os13.grown g16).all (n := 5) (hY hst), aA, b3]; change (wK (B3 [_, .agg (dH st), .int .i64 0, .int .i64 100] h16) _).map _ = _; rw [f22, aB, aY, aA, aX, aA, bR, aA]; have l22 := (fX.grown G22).all (n := 2) rfl; have l51 := ((fX.grown G22).grown g51).all (n := 2) rfl; have tail : ∀ (x30 : DV), x30 = .bool false -> (bK x30 (some ((.bool false), h22))
 (vK (bP (ii (iZ T i g 1 s).2) (ii (iZ T i g 1 s).2)) λ x31 =>
 bA x31 true (λ kk => kk (.str (readN (iZ T i g 1 s).1 i g 0 100).1) h22) h22 λ x32 h33 =>
 bA x31 true (λ kk => kk (.str (readN (iZ T i g 1 s).1 i g 0 100).1) h33) h33 λ x34 h35 =>
 bA x31 true (λ kk => vK (bP x32 x34) λ v => kk v h35) h35 λ x36 h37 =>
 vK (aQ x31 x36 (.bool false)) λ x38 =>
 bA x38 true (λ kk => kk (ii (readN (iZ T i g 1 s).1 i g 0 100).2) h37) h37 λ x39 h40 =>
 bA x38 true (λ kk => kk (ii (readN (iZ T i g 1 s).1 i g 0 100).2) h40) h40 λ x41 h42 =>
 bA x38 true (λ kk => vK (bP x39 x41) λ v => kk v h42) h42 λ x43 h44 =>
 vK (aQ x38 x43 (.bool false)) λ x45 =>
 bA x45 true (λ kk => kk (.ptr t 0) h44) h44 λ x46 h47 =>
 bA x45 true (λ kk => vK (aK 2 h47.get (.ptr h4.size 0)) λ v => kk v h47) h47 λ x48 h49 =>
 bA x45 true (λ kk => wK (aD E 24 [x46] h49) kk) h49 λ x50 h51 =>
 rK (gB x45 true (rcK (aK 2 h51.get (.ptr h4.size 0)) x48)) <|
 bA x45 true (λ kk => wK (aD E 25 [x48] h51) kk) h51 λ x52 h53 =>
 bA x45 true (λ kk => vK (bP x50 x52) λ v => kk v h53) h53 λ x54 h55 =>
 vK (aQ x45 x54 (.bool false)) λ x56 =>
 bA x56 true (λ kk => wK (aD E 28 [] h55) kk) h55 λ x57 h58 =>
 vK (aQ x56 x57 (.bool false)) λ x59 =>
 some (x59, h58)) : aU).map (·.1) = some (.bool true) := by
   intro x30 hx; subst hx; rw [aC]; simp only [cG, fW, decide_true, beq_self_eq_true, aA, hH, bX, l22, b4, f51, aB, bUc, l51, bBT r13, gF, b5, f53, aw, Option.map_some]
 by_cases e0 : e = 0
 · simp only [e0, decide_true, Bool.not_true, vJ, bY, aA]; exact tail _ rfl
 · simp only [decide_eq_false e0, Bool.not_false, hH, bR, e7 e0, decide_true, Bool.not_true, bX, aA]; have R := tail _ rfl; simp only [e7 e0] at R; exact R
theorem aGR {E : bO} (K : aFw E) (Q : aJt E) {A : Nat -> Prop} {w : DV} {l : List OpP} {p s : Ln} {h0 : H} (r : RowE A 6 h0 w (uI l)) (hok : ∀ o ∈ l, o.ok) (hs : bF s = true) : (S10 E [w, .str p, .str s] h0).map (·.1) = some (.bool true) := by
 obtain ⟨B0, b0, s0⟩ := K.fw.call; obtain ⟨B1, b1, s1⟩ := Q.st.call; have aw : ∀ m, aD E 28 [] m = some (.bool true, m) := λ m => by rw [cO K.aw]; rfl
 obtain ⟨e, fe, he⟩ := s0 A w l h0 r; show (aSg E w (.str p) (.str s) h0).map _ = _; unfold aSg; rw [b0, fe, aB, cG, aA]; by_cases e0 : e = 0
 · simp only [decide_eq_true e0, fP, eK, bX, aA]; rw [aE, aw, aB]; rfl
 · simp only [decide_eq_false e0, dX, bC, aA, dB, bY]; by_cases c1 : 600 < p.length
   · simp only [decide_eq_true c1, fP, eK, bX, aA]; rw [aE, aw, aB]; rfl
   · simp only [decide_eq_false c1, dX, bC, aA, dB, bY]; by_cases c2 : 20000 < s.length
     · rw [decide_eq_true c2, aE, aw, aB]; rfl
     · obtain ⟨hl60, hsm⟩ := he e0; rw [decide_eq_false c2, aC]; obtain ⟨t, v, h7, h9, h13, C, FN, b, f7, f9, rfl, f13, S, g13⟩ := aWd K.P K.D h0; rw [f7, aB, f9, aB, bW, f13, aB]; have hok' : ∀ o ∈ l, o.ok /\ tN o := λ o ho => ⟨hok o ho, hsm o ho⟩
       obtain ⟨h1, T1, C1, F1, v1, y1, r1, S1⟩ := bJH K (l := l) (w := w) (r1 := .str p) (r2 := .str s) hok' hl60 (l.length / 2) 0 (aR - (l.length / 2 + 1)) h13 rN C FN v (by omega) (by omega) ((aDN r).grown g13) S
       rw [show aR - (l.length / 2 + 1) + (l.length / 2 + 1) = aR from by unfold aR; omega] at y1
       rw [y1]; unfold aMY; have z5 : [(ii 0), (ii 0), (ii 0), (ii 0), (ii 0)] = dH [0, 0, 0, 0, 0] := rfl; obtain ⟨h2, f2, g2⟩ := s1 t T1 C1 F1 _ p h1 S1.tree S1.inv (by omega) (by omega)
       obtain ⟨h6, eh6, g6, o6⟩ := aP h2 5 5 (dH [0, 0, 0, 0, 0]) rfl; have one5 : ∀ l : Ln, (dH l).all DV.one = true := λ l => by
         unfold dH; rw [List.all_eq_true]; intro x hx; obtain ⟨y, _, rfl⟩ := List.mem_map.1 hx
         rfl
       have hsl := bBI T1 p; obtain ⟨h8, f8, o8, k8⟩ := o6.setAll (n := 5) (cs := dH (stT T1 p).1) rfl (hY hsl) (one5 _); have G8 : aH h2 h8 := k8.grown g6 (Nat.le_refl _); have S8 := (S1.grown g2).grown G8; have hb1 : h9.size < h1.size := by
         obtain ⟨_, _, _, oo⟩ := S1.box; exact oo.1
       have hsb : h2.size ≠ h9.size := by have := g2.size; omega
       have ns : ¬ Fp t F1 h2.size := λ x => by have := S1.tree.lt x; have := g2.size; omega
       obtain ⟨h', T', C2, F2, v2, u1, u2, u3, u4⟩ := bJG K (l := l) (w := w) (r2 := .str s) (r13 := ii ((stT T1 p).2)) hok' hl60 hsb (l.length - l.length / 2) (l.length / 2) (aR - (l.length - l.length / 2 + 1)) h8 T1 C1 F1 v1 rfl (by omega) ((r1.grown g2).grown G8) S8 o8 ns
       rw [show aR - (l.length - l.length / 2 + 1) + (l.length - l.length / 2 + 1) = aR from by unfold aR; omega] at u1
       rw [b1, f2, aB, aY, aA, aX, aA, z5, bW, <- eh6, f8, aB, qT ((r1.grown g2).grown G8), aA, wS (by omega) (by omega), aA, u1]
       obtain ⟨i, hi⟩ : ∃ i, (stT T1 p).1[0]? = some i := ⟨_, List.getElem?_eq_getElem (by omega)⟩
       obtain ⟨g, hg⟩ : ∃ i, (stT T1 p).1[1]? = some i := ⟨_, List.getElem?_eq_getElem (by omega)⟩
       refine bJF K Q u2 hl60 u3 u4 hsb hsl hi hg (λ hne => ?_) hs
       unfold stT at hne hi hg; by_cases hz : (aV T1 p).2 = 0
       · rw [if_pos hz] at hne; exact absurd rfl hne
       · rw [if_neg hz] at hi hg; simp at hi hg; exact ⟨hi.symm, hg.symm⟩
def wN : cE := λ args h => match args with
 | [.str s, .int .i64 (.negSucc _), .str t] => some (.tup [.str [], .int .i64 (.ofNat 1)], h)
 | [.str s, .int .i64 (.ofNat a), .str t] => bif aBS s && aBS t then
     (bif Nat.blt 65536 s.length || (Nat.blt 65536 t.length || Nat.blt 65536 (a + t.length)) then some (.tup [.str [], .int .i64 (.ofNat 2)], h) else (yH (yG s a t)).map λ v => (.tup [v, .int .i64 (.ofNat 0)], h)) else none
 | _ => none
theorem aHU {s t : Ln} {a : Nat} (hs : bF s = true) (ht : bF t = true) (h1 : s.length <= 65536) (h2 : a + t.length <= 65536) (h : H) : wN [.str s, .int .i64 (.ofNat a), .str t] h = some (.tup [.str (yG s a t), .int .i64 (.ofNat 0)], h) := by
 show (bif aBS s && aBS t then _ else none) = _; rw [xA, xA, hs, ht]; have : (Nat.blt 65536 s.length || (Nat.blt 65536 t.length || Nat.blt 65536 (a + t.length))) = false := by
   rw [Bool.or_eq_false_iff, Bool.or_eq_false_iff]; exact ⟨jC (by omega), jC (by omega), jC (by omega)⟩
 rw [this, iI]; rfl
theorem aNc {G : cE} (h1 : ∀ (s t : Ln) (a : Nat) (h : H), G [.str s, .int .i64 (.negSucc a), .str t] h = some (.tup [.str [], .int .i64 (.ofNat 1)], h))
   (h2 : ∀ (s t : Ln) (a : Nat) (h : H), (65536 < s.length \/ 65536 < t.length \/ 65536 < a + t.length) -> G [.str s, .int .i64 (.ofNat a), .str t] h = some (.tup [.str [], .int .i64 (.ofNat 2)], h))
   (h3 : ∀ (s t : Ln) (a : Nat) (h : H), bF s = true -> bF t = true -> s.length <= 65536 -> t.length <= 65536 -> a + t.length <= 65536 -> ∃ h', G [.str s, .int .i64 (.ofNat a), .str t] h = some (.tup [.str (yG s a t), .int .i64 (.ofNat 0)], h') /\ aH h h')
   (args : List DV) (h : H) (v : DV) (h' : H) (e : wN args h = some (v, h')) : h' = h /\ oT v /\ ∃ h1, G args h = some (v, h1) /\ aH h h1 := by
 unfold wN at e; split at e
 · cases e; exact ⟨rfl, oT.tup2 (oT.str _) (oT.int _ _), _, h1 _ _ _ _, aH.refl _⟩
 · rename_i s a t; obtain ⟨hc, e⟩ := bI e; simp only [Bool.and_eq_true, xA] at hc; by_cases hb : 65536 < s.length \/ 65536 < t.length \/ 65536 < a + t.length
   · have : (Nat.blt 65536 s.length || (Nat.blt 65536 t.length || Nat.blt 65536 (a + t.length))) = true := by
       simp only [Bool.or_eq_true, Nat.blt_eq]; exact hb
     rw [this] at e; cases e; exact ⟨rfl, oT.tup2 (oT.str _) (oT.int _ _), _, h2 _ _ _ _ hb, aH.refl _⟩
   · have : (Nat.blt 65536 s.length || (Nat.blt 65536 t.length || Nat.blt 65536 (a + t.length))) = false := by
       rw [Bool.or_eq_false_iff, Bool.or_eq_false_iff]; exact ⟨jC (by omega), jC (by omega), jC (by omega)⟩
     rw [this, iI] at e; cases e; obtain ⟨h', e1, e2⟩ := h3 s t a h hc.1 hc.2 (by omega) (by omega) (by omega)
     exact ⟨rfl, oT.tup2 (oT.str _) (oT.int _ _), h', e1, e2⟩
 · cases e
theorem aDB {t : Ln} (h : t.length <= 65536) : fC (ii 65536) (ii t.length) = some (ii (65536 - t.length)) := fM h (by omega)
theorem bIP {E : bO} : ∀ (args : List DV) (h : H) (v : DV) (h' : H), wN args h = some (v, h') -> h' = h /\ oT v /\ ∃ h1, aTB E args h = some (v, h1) /\ aH h h1 := by
 refine aNc ?_ ?_ ?_
 · intro s t a h; show wJ E (.str s) (.int .i64 (.negSucc a)) (.str t) h = _; unfold wJ; rw [aBB _ (Int.negSucc_lt_zero a), aA, aE]
 · intro s t a h hb; show wJ E (.str s) (.int .i64 (.ofNat a)) (.str t) h = _; unfold wJ; have d0 : decide (a < 0) = false := by simp
   by_cases c1 : 65536 < s.length
   · simp only [aN, d0, aA, aC, bC, dB, decide_eq_true c1, fP, bX, aE]
   · by_cases c2 : 65536 < t.length
     · simp only [aN, d0, aA, aC, bC, dB, decide_eq_false c1, decide_eq_true c2, dX, fP, bX, bY, aE]
     · have c3 : 65536 - t.length < a := by omega
       simp only [aN, d0, aA, aC, bC, dB, decide_eq_false c1, decide_eq_false c2, decide_eq_true c3, dX, bY, aE, aDB (Nat.not_lt.1 c2)]
 · intro s t a h hs ht l1 l2 l3; show ∃ h', wJ E (.str s) (.int .i64 (.ofNat a)) (.str t) h = _ /\ _; unfold wJ; have d0 : decide (a < 0) = false := by simp
   have c1 : ¬ 65536 < s.length := by omega
   have c2 : ¬ 65536 < t.length := by omega
   have c3 : ¬ 65536 - t.length < a := by omega
   simp only [aN, d0, aA, aC, bC, dB, decide_eq_false c1, decide_eq_false c2, decide_eq_false c3, dX, bY, aDB l2, bV (show a + t.length < 9223372036854775808 by omega), aDZ]
   have hm : max s.length (a + t.length) < 140737488355328 := by omega
   rw [aEP hm]; have hb := cT.made (h := h) (z := eQ 0) hm; obtain ⟨h1, f1, f2, f3⟩ := hb.copy_str (s := s) (o := 0) (n := max s.length (a + t.length)) (c := max s.length (a + t.length)) (op := false) (by omega) (by simp; omega)
   show ∃ h', wK (lR 1 (.slc h.size 0 _ _ false) (.str s) _) _ = _ /\ _; rw [show (DV.int .u8 (.ofNat 0)) = eQ 0 from rfl, f1, aB]
   have e2 : (List.replicate (max s.length (a + t.length)) (eQ 0)).take 0 ++ bU s ++ (List.replicate (max s.length (a + t.length)) (eQ 0)).drop (0 + s.length) = bU (gA s (max s.length (a + t.length))) := by
     unfold gA; rw [eF, aBm]; simp
   rw [e2] at f2; have hl : (gA s (max s.length (a + t.length))).length = max s.length (a + t.length) := kX (by omega)
   have e3 : bU (yG s a t) = (bU (gA s (max s.length (a + t.length)))).take a ++ bU t ++ (bU (gA s (max s.length (a + t.length)))).drop (a + t.length) := by
     unfold yG; rw [eF, eF, aMG, aMH]
   rw [aNA (show a <= max s.length (a + t.length) by omega)]
   have key : ∃ h2, lR 1 (if a < max s.length (a + t.length) then DV.slc h.size (0 + a) (max s.length (a + t.length) - a) (max s.length (a + t.length) - a) false else if false = true then .slE h.size 0 (0 + a) else .slc h.size 0 0 0 false) (.str t) h1 = some (.int .i64 (.ofNat t.length), h2) /\ cT h2 h.size (bU (yG s a t)) /\ But h.size h1 h2 := by
     rw [e3]; by_cases ha : a < max s.length (a + t.length)
     · rw [if_pos ha, Nat.zero_add]; exact f2.copy_str (by omega) (by rw [bS, hl]; omega)
     · have ht0 : t = [] := List.eq_nil_of_length_eq_zero (by omega)
       subst ht0; rw [if_neg ha]; obtain ⟨h2, g1, g2, g3⟩ := f2.copy_str (s := []) (o := 0) (n := 0) (c := 0) (op := false) (by simp) (by simp)
       refine ⟨h2, g1, ?_, g3⟩
       simpa [bU] using g2
   obtain ⟨h2, g1, g2, g3⟩ := key; rw [aA, g1, aB]; have hpl := qQ s t a; have := g2.text (aEG hs ht a) (max s.length (a + t.length)) false; rw [hpl] at this; rw [this, aA]; exact ⟨h2, rfl, But.grown (But.grown (aH.push h _) (Nat.le_refl _) f3) (Nat.le_refl _) g3⟩
theorem bBK (p t q : Ln) (x y : Nat) : (p ++ (x :: q)).set p.length y = p ++ (y :: q) := by
 rw [List.set_append_right _ _ (Nat.le_refl _)]; simp
theorem aOc {E : bO} {n0 : Nat} (a : Nat) (t0 : Ln) (ht0 : a + t0.length <= 65536) (hok : bF t0 = true) : ∀ (t p P Q : Ln) (m : Nat) (v : DV) (h : H), t0 = p ++ t -> P.length = a + p.length -> t.length <= Q.length -> P.length + Q.length <= 1000000 -> cU n0 h v (bU (P ++ Q)) -> bF (P ++ Q) = true ->
   ∃ h', aCx E (.int .i64 (.ofNat a)) (.str t0) v (m + (t.length + 1)) (.int .i64 (.ofNat p.length)) h = some (.tup [.str (P ++ t ++ Q.drop t.length), .int .i64 (.ofNat 0)], h') /\ cL n0 h h' := by
 intro t
 induction t with
 | nil =>
   intro p P Q m v h e hp hq hpq ho hok2; have : p.length = t0.length := by rw [e]; simp
   show ∃ h', aFW E _ _ _ (aCx E _ _ _ m) _ h = _ /\ _; unfold aFW; rw [bC, aA, aN, aA, this, show decide (t0.length < t0.length) = false from by simp, aC]
   unfold aJZ; rw [ho.text hok2, aA]; exact ⟨h, by simp, cL.refl _ _⟩
 | cons y t ih =>
   intro p P Q m v h e hp hq hpq ho hok2; cases Q with
   | nil => simp at hq
   | cons q Q =>
     have hlt : p.length < t0.length := by rw [e]; simp
     have hy : t0[p.length]? = some y := by rw [e]; simp
     show ∃ h', aFW E _ _ _ (aCx E _ _ _ (m + (t.length + 1))) _ h = _ /\ _; unfold aFW; have d1 : decide (p.length < t0.length) = true := by simp [hlt]
     have hset : P.length < (bU (P ++ q :: Q)).length := by rw [bS]; simp
     obtain ⟨b, h1, g1, g2, g3, g4⟩ := ho.store1 (x := eQ y) hset rfl .i64; rw [<- aOX, bBK P t0 Q q y] at g3; have hap : bJ (.int .i64 (.ofNat a)) (.int .i64 (.ofNat p.length)) = some (.int .i64 (.ofNat P.length)) := by rw [bV (by omega), hp]
     have hy256 : bF [y] = true := by
       rw [gO]; intro z hz; rw [gO] at hok; exact hok z (by rw [e]; simp at hz; subst hz; simp)
     simp only [bC, aA, aN, d1, aE, hap, pF hy, g1]; rw [show (DV.int .u8 (.ofNat y)) = eQ y from rfl, g2, aB, fN (by omega), aA]
     have hok3 : bF (P ++ y :: Q) = true := by
       have h5 := zH hok2 P.length; rw [List.take_left] at h5; have h6 := zI hok2 (P.length + 1); rw [show (P ++ q :: Q).drop (P.length + 1) = Q from by simp] at h6
       exact cW h5 (cW (s := [y]) hy256 h6)
     obtain ⟨h', k1, k2⟩ := ih (p ++ [y]) (P ++ [y]) Q m v h1 (by rw [e]; simp) (by simp [hp]; omega) (by simpa using hq) (by simp at hpq ⊢; omega) (by simpa using g3) (by simpa using hok3)
     rw [List.length_append] at k1; exact ⟨h', by simpa using k1, g4.trans k2⟩
theorem aSI {E : bO} {n0 : Nat} (a : Nat) (t0 : Ln) (ht0 : a + t0.length <= 65536) (hok : bF t0 = true) : ∀ (k m : Nat) (L : Ln) (v : DV) (h : H), (k = 0 -> a + t0.length <= L.length) -> (0 < k -> L.length + k = a + t0.length) -> L.length <= 65536 -> n0 <= h.size -> cU n0 h v (bU L) ->
   ∃ v' h', aCy E (ii a) (.str t0) (m + (k + 1)) v h = aFE E (ii a) (.str t0) v' h' /\ cU n0 h' v' (bU (L ++ List.replicate k 0)) /\ cL n0 h h' := by
 intro k
 induction k with
 | zero =>
   intro m L v h h0 _ hL hn ho; refine ⟨v, h, ?_, by simpa using ho, cL.refl _ _⟩
   show aFX E _ _ (aCy E _ _ m) _ h = _; unfold aFX; have d1 : decide (L.length < a + t0.length) = false := by simp; exact h0 rfl
   simp only [ho.len, bS, bC, aA, bV (show a + t0.length < 9223372036854775808 by omega), aN, d1, aC]
 | succ k ih =>
   intro m L v h _ h1 hL hn ho; have hk := h1 (by omega)
   have d1 : decide (L.length < a + t0.length) = true := by simp; omega
   obtain ⟨v1, h1', g1, g2, g3⟩ := ho.push1 (x := eQ 0) (z := eQ 0) (bytes := 1) hn rfl (by rw [bS]; unfold aW; omega) (by rw [bS]; unfold aW; omega)
   have g2' : cU n0 h1' v1 (bU (L ++ [0])) := by rw [eF]; exact g2
   obtain ⟨v2, h2, k1, k2, k3⟩ := ih m (L ++ [0]) v1 h1' (by intro e; simp; omega) (by intro e; simp; omega) (by simp; omega) (Nat.le_trans hn g3.size) g2'
   refine ⟨v2, h2, ?_, ?_, g3.trans k3⟩
   · show aFX E _ _ (aCy E _ _ (m + (k + 1))) _ h = _; unfold aFX; simp only [ho.len, bS, bC, aA, bV (show a + t0.length < 9223372036854775808 by omega), aN, d1, aE]
     rw [show (DV.int .u8 (.ofNat 0)) = eQ 0 from rfl, g1]
     exact k1
   · rw [List.replicate_succ]; simpa using k2
theorem bBL {E : bO} : ∀ (args : List DV) (h : H) (v : DV) (h' : H), wN args h = some (v, h') -> h' = h /\ oT v /\ ∃ h1, aTC E args h = some (v, h1) /\ aH h h1 := by
 refine aNc ?_ ?_ ?_
 · intro s t a h; show wL E (.str s) (.int .i64 (.negSucc a)) (.str t) h = _; unfold wL; rw [aBB _ (Int.negSucc_lt_zero a), aA, aE]
 · intro s t a h hb; show wL E (.str s) (.int .i64 (.ofNat a)) (.str t) h = _; unfold wL; have d0 : decide (a < 0) = false := by simp
   by_cases c1 : 65536 < s.length
   · simp only [aN, d0, aA, aC, bC, dB, decide_eq_true c1, fP, bX, aE]
   · by_cases c2 : 65536 < t.length
     · simp only [aN, d0, aA, aC, bC, dB, decide_eq_false c1, decide_eq_true c2, dX, fP, bX, bY, aE]
     · have c3 : 65536 - t.length < a := by omega
       simp only [aN, d0, aA, aC, bC, dB, decide_eq_false c1, decide_eq_false c2, decide_eq_true c3, dX, bY, aE, aDB (Nat.not_lt.1 c2)]
 · intro s t a h hs ht l1 l2 l3; show ∃ h', wL E (.str s) (.int .i64 (.ofNat a)) (.str t) h = _ /\ _; unfold wL; have d0 : decide (a < 0) = false := by simp
   have c1 : ¬ 65536 < s.length := by omega
   have c2 : ¬ 65536 < t.length := by omega
   have c3 : ¬ 65536 - t.length < a := by omega
   simp only [aN, d0, aA, aC, bC, dB, decide_eq_false c1, decide_eq_false c2, decide_eq_false c3, dX, bY, aDB l2]; obtain ⟨v1, h1, f1, f2, f3, _⟩ := cU.s2b (h := h) (Nat.le_refl h.size) s; rw [f1]
   let k := max s.length (a + t.length) - s.length
   obtain ⟨v2, h2, g1, g2, g3⟩ := aSI (E := E) (n0 := h.size) a t l3 ht k (aR - (k + 1)) s v1 h1 (by intro e; omega) (by intro e; omega) l1 f3.size f2
   rw [show aR - (k + 1) + (k + 1) = aR from by unfold aR; omega] at g1
   rw [g1]; unfold aFE; have hz : s ++ List.replicate k 0 = gA s (max s.length (a + t.length)) := rfl; rw [hz] at g2; have hzl : (gA s (max s.length (a + t.length))).length = max s.length (a + t.length) := kX (by omega)
   have hsplit := List.take_append_drop a (gA s (max s.length (a + t.length))); rw [<- hsplit] at g2; obtain ⟨h3, k1, k2⟩ := aOc (E := E) (n0 := h.size) a t l3 ht t [] ((gA s (max s.length (a + t.length))).take a) ((gA s (max s.length (a + t.length))).drop a) (aR - (t.length + 1)) v2 h2 rfl (by rw [List.length_take, hzl]; simp; omega) (by rw [List.length_drop, hzl]; omega) (by rw [List.length_take, List.length_drop, hzl]; omega) g2 (by rw [hsplit]; exact vF hs _)
   rw [show aR - (t.length + 1) + (t.length + 1) = aR from by unfold aR; omega, List.drop_drop] at k1
   refine ⟨h3, k1, ?_⟩; exact cL.grown (f3.trans (g3.trans k2))
def mV : cE := λ args h => match args with
 | [.int .i64 (.ofNat n)] => bif Nat.blt n 1000000 then (yH (List.replicate n 0)).map λ v => (v, h) else none
 | _ => none
theorem aDr {n : Nat} (hn : n < 1000000) (h : H) : mV [.int .i64 (.ofNat n)] h = some (.str (List.replicate n 0), h) := by
 show (bif Nat.blt n 1000000 then (yH (List.replicate n 0)).map λ v => (v, h) else none) = _
 rw [dT hn, iI]; rfl
theorem aFJ {G : cE} (h3 : ∀ (n : Nat) (h : H), n < 1000000 -> ∃ h', G [.int .i64 (.ofNat n)] h = some (.str (List.replicate n 0), h') /\ aH h h')
   (args : List DV) (h : H) (v : DV) (h' : H) (e : mV args h = some (v, h')) : h' = h /\ oT v /\ ∃ h1, G args h = some (v, h1) /\ aH h h1 := by
 unfold mV at e; split at e
 · rename_i n; obtain ⟨hc, e⟩ := bI e; rw [Nat.blt_eq] at hc; rw [iI] at e; cases e; obtain ⟨h', e1, e2⟩ := h3 n h hc; exact ⟨rfl, oT.str _, h', e1, e2⟩
 · cases e
theorem aTT {E : bO} (hE : E 167 = some sN) : ∀ (args : List DV) (h : H) (v : DV) (h' : H), mV args h = some (v, h') -> h' = h /\ oT v /\ ∃ h1, aTA E args h = some (v, h1) /\ aH h h1 := by
 refine aFJ λ n h hn => ⟨h, ?_, aH.refl _⟩
 show aJS E (.int .i64 (.ofNat n)) h = _; unfold aJS; rw [cO hE, aKD n (by omega), aB]
theorem aSD {E : bO} : ∀ (args : List DV) (h : H) (v : DV) (h' : H), mV args h = some (v, h') -> h' = h /\ oT v /\ ∃ h1, aTD E args h = some (v, h1) /\ aH h h1 := by
 refine aFJ λ n h hn => ?_
 show ∃ h', aKg E (.int .i64 (.ofNat n)) h = _ /\ _; unfold aKg; rw [aEP (show n < 140737488355328 by omega)]
 have hb := cT.made (h := h) (z := eQ 0) (n := n) (by omega)
 rw [<- aBm] at hb; have := hb.text (aCU n) n false; rw [List.length_replicate] at this; rw [show (DV.int .u8 (.ofNat 0)) = eQ 0 from rfl, this, aA]
 exact ⟨_, rfl, aH.push h _⟩
def aHV : cE := λ args h => match args with
 | [.str s, .int .i64 (.negSucc _)] => some (.tup [.str [], .int .i64 (.ofNat 1)], h)
 | [.str s, .int .i64 (.ofNat n)] => bif Nat.blt 65536 n then some (.tup [.str [], .int .i64 (.ofNat 1)], h) else bif Nat.blt n s.length then some (.tup [.str [], .int .i64 (.ofNat 2)], h) else (yH (gA s n)).map λ v => (.tup [v, .int .i64 (.ofNat 0)], h)
 | _ => none
theorem aTK {s : Ln} {n : Nat} (h1 : n <= 65536) (h2 : s.length <= n) (h : H) : aHV [.str s, .int .i64 (.ofNat n)] h = some (.tup [.str (gA s n), .int .i64 (.ofNat 0)], h) := by
 show (bif Nat.blt 65536 n then _ else bif Nat.blt n s.length then _ else _) = _; rw [show Nat.blt 65536 n = false from jC (by omega), show Nat.blt n s.length = false from jC (by omega), iI]; rfl
theorem bIQ {E : bO} (hE : E 148 = some mV) (args : List DV) (h : H) (r : DV × H) (e : aHV args h = some r) : aTE E args h = some r := by
 unfold aHV at e; split at e
 · rename_i s a; rw [<- e]; show aCG E (.str s) (.int .i64 (.negSucc a)) h = _; unfold aCG; simp only [aBB _ (Int.negSucc_lt_zero a), aA, fP, bX, aE]
 · rename_i s n; show aCG E (.str s) (.int .i64 (.ofNat n)) h = _; unfold aCG; have d0 : decide (n < 0) = false := by simp
   simp only [aN, d0, aA, dX, dB, bY, bC]; by_cases c1 : 65536 < n
   · rw [dT c1, cond_true] at e; rw [decide_eq_true c1, aE, <- e]
   · rw [show Nat.blt 65536 n = false from jC (by omega), cond_false] at e
     rw [decide_eq_false c1, aC]; by_cases c2 : n < s.length
     · rw [dT c2, cond_true] at e; rw [decide_eq_true c2, aE, <- e]
     · rw [show Nat.blt n s.length = false from jC (by omega), cond_false, iI] at e
       rw [decide_eq_false c2, aC, fM (by omega) (by omega), aA, cO hE, aDr (by omega), aB, gM (by simp; unfold gV; omega), aA, <- e]; rfl
 · cases e
def aOY : bO := nZ 167 sN aAS
def aFn : bO := nZ 148 mV (nZ 131 mV aOY)
def LI : bO := SE aFn table aR
def aJl : bO := nZ 147 (sO LI) (nZ 101 aHV (nZ 140 wN (nZ 139 wN aFn)))
def bGg : bO := nZ 28 aFK aJl
def LT (m : Nat) : bO := SE bGg table m
theorem bKm (m : Nat) : cD (LT (m + 1)) 140 aDO := ⟨wN, by kernel_rfl, λ s t a h h1 h2 h3 h4 => aHU h1 h2 h3 h4 h⟩
theorem bIO (m : Nat) : cD (LT (m + 1)) 139 aDO := ⟨wN, by kernel_rfl, λ s t a h h1 h2 h3 h4 => aHU h1 h2 h3 h4 h⟩
theorem bKn (m : Nat) : cD (LT (m + 1)) 101 aRb := ⟨aHV, by kernel_rfl, λ s n h h1 h2 => aTK h1 h2 h⟩
theorem aUq (m : Nat) : cD (LT (m + 1)) 131 aHI := ⟨mV, by kernel_rfl, λ n h h1 => aDr h1 h⟩
theorem bKh (m : Nat) : cD (LT (m + 1)) 147 aDS := ⟨sO LI, by kernel_rfl, aMb LI⟩
theorem aDk (m : Nat) : cD (LT (m + 1)) 97 aDR := ⟨S97 (LT (m + 0)), by kernel_rfl, aTp  ⟩
theorem aCV (m : Nat) : cD (LT (m + 1)) 48 sK := ⟨S48 (LT (m + 0)), by kernel_rfl, aSY  ⟩
theorem aEJ (m : Nat) : cD (LT (m + 1)) 106 aDQ := ⟨aXc (LT (m + 0)), by kernel_rfl, aVa  ⟩
theorem aCJ (m : Nat) : cD (LT (m + 4)) 50 oM := ⟨S50 (LT (m + 3)), by kernel_rfl, aSj (F := LT (m + 2)) (G := LT (m + 1)) (by kernel_rfl) (by kernel_rfl) (aEJ m)⟩
theorem aND (m : Nat) : cD (LT (m + 2)) 108 aJm := ⟨aXb (LT (m + 1)), by kernel_rfl, aUc  (aEJ m)⟩
theorem aAq (m : Nat) : cD (LT (m + 5)) 51 nN := ⟨S51 (LT (m + 4)), by kernel_rfl, aNv (F := LT (m + 3)) (G := LT (m + 2)) (by kernel_rfl) (by kernel_rfl) (aND m)⟩
theorem aAr (m : Nat) : cD (LT (m + 1)) 52 nO := ⟨S52 (LT (m + 0)), by kernel_rfl, aNy  ⟩
theorem aJc (m : Nat) : cD (LT (m + 6)) 220 aCH := ⟨aWo (LT (m + 5)), by kernel_rfl, aOQ  (aCV (m + 4)) (aCJ (m + 1)) (aAq m) (aAr (m + 4))⟩
theorem aHY (m : Nat) : cD (LT (m + 3)) 49 sA := ⟨S49 (LT (m + 2)), by kernel_rfl, aNz (F := LT (m + 1)) (G := LT (m + 0)) (by kernel_rfl) (by kernel_rfl)⟩
theorem aQu (m : Nat) : aFv (LT (m + 2)) where
 k1 f h := by rw [cO (show LT (m + 2) 221 = some (bDj (LT (m + 1))) by kernel_rfl)]; rfl
 k2 d h := by rw [cO (show LT (m + 2) 217 = some (aWr (LT (m + 1))) by kernel_rfl)]; exact aOH d h
 s1 f l s h o := by rw [cO (show LT (m + 2) 222 = some (aWn (LT (m + 1))) by kernel_rfl)]; exact aOJ f l s h o
 s2 d l h r := by
   obtain ⟨B, b, s⟩ := (aDk m).call; rw [cO (show LT (m + 2) 218 = some (aWq (LT (m + 1))) by kernel_rfl)]; exact aOG b s d l h r
theorem bCr (m : Nat) : aMP (LT (m + 7)) where
 t1 f l s h o := by rw [cO (show LT (m + 7) 223 = some (aWm (LT (m + 6))) by kernel_rfl)]; exact aOI f l s h o
 t2 d l h r hl hok := by
   obtain ⟨B, b, s⟩ := (aJc m).call; rw [cO (show LT (m + 7) 219 = some (aWp (LT (m + 6))) by kernel_rfl)]; exact aOF b s d l h r hl hok
theorem tD (m : Nat) : cD (LT (m + 1)) 170 jR := ⟨aWv (LT (m + 0)), by kernel_rfl, aOe  ⟩
theorem nT (m : Nat) : cD (LT (m + 2)) 154 iU := ⟨aWC (LT (m + 1)), by kernel_rfl, aLx  (tD m)⟩
theorem aAL (m : Nat) : cD (LT (m + 2)) 156 wI := ⟨aWA (LT (m + 1)), by kernel_rfl, aOj  (tD m)⟩
theorem aEv (m : Nat) : cD (LT (m + 3)) 150 aAg := ⟨aWG (LT (m + 2)), by kernel_rfl, aIy  (nT m) (aAL m)⟩
theorem tE (m : Nat) : cD (LT (m + 1)) 169 sJ := ⟨aWw (LT (m + 0)), by kernel_rfl, aOl  ⟩
theorem aAK (m : Nat) : cD (LT (m + 2)) 151 sI := ⟨aWF (LT (m + 1)), by kernel_rfl, aOh  (tE m)⟩
theorem tJ (m : Nat) : cD (LT (m + 1)) 122 qZ := ⟨aWY (LT (m + 0)), by kernel_rfl, aUD  ⟩
theorem kV (m : Nat) : cD (LT (m + 3)) 124 mH := ⟨aWW (LT (m + 2)), by kernel_rfl, aNT  (nT m) (aAK m) (tJ (m + 1))⟩
theorem oE (m : Nat) : cD (LT (m + 4)) 120 qE := ⟨aXa (LT (m + 3)), by kernel_rfl, aSJ  (aEv m) (kV m)⟩
theorem rC (m : Nat) : cD (LT (m + 3)) 121 qD := ⟨aWZ (LT (m + 2)), by kernel_rfl, aLw  (aAK m)⟩
theorem aLH (m : Nat) : cD (LT (m + 2)) 152 aFu := ⟨aWE (LT (m + 1)), by kernel_rfl, aSP  (tD m) (tE m)⟩
theorem sZ (m : Nat) : cD (LT (m + 1)) 153 sF := ⟨aWD (LT (m + 0)), by kernel_rfl, aNS  ⟩
theorem uZ (m : Nat) : cD (LT (m + 3)) 123 wD := ⟨aWX (LT (m + 2)), by kernel_rfl, aSH  (aLH m) (sZ (m + 1))⟩
theorem aOf (m : Nat) : cD (LT (m + 5)) 66 aCo := ⟨S66 (LT (m + 4)), by kernel_rfl, aUw  (oE m) (rC (m + 1)) (tJ (m + 3)) (uZ (m + 1))⟩
theorem aLy (m : Nat) : cD (LT (m + 2)) 155 aFt := ⟨aWB (LT (m + 1)), by kernel_rfl, aSG  (tE m)⟩
theorem tC (m : Nat) : cD (LT (m + 3)) 125 sH := ⟨aWV (LT (m + 2)), by kernel_rfl, aNY  (aLy m) (sZ (m + 1))⟩
theorem yQ (m : Nat) : cD (LT (m + 1)) 126 tZ := ⟨aWU (LT (m + 0)), by kernel_rfl, aLz  ⟩
theorem aAM (m : Nat) : cD (LT (m + 2)) 127 xZ := ⟨aWT (LT (m + 1)), by kernel_rfl, aOk  (tJ m)⟩
theorem aNV (m : Nat) : cD (LT (m + 5)) 67 (xX kR) := ⟨S67 (LT (m + 4)), by kernel_rfl, aUt  (kV (m + 1)) (oE m) (tC (m + 1)) (yQ (m + 3)) (aAM (m + 2))⟩
theorem aOb (m : Nat) : cD (LT (m + 5)) 68 (xX nG) := ⟨S68 (LT (m + 4)), by kernel_rfl, aUv  (kV (m + 1)) (oE m) (tC (m + 1)) (aAM (m + 2))⟩
theorem aOi (m : Nat) : cD (LT (m + 5)) 70 (sG rW) := ⟨S70 (LT (m + 4)), by kernel_rfl, aUy  (kV (m + 1)) (oE m) (rC (m + 1)) (yQ (m + 3)) (uZ (m + 1))⟩
theorem aEq (m : Nat) : cD (LT (m + 3)) 128 nM := ⟨aWS (LT (m + 2)), by kernel_rfl, aIr  (nT m)⟩
theorem aGC (m : Nat) : cD (LT (m + 3)) 129 aCI := ⟨aWR (LT (m + 2)), by kernel_rfl, aLF  (nT m) (aAL m)⟩
theorem aNZ (m : Nat) : cD (LT (m + 5)) 69 (sG kW) := ⟨S69 (LT (m + 4)), by kernel_rfl, aUu  (kV (m + 1)) (oE m) (rC (m + 1)) (tC (m + 1)) (uZ (m + 1)) (aEq (m + 1)) (aGC (m + 1))⟩
theorem aLu (m : Nat) : cD (LT (m + 1)) 32 aFs := ⟨S32 (LT (m + 0)), by kernel_rfl, aSF  ⟩
theorem aAO (m : Nat) : cD (LT (m + 4)) 130 yD := ⟨aWQ (LT (m + 3)), by kernel_rfl, aOn  (kV m)⟩
theorem aAN (m : Nat) : cD (LT (m + 2)) 132 yC := ⟨aWP (LT (m + 1)), by kernel_rfl, aOm  (aLu m) (sZ m)⟩
theorem yP (m : Nat) : cD (LT (m + 3)) 90 tY := ⟨S90 (LT (m + 2)), by kernel_rfl, aLs  (bIO (m + 1)) (aAN m)⟩
theorem aGD (m : Nat) : cD (LT (m + 5)) 71 aAe := ⟨S71 (LT (m + 4)), by kernel_rfl, aLI  (aAO m) (yP (m + 1))⟩
theorem aIx (m : Nat) : cD (LT (m + 1)) 93 aCn := ⟨S93 (LT (m + 0)), by kernel_rfl, aOa  ⟩
theorem aGE (m : Nat) : cD (LT (m + 5)) 72 aAf := ⟨S72 (LT (m + 4)), by kernel_rfl, aLJ  (aAO m) (aUq (m + 3)) (aAN (m + 2))⟩
theorem aAJ (m : Nat) : cD (LT (m + 2)) 89 xY := ⟨S89 (LT (m + 1)), by kernel_rfl, aOd  (tJ m)⟩
theorem aGF (m : Nat) : cD (LT (m + 3)) 39 aJs := ⟨S39 (LT (m + 2)), by kernel_rfl, aLK  (aAJ m) (aIx (m + 1))⟩
theorem aEz (m : Nat) : cD (LT (m + 4)) 36 aJr := ⟨S36 (LT (m + 3)), by kernel_rfl, aIG  (aAJ (m + 1)) (yP m)⟩
theorem vA (m : Nat) : cD (LT (m + 1)) 53 qF := ⟨S53 (LT (m + 0)), by kernel_rfl, aSM  ⟩
theorem aAI (m : Nat) : cD (LT (m + 2)) 54 pH := ⟨S54 (LT (m + 1)), by kernel_rfl, aNX  (vA m)⟩
theorem aDt (m : Nat) : cD (LT (m + 3)) 77 uA := ⟨S77 (LT (m + 2)), by kernel_rfl, aGA  (vA (m + 1)) (aAI m)⟩
theorem aIv (m : Nat) : cD (LT (m + 4)) 25 rL := ⟨S25 (LT (m + 3)), by kernel_rfl, aNW  (vA (m + 2)) (aAI (m + 1)) (aDt m)⟩
theorem aDj (m : Nat) : cD (LT (m + 1)) 65 aBu := ⟨S65 (LT (m + 0)), by kernel_rfl, aTo  ⟩
theorem aGs (m : Nat) : cD (LT (m + 5)) 161 aAd := ⟨aWz (LT (m + 4)), by kernel_rfl, aLj (F := LT (m + 3)) (G := LT (m + 2)) (K := LT (m + 1)) (M := LT (m + 0)) (by kernel_rfl) (by kernel_rfl) (by kernel_rfl) (by kernel_rfl) (by kernel_rfl)⟩
theorem aBf (m : Nat) : cD (LT (m + 3)) 146 jR := ⟨aWH (LT (m + 2)), by kernel_rfl, aOS (F := LT (m + 1)) (G := LT (m + 0)) (by kernel_rfl) (by kernel_rfl)⟩
theorem rD (m : Nat) : cD (LT (m + 6)) 137 iU := ⟨aWO (LT (m + 5)), by kernel_rfl, aLL  (aGs m) (aBf (m + 2))⟩
theorem uV (m : Nat) : cD (LT (m + 1)) 87 sE := ⟨S87 (LT (m + 0)), by kernel_rfl, aSw  ⟩
theorem aGt (m : Nat) : cD (LT (m + 2)) 162 aAc := ⟨aWy (LT (m + 1)), by kernel_rfl, aLr (F := LT (m + 0)) (by kernel_rfl)⟩
theorem tT (m : Nat) : cD (LT (m + 3)) 142 wM := ⟨aWL (LT (m + 2)), by kernel_rfl, aOU  (aGt m)⟩
theorem aBg (m : Nat) : cD (LT (m + 4)) 145 wF := ⟨aWI (LT (m + 3)), by kernel_rfl, aOT  (tT m)⟩
theorem aAx (m : Nat) : cD (LT (m + 5)) 138 xU := ⟨aWN (LT (m + 4)), by kernel_rfl, aNE  (uV (m + 3)) (aBg m)⟩
theorem oD (m : Nat) : cD (LT (m + 7)) 95 oN := ⟨S95 (LT (m + 6)), by kernel_rfl, aSu  (rD m) (aAx (m + 1)) (uV (m + 5))⟩
theorem rA (m : Nat) : cD (LT (m + 5)) 99 qC := ⟨S99 (LT (m + 4)), by kernel_rfl, aKW  (aBg m)⟩
theorem aIj (m : Nat) : cD (LT (m + 1)) 141 aCl := ⟨aWM (LT (m + 0)), by kernel_rfl, aNM  ⟩
theorem vS (m : Nat) : cD (LT (m + 4)) 100 sQ := ⟨aXe (LT (m + 3)), by kernel_rfl, aTr  (aBf m) (tT m) (bKh (m + 2))⟩
theorem aCM (m : Nat) : cD (LT (m + 8)) 94 aBp := ⟨S94 (LT (m + 7)), by kernel_rfl, aSx  (oD m) (rA (m + 2)) (aIj (m + 6)) (vS (m + 3))⟩
theorem aGn (m : Nat) : cD (LT (m + 9)) 40 (jQ (λ T p => mkT T p 2)) := ⟨S40 (LT (m + 8)), by kernel_rfl, aLa  (aDj (m + 7)) (aCM m)⟩
theorem aEi (m : Nat) : cD (LT (m + 9)) 41 (jQ (λ T p => mkT T p 1)) := ⟨S41 (LT (m + 8)), by kernel_rfl, aIl  (aCM m)⟩
theorem kU (m : Nat) : cD (LT (m + 7)) 85 mG := ⟨S85 (LT (m + 6)), by kernel_rfl, aNK  (rD m) (aAx (m + 1))⟩
theorem mJ (m : Nat) : cD (LT (m + 1)) 86 nP := ⟨S86 (LT (m + 0)), by kernel_rfl, aNO  ⟩
theorem aMr (m : Nat) : cD (LT (m + 1)) 143 aFM := ⟨aWK (LT (m + 0)), by kernel_rfl, aTq  ⟩
theorem vQ (m : Nat) : cD (LT (m + 4)) 96 sP := ⟨S96 (LT (m + 3)), by kernel_rfl, aTn  (tT m) (aMr (m + 2))⟩
theorem aEd (m : Nat) : cD (LT (m + 8)) 42 (jQ kR) := ⟨S42 (LT (m + 7)), by kernel_rfl, aId  (kU m) (mJ (m + 6)) (oD m) (vQ (m + 3))⟩
theorem aGl (m : Nat) : cD (LT (m + 8)) 43 (jQ nG) := ⟨S43 (LT (m + 7)), by kernel_rfl, aKX  (kU m) (uV (m + 6)) (aDk (m + 6)) (oD m) (vQ (m + 3))⟩
theorem aIi (m : Nat) : cD (LT (m + 8)) 45 (sD rW) := ⟨S45 (LT (m + 7)), by kernel_rfl, aNL  (kU m) (oD m) (mJ (m + 6)) (rA (m + 2)) (vS (m + 3))⟩
theorem aGM (m : Nat) : cD (LT (m + 1)) 144 aPL := ⟨aWJ (LT (m + 0)), by kernel_rfl, aMl  ⟩
theorem aEA (m : Nat) : cD (LT (m + 7)) 98 nM := ⟨S98 (LT (m + 6)), by kernel_rfl, aIH  (rD m) (aGM (m + 5))⟩
theorem aEe (m : Nat) : cD (LT (m + 8)) 44 (sD kW) := ⟨S44 (LT (m + 7)), by kernel_rfl, aIf  (kU m) (oD m) (aEA m) (rA (m + 2)) (vQ (m + 3)) (vS (m + 3))⟩
theorem aAy (m : Nat) : cD (LT (m + 8)) 83 xV := ⟨S83 (LT (m + 7)), by kernel_rfl, aNI  (kU m) (mJ (m + 6))⟩
theorem aAB (m : Nat) : cD (LT (m + 1)) 102 xW := ⟨aXd (LT (m + 0)), by kernel_rfl, aNN  ⟩
theorem yN (m : Nat) : cD (LT (m + 2)) 92 tW := ⟨S92 (LT (m + 1)), by kernel_rfl, aKV  (bKm m) (aAB m)⟩
theorem aGp (m : Nat) : cD (LT (m + 9)) 46 zV := ⟨S46 (LT (m + 8)), by kernel_rfl, aLe  (aAy m) (yN (m + 6))⟩
theorem aGq (m : Nat) : cD (LT (m + 9)) 47 aAa := ⟨S47 (LT (m + 8)), by kernel_rfl, aLf  (aAy m) (bKn (m + 7)) (aAB (m + 7))⟩
theorem aIh (m : Nat) : cD (LT (m + 1)) 84 aCj := ⟨S84 (LT (m + 0)), by kernel_rfl, aNH  ⟩
theorem aGo (m : Nat) : cD (LT (m + 1)) 86 aAb := ⟨S86 (LT (m + 0)), by kernel_rfl, aLb  ⟩
theorem aAA (m : Nat) : cD (LT (m + 2)) 91 xT := ⟨S91 (LT (m + 1)), by kernel_rfl, aNJ  (mJ m) (aGo m)⟩
theorem aGr (m : Nat) : cD (LT (m + 3)) 38 aJo := ⟨S38 (LT (m + 2)), by kernel_rfl, aLg  (aAA m) (aIh (m + 1))⟩
theorem aEj (m : Nat) : cD (LT (m + 3)) 37 aJn := ⟨S37 (LT (m + 2)), by kernel_rfl, aIm  (aAA m) (yN m)⟩
theorem aIn (m : Nat) : cD (LT (m + 8)) 34 aCk := ⟨S34 (LT (m + 7)), by kernel_rfl, aNP  (kU m) (mJ (m + 6)) (aQu (m + 5))⟩
theorem aEf (m : Nat) : cD (LT (m + 10)) 24 wC := ⟨S24 (LT (m + 9)), by kernel_rfl, aIg (F := LT (m + 8)) (G := LT (m + 7)) (by kernel_rfl) (by kernel_rfl) (by kernel_rfl) (aCV (m + 7)) (aAr (m + 7)) (aCJ (m + 3)) (aHY (m + 4)) (aAq (m + 2)) (aQu (m + 5)) (bCr m)⟩
theorem aKZ (m : Nat) : cD (LT (m + 2)) 21 aFr := ⟨S21 (LT (m + 1)), by kernel_rfl, aSv  (aDj m)⟩
theorem aOK (m : Nat) : cD (LT (m + 1)) 20 aKC := ⟨S20 (LT (m + 0)), by kernel_rfl, aVy  ⟩
theorem aUE (m : Nat) : aDP (LT (m + 10)) where
 nw := aKZ (m + 8)
 md := aGn (m + 1)
 cr := aEi (m + 1)
 un := aEd (m + 2)
 rm := aGl (m + 2)
 rn := aEe (m + 2)
 ln := aIi (m + 2)
 wr := aGp (m + 1)
 tr := aGq (m + 1)
 tx := aEf (m + 0)
theorem bGf (m : Nat) : aKF (LT (m + 10)) where
 nw := ⟨S22 (LT (m + 9)), by kernel_rfl, λ A h hA => aSK A h hA⟩
 md := aOf (m + 5)
 un := aNV (m + 5)
 rm := aOb (m + 5)
 rn := aNZ (m + 5)
 ln := aOi (m + 5)
 wr := aGD (m + 5)
 tr := aGE (m + 5)
 tx := aIv (m + 6)
theorem bJI (m : Nat) : aJt (LT (m + 10)) where
 st := aIn (m + 2)
 rdn := aGr (m + 7)
 wrn := aEj (m + 7)
 rrdn := aGF (m + 7)
 rwrn := aEz (m + 6)
theorem bTL (m : Nat) : aFw (LT (m + 11)) where
 dd := ⟨S29 (LT (m + 10)), by kernel_rfl, bCW (aUE m) (bGf m)⟩
 fw := aOK (m + 10)
 P := aUE (m + 1)
 D := bGf (m + 1)
 aw := by kernel_rfl
def opD (l : List DV) : OpP := match l with
 | [.int _ a, .int _ b, .int _ c, .str p, .str q, .str t] => ⟨a, b, c, p, q, t⟩
 | _ => op0
theorem bIW : ∀ {l : List DV}, aFq [.i, .i, .i, .s, .s, .s] l -> opV (opD l) = l /\ (opD l).ok
 | [a, b, c, d, e, f], h => by
   obtain ⟨⟨x1, rfl, y1⟩, ⟨x2, rfl, y2⟩, ⟨x3, rfl, y3⟩, ⟨s1, rfl, z1⟩, ⟨s2, rfl, z2⟩, ⟨s3, rfl, z3⟩, _⟩ := h; exact ⟨rfl, y1, y2, y3, z1, z2, z3⟩
 | [], h => h.elim
 | [_], h => h.2.elim
 | [_, _], h => h.2.2.elim
 | [_, _, _], h => h.2.2.2.elim
 | [_, _, _, _], h => h.2.2.2.2.elim
 | [_, _, _, _, _], h => h.2.2.2.2.2.elim
 | _ :: _ :: _ :: _ :: _ :: _ :: _ :: _, h => h.2.2.2.2.2.2.elim
theorem aUJ : ∀ {L : List (List DV)}, (∀ l ∈ L, aFq [.i, .i, .i, .s, .s, .s] l) -> L.flatten = uI (L.map opD) /\ ∀ o ∈ L.map opD, o.ok
 | [], _ => ⟨rfl, λ o ho => by cases ho⟩
 | l :: L, h => by
   obtain ⟨a, b⟩ := bIW (h l (by simp))
   obtain ⟨c, d⟩ := aUJ (L := L) λ x hx => h x (by simp [hx])
   refine ⟨?_, λ o ho => ?_⟩
   · show l ++ L.flatten = opV (opD l) ++ uI (L.map opD); rw [a, c]
   · rcases List.mem_cons.1 ho with rfl | ho
     · exact b
     · exact d o ho
theorem aMM : (S28 (SE aJl table 60) [] H0).map (λ x => x.1) = some (.bool true) := by kernel_rfl
theorem aNb : gE Tryz.prog 167 sN := aID λ s c w h1 h2 => Tryz.strings_Repeat s c w h1 h2
theorem aHH : lD Tryz.prog aOY := kN (by kernel_rfl) aNb tO
theorem aPK : gE Tryz.prog 148 mV := gE.forget ((tab.ok 148 aTA rfl).2 aOY aHH) (aTT rfl)
theorem aNa : gE Tryz.prog 131 mV := gE.forget ((tab.ok 131 aTD rfl).2 aAS tO) aSD
theorem aCi : lD Tryz.prog aFn := kN (tab.ok 148 aTA rfl).1 aPK (kN (tab.ok 131 aTD rfl).1 aNa aHH)
theorem bGi : lD Tryz.prog LI := aRa aCi tab aR
theorem aYl : gE Tryz.prog 140 wN := gE.forget ((tab.ok 140 aTB rfl).2 aAS tO) bIP
theorem aTJ : gE Tryz.prog 139 wN := gE.forget ((tab.ok 139 aTC rfl).2 aAS tO) bBL
theorem aYm : gE Tryz.prog 101 aHV := gE.mono ((tab.ok 101 aTE rfl).2 aFn aCi) (bIQ (E := aFn) (by kernel_rfl))
theorem aNd : gE Tryz.prog 147 (sO LI) := gE.or (aTe ((tab.ok 147 aJq rfl).2 LI bGi) (by omega) λ b n c i vb vo vc vop pl h L N V t => aGK b n c i vb vo vc vop pl h L N V t) ((tab.ok 147 aJq rfl).2 LI bGi)
theorem aHG : lD Tryz.prog aJl := kN (tab.ok 147 aJq rfl).1 aNd (kN (tab.ok 101 aTE rfl).1 aYm (kN (tab.ok 140 aTB rfl).1 aYl (kN (tab.ok 139 aTC rfl).1 aTJ aCi)))
theorem aKE : gE Tryz.prog 28 aFK := aNG (B := aJl) (n := 60) aHG tab (show Tr.at_ table 28 = some S28 by kernel_rfl) aMM
theorem aWe : lD Tryz.prog bGg := kN (tab.ok 28 S28 rfl).1 aKE aHG
end Go.Proofs.YtmafhiogonejfaaGreatDoor
end
