/- Specs. No condition beyond the theorems' own. -/
import Derived.Test.YthpciaidbgjoeaaGreatVc
set_option linter.unusedVariables false
set_option linter.unusedSimpArgs false
namespace Go.Proofs.YthpciaidbgjoeaaGreat
open Go.DI
theorem vC {E : aQ} (h : E 17 = some vL) (g : H) : aB E 17 [] g = some (.bool true, g) := by rw [aT h]; rfl
theorem sneF (s : Ln) : cW (.str s) (.str s) = some (.bool false) := by rw [oJ]; simp
structure Pt (A : Re) (S : List cZ) (sv lb z : Nat) (g : H) (v : DV) (L : List DV) : Prop where
 r : gF g v L
 p : ∀ b o k c op, v = .slc b o k c op -> ¬ rng Ob A b /\ ¬ svF S sv lb b /\ b < z
section
variable {A A' : Re} {S : List cZ} {sv lb z : Nat} {g g' : H} {v : DV} {L : List DV}
theorem Pt.mv (q : Pt A S sv lb z g v L) (m : Mv S sv lb A g A' g') (hz : z <= g.size) : Pt A' S sv lb z g' v L :=
 ⟨q.r.off m.off λ b o k c op e h => h.elim (q.p b o k c op e).1 (q.p b o k c op e).2.1, λ b o k c op e => by
   obtain ⟨h1, h2, h3⟩ := q.p b o k c op e; exact ⟨(m.keep (Nat.lt_of_lt_of_le h3 hz) h1 h2).2.2, h2, h3⟩⟩
theorem Pt.off (q : Pt A S sv lb z g v L) {F : Nat -> Prop} (k : fJ F g g') (hF : ∀ c, F c -> z <= c) : Pt A S sv lb z g' v L :=
 ⟨q.r.off k λ b o n c op e h => by have := (q.p b o n c op e).2.2; have := hF _ h; omega, q.p⟩
end
structure Ids (A : Re) (S : List cZ) (sv lb z : Nat) (g : H) (u : DV) (j : Nat) : Prop where
 o : gM 0 1 g u (eK (List.range j))
 p : ∀ c q, u = .slc c 0 q q true -> ¬ rng Ob A c /\ ¬ svF S sv lb c /\ z <= c
section
variable {A A' : Re} {S : List cZ} {sv lb z : Nat} {g g' : H} {u : DV} {j : Nat}
theorem gM.lt' {n0 es : Nat} {h : H} {v : DV} {L : List DV} (o : gM n0 es h v L) {c q : Nat} (e : v = .slc c 0 q q true) : c < h.size := by
 rcases o with ⟨h1, _⟩ | ⟨b, n, pl, t, h1, h2, h3, h4, _⟩
 · rw [h1] at e; cases e
 · rw [h4] at e; cases e; exact h2
theorem Ids.mv (q : Ids A S sv lb z g u j) (m : Mv S sv lb A g A' g') : Ids A' S sv lb z g' u j :=
 ⟨gM.pre q.o m.off λ c n e h => h.elim (q.p c n e).1 (q.p c n e).2.1, λ c n e => by
   obtain ⟨h1, h2, h3⟩ := q.p c n e; exact ⟨(m.keep (gM.lt' q.o e) h1 h2).2.2, h2, h3⟩⟩
theorem Ids.row (q : Ids A S sv lb z g u j) : gF g u (eK (List.range j)) := by
 rcases q.o with ⟨h1, h2⟩ | ⟨b, n, pl, t, h1, h2, h3, h4, h5, h6⟩
 · exact .inl ⟨h2, .inl h1⟩
 · refine .inr ⟨b, 0, n, true, by rw [h3, Nat.mul_one]; exact h4, by omega, h2, λ i x hi => ?_⟩
   have hlt := gU hi; unfold rdCell; rw [h5, Nat.zero_add]; simp only; rw [if_pos (by omega)]
   exact h6 i x hi
end
section
variable {T : Nat -> Ln} {N : Nat -> Nat} {n lost t : Nat} {hs h' : H} {A : Re} {g g' : H} {pr pa pm sv lb z : Nat} {S : List cZ} {X : List eX} {dv u : DV} {l : List (Ln)}
theorem aLv {E G : aQ} (hmo : ∀ a b, aB E 28 a b = S28 G a b) (hw : rdCell hs.get 47 2 = some (.int .i64 (.ofNat 4))) (r : iX (Vt N) hs 47 46 A g pa pm sv lb S X) {text : Ln} (ht : text = [] \/ 1536 < text.length) :
   W (S9 E [.ptr pa 0, .int .i64 (.ofNat 0), .str text, .int .i64 (.negSucc 0)] g) λ w g' => w = .tup [.int .i64 (.ofNat 0), .int .i64 (.ofNat 2)] /\ g' = g := by
 obtain ⟨wd, lw, yw⟩ := r.cell hw; have := cL yw; subst this; have em : W (S28 G [.ptr pa 0] g) λ v g' => v = .int .i64 (.ofNat 1536) /\ g' = g := by
   show W (aGh G (.ptr pa 0) g) _; unfold aGh
   repeat' (first | (with_reducible first | refine sT ?_ | refine sF ?_ | refine g1 ?_ | refine g2 ?_ | refine g3 ?_ | refine g4 ?_) | ((with_reducible apply sV); first | exact lw | exact dF) | exact W.ret ⟨rfl, rfl⟩ | with_reducible refine W.ret ?_)
 obtain ⟨_, gx, em, rfl, rfl⟩ := em; show W (aTz E (.ptr pa 0) (.int .i64 (.ofNat 0)) (.str text) (.int .i64 (.negSucc 0)) gx) _; unfold aTz; rcases ht with rfl | ht
 · repeat' (first | (with_reducible first | refine sT ?_ | refine sF ?_ | refine g1 ?_ | refine g2 ?_ | refine g3 ?_ | refine g4 ?_) | with_reducible refine g5 ?_ | ((with_reducible apply sV); first | exact (show cF (.str []) (.str []) = some (.bool true) from rfl) | exact pickT _ _ | exact pickF _ _ | exact dF) | exact W.ret ⟨rfl, rfl⟩ | with_reducible refine W.ret ?_)
 · have hne : cF (.str text) (.str []) = some (.bool false) := by
     cases text with
     | nil => simp at ht
     | cons a t => rfl
   repeat' (first | (with_reducible first | refine sT ?_ | refine sF ?_ | refine g1 ?_ | refine g2 ?_ | refine g3 ?_ | refine g4 ?_) | with_reducible refine g5 ?_ | rw [hmo] | refine sW em ?_ | ((with_reducible apply sV); first | exact hne | exact cQ _ | exact pickT _ _ | exact pickF _ _ | exact dF) | exact W.ret ⟨rfl, rfl⟩ | with_reducible refine W.ret ?_)
structure WrE (E : aQ) (N : Nat -> Nat) : Prop where
 aw : E 17 = some vL
 ok : ∀ {text : Ln} {j : Nat} {ls : Nat -> List Fr} {hs h' : H} {A : Re} {g : H} {pa pm sv lb : Nat} {S : List cZ} {X : List eX}, aP text = true -> 1 <= text.length -> text.length <= 1536 -> S.length = 5 -> j < 6 -> N j = text.length -> aKR ls j 0 -> Wr j hs h' -> iX (Vt N) hs 47 46 A g pa pm sv lb S X -> kS X ls (λ _ => false) (λ _ => false) ->
   W (aB E 9 [.ptr pa 0, .int .i64 (.ofNat 0), .str text, .int .i64 (.negSucc 0)] g) λ w g' => w = .tup [.int .i64 (.ofNat j), .int .i64 (.ofNat 0)] /\ ∃ A' X', Mv S sv lb A g A' g' /\ iX (Vt N) h' 47 46 A' g' pa pm sv lb S X' /\ kS X' (xA ls j (tT text 4) 4) (λ _ => false) (λ _ => false)
 bad : ∀ {text : Ln} {hs : H} {A : Re} {g : H} {pa pm sv lb : Nat} {S : List cZ} {X : List eX}, rdCell hs.get 47 2 = some (.int .i64 (.ofNat 4)) -> iX (Vt N) hs 47 46 A g pa pm sv lb S X -> text = [] \/ 1536 < text.length ->
   W (aB E 9 [.ptr pa 0, .int .i64 (.ofNat 0), .str text, .int .i64 (.negSucc 0)] g) λ w g' => w = .tup [.int .i64 (.ofNat 0), .int .i64 (.ofNat 2)] /\ g' = g
theorem aRZ {E : aQ} (K : WrE E N) {Kf : H -> Bool} (hn : l.length = n) (n6 : n <= 6) (hT : ∀ j, j < n -> l[j]? = some (T j)) (hok : ∀ j, j < n -> aP (T j) = true) (hN : ∀ j, j < n -> 1 <= (T j).length -> (T j).length <= 1536 -> N j = (T j).length) (hS : S.length = 5) (lv dw : DV)
   (hend : ∀ A g u X hs, Kf hs = true -> (∀ j, j < n -> 1 <= (T j).length /\ (T j).length <= 1536) -> iX (Vt N) hs 47 46 A g pa pm sv lb S X -> kS X (kQ (LfT T) n) (λ _ => false) (λ _ => false) -> Pt A S sv lb z g dv (dR l) -> z <= g.size -> Ids A S sv lb z g u n -> W (aTB E dv lv dw (.ptr pa 0) u g) λ v _ => v = .bool true) :
   ∀ (k j f : Nat) (A : Re) (g : H) (u : DV) (X : List eX) (hs : H), j + k = n -> wrs k j hs Kf = true -> (∀ i, i < j -> 1 <= (T i).length /\ (T i).length <= 1536) -> iX (Vt N) hs 47 46 A g pa pm sv lb S X -> kS X (kQ (LfT T) j) (λ _ => false) (λ _ => false) -> Pt A S sv lb z g dv (dR l) -> z <= g.size -> Ids A S sv lb z g u j ->
   W (aTy E dv lv dw (.ptr pa 0) (f + (k + 1)) u (.int .i64 (.ofNat j)) g) λ v _ => v = .bool true := by
 have hl : ∀ {g A}, Pt A S sv lb z g dv (dR l) -> aO dv = some (.int .i64 (.ofNat n)) := λ q => by
   rw [q.r.len]; unfold dR; rw [List.length_map, hn]
 intro k
 induction k with
 | zero =>
   intro j f A g u X hs hk hw hv r hX q hz ids; have hj : j = n := by omega
   subst hj; have hl' := hl q; show W (bAB E dv lv dw (.ptr pa 0) (aTy E dv lv dw (.ptr pa 0) f) u (.int .i64 (.ofNat j)) g) _; unfold bAB
   repeat' (first | (with_reducible first | refine sT ?_ | refine sF ?_ | refine g1 ?_ | refine g2 ?_ | refine g3 ?_ | refine g4 ?_) | ((with_reducible apply sV); first | exact hl' | exact dF) | exact W.ret ⟨rfl, rfl⟩ | with_reducible refine W.ret ?_)
   exact hend A g u X hs hw hv r hX q hz ids
 | succ k ih =>
   intro j f A g u X hs hk hw hv r hX q hz ids; have hj : j < n := by omega
   have hl' := hl q; obtain ⟨h1, wj, hw1⟩ := bGs (show wrB j hs (λ h => wrs k (j + 1) h Kf) = true from hw)
   have hgl : (dR l)[j]? = some (.str (T j)) := by unfold dR; rw [List.getElem?_map, hT j hj]; rfl
   obtain ⟨b, o, c1, c2⟩ := q.r.at hgl .i64; show W (bAB E dv lv dw (.ptr pa 0) (aTy E dv lv dw (.ptr pa 0) (f + (k + 1))) u (.int .i64 (.ofNat j)) g) _; unfold bAB; by_cases h3 : 3000 < (T j).length
   · repeat' (first | (with_reducible first | refine sT ?_ | refine sF ?_ | refine g1 ?_ | refine g2 ?_ | refine g3 ?_ | refine g4 ?_) | rw [vC K.aw] | ((with_reducible apply sV); first | exact hl' | exact c1 | exact c2 | exact cQ _ | exact dF) | exact W.ret ⟨rfl, rfl⟩ | with_reducible refine W.ret ?_)
     exact ⟨.bool true, g, rfl, rfl⟩
   by_cases hval : 1 <= (T j).length /\ (T j).length <= 1536
   · obtain ⟨_, ga, e1, rfl, A', X', m1, r1, x1⟩ := K.ok (hok j hj) hval.1 hval.2 hS (by omega) (hN j hj hval.1 hval.2) (aMe (LfT T) (by omega : j < 6)) wj r hX
     have q1 := q.mv m1 hz; have i1 := ids.mv m1; have z1 := m1.off.size
     repeat' (first | (with_reducible first | refine sT ?_ | refine sF ?_ | refine g1 ?_ | refine g2 ?_ | refine g3 ?_ | refine g4 ?_) | refine sW e1 ?_ | ((with_reducible apply sV); first | exact hl' | exact c1 | exact c2 | exact cQ _ | exact dF) | exact W.ret ⟨rfl, rfl⟩ | with_reducible refine W.ret ?_)
     refine sL rfl rfl λ gb z2 k2 o2 => ?_
     have hsrc : dV 1 gb.get (.slc ga.size 0 1 1 false) = some [.int .i64 (.ofNat j)] := o2.cells (o := 0) (k := 1) (Nat.le_of_ble_eq_true rfl); have hlen : (eK (List.range j)).length = j := by unfold eK; rw [List.length_map, List.length_range]
     obtain ⟨v3, gc, f3, o3, k3, w3⟩ := eapp (gM.pre i1.o (k2.off (λ _ => False)) λ _ _ _ => id) (x := .slc ga.size 0 1 1 false) (S := [.int .i64 (.ofNat j)]) (k := 1) (bytes := 8) (Nat.zero_le _) rfl hsrc rfl rfl (by decide) (λ q hq => by
       rw [hlen] at hq; unfold aY; omega)
     obtain ⟨mm, ev⟩ := w3 (by omega)
     have k4 : fJ (λ c => ∃ q, u = .slc c 0 q q true) ga gc := (k2.off _).trans k3
     have r4 : iX (Vt N) h1 47 46 A' gc pa pm sv lb S X' := r1.other k4 (λ c ⟨q, e⟩ => (i1.p c q e).1) (λ c ⟨q, e⟩ => (i1.p c q e).2.1)
     have q4 := q1.off k4 λ c ⟨q, e⟩ => (i1.p c q e).2.2
     refine sW f3 ?_
     repeat' (first | (with_reducible first | refine sT ?_ | refine sF ?_ | refine g1 ?_ | refine g2 ?_ | refine g3 ?_ | refine g4 ?_) | ((with_reducible apply sV); exact dF) | exact W.ret ⟨rfl, rfl⟩ | with_reducible refine W.ret ?_)
     refine ih (j + 1) f A' gc v3 X' h1 (by omega) hw1 (λ i hi => ?_) r4 (x1.congr λ i hi => ⟨aUv (LfT T) (λ i _ => rfl) hi, rfl, rfl⟩) q4 (by have := k4.size; omega) ⟨?_, λ c q e => ?_⟩
     · by_cases e : i = j
       · rw [e]; exact hval
       · exact hv i (by omega)
     · have : eK (List.range (j + 1)) = eK (List.range j) ++ [.int .i64 (.ofNat j)] := by
         unfold eK; rw [List.range_succ, List.map_append]; rfl
       rw [this]; exact o3
     · rw [ev] at e; cases e; have zz := m1.off.size; exact ⟨λ hr => by have := oS r1.hr hr; omega, λ hr => by have := r1.q.in_ hr; omega, by omega⟩
   · have ht : T j = [] \/ 1536 < (T j).length := by
       cases h : T j with
       | nil => exact .inl rfl
       | cons a t => rw [h] at hval; exact .inr (by simp only [List.length_cons] at hval ⊢; omega)
     obtain ⟨_, ga, e1, rfl, rfl⟩ := K.bad wj.wd r ht; rcases ht with ht | ht
     · rw [ht] at c2 e1
       repeat' (first | (with_reducible first | refine sT ?_ | refine sF ?_ | refine g1 ?_ | refine g2 ?_ | refine g3 ?_ | refine g4 ?_) | refine sW e1 ?_ | with_reducible refine g5 ?_ | rw [vC K.aw] | ((with_reducible apply sV); first | exact hl' | exact c1 | exact c2 | exact cQ _ | exact (show cF (.str []) (.str []) = some (.bool true) from rfl) | exact pickT _ _ | exact pickF _ _ | exact dF) | exact W.ret ⟨rfl, rfl⟩ | with_reducible refine W.ret ?_)
       exact ⟨.bool true, ga, rfl, rfl⟩
     · have hne : cF (.str (T j)) (.str []) = some (.bool false) := by
         cases h : T j with
         | nil => rw [h] at ht; simp at ht
         | cons a t => rfl
       repeat' (first | (with_reducible first | refine sT ?_ | refine sF ?_ | refine g1 ?_ | refine g2 ?_ | refine g3 ?_ | refine g4 ?_) | refine sW e1 ?_ | with_reducible refine g5 ?_ | rw [vC K.aw] | ((with_reducible apply sV); first | exact hl' | exact c1 | exact c2 | exact cQ _ | exact hne | exact pickT _ _ | exact pickF _ _ | exact dF) | exact W.ret ⟨rfl, rfl⟩ | with_reducible refine W.ret ?_)
       exact ⟨.bool true, ga, rfl, rfl⟩
end
end Go.Proofs.YthpciaidbgjoeaaGreat
