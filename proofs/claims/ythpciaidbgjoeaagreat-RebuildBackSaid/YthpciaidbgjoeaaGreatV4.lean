/- Specs. No condition beyond the theorems' own. -/
import Derived.Test.YthpciaidbgjoeaaGreatV3
set_option linter.unusedVariables false
set_option linter.unusedSimpArgs false
namespace Go.Proofs.YthpciaidbgjoeaaGreat
open Go.DI
def frg (L : Nat -> Ln) (dn as_ : Nat -> Bool) (i : Nat) : Ln := if (as_ i && !dn i) = true then L i else []
def r4 (f : Nat -> DV) : List DV := [f 0, f 1, f 2, f 3]
theorem lt4 {i : Nat} (h : i < 4) : i = 0 \/ i = 1 \/ i = 2 \/ i = 3 := by omega
theorem aCT {f : Nat -> DV} {i : Nat} (h : i < 4) : (r4 f)[i]? = some (f i) := by
 rcases lt4 h with rfl | rfl | rfl | rfl <;> rfl
theorem qG {f : Nat -> DV} {v : DV} {i : Nat} (h : i < 4) : (r4 f).set i v = r4 (λ j => if j = i then v else f j) := by
 rcases lt4 h with rfl | rfl | rfl | rfl <;> rfl
theorem jK {f g : Nat -> DV} (h : ∀ i, i < 4 -> f i = g i) : r4 f = r4 g := by
 unfold r4; rw [h 0 (by decide), h 1 (by decide), h 2 (by decide), h 3 (by decide)]
theorem sM {by_ n : Nat} {z : DV} {h : H} {kk : DV -> H -> Option (DV × H)} {Q : DV -> H -> Prop} (hn : n < 1000) (hb : by_ * n < 140737488355328) (r : ∀ h1, h1.size = h.size + 1 -> aX h h1 -> aR h1 h.size (List.replicate n z) -> W (kk (.slc h.size 0 n n false) h1) Q) : W (jN 1 by_ z (.int .i64 (.ofNat n)) (.int .i64 (.ofNat n)) h kk) Q := by
 have e : jN 1 by_ z (.int .i64 (.ofNat n)) (.int .i64 (.ofNat n)) h kk = kk (.slc h.size 0 n n false) (h.push (.blk ⟨n, 1, false, true, Tr.full z 48⟩)) := by
   simp only [jN]; rw [Nat.ble_eq_true_of_le (Nat.le_refl n), dK hb, dK (by omega : n < 140737488355328)]
   simp only [Bool.and_self, cond_true, H.pushK_eq]
 rw [e]; refine r _ (H.size_push _ _) ⟨by rw [H.size_push]; omega, λ c hc => by rw [H.get_push, if_neg (by omega)]⟩ ⟨by rw [H.size_push]; omega, 1, Tr.full z 48, by rw [H.get_push, if_pos rfl, List.length_replicate], λ j x hj => ?_⟩
 rw [List.getElem?_replicate] at hj; split at hj
 · cases hj; exact Tr.at_full z (by omega)
 · cases hj
structure RdP (E : aQ) (P : H -> Prop) (R : Nat -> Prop) (z pa id : Nat) (L : Nat -> Ln) (dn : Nat -> Bool) : Prop where
 lt : ∀ c, R c -> c < z
 st : ∀ g g', P g -> fJ (λ c => z <= c) g g' -> P g'
 fr : ∀ g i, i < 4 -> P g -> z <= g.size -> W (aB E 68 [.ptr pa 0, .int .i64 (.ofNat id), .int .i64 (.ofNat i)] g) λ v g' => (∃ e, v = .tup [.str (if dn i then [] else L i), .int .i64 (.ofNat (if dn i then e + 1 else 0))]) /\ fJ R g g' /\ P g'
structure StB where
 x : Nat
 fb : Nat
 ab : Nat
 cb : Nat
 c : Nat
def bGA (id n pa : Nat) (b : StB) : List DV := [.ptr pa 0, .int .i64 (.ofNat id), .int .i64 (.ofNat 2), .int .i64 (.ofNat 0), .int .i64 (.ofNat 1), .int .i64 (.ofNat n), .slc b.c 0 4 4 true, .int .i64 (.ofNat (eP n 4)), .slc b.fb 0 4 4 false, .slc b.ab 0 4 4 false, .slc b.cb 0 4 4 false]
structure tO (g : H) (z id n pa : Nat) (b : StB) (L : Nat -> Ln) (dn as_ : Nat -> Bool) : Prop where
 o : aR g b.x (bGA id n pa b)
 f : aR g b.fb (r4 λ i => .str (frg L dn as_ i))
 a : aR g b.ab (r4 λ i => .bool (as_ i))
 c : aR g b.cb (r4 λ i => .bool (as_ i && !dn i))
 ne : b.fb < b.ab /\ b.ab < b.cb /\ b.cb < b.x
 rg : z <= b.fb
def stF (R : Nat -> Prop) (b : StB) (c : Nat) : Prop := R c \/ c = b.fb \/ c = b.ab \/ c = b.cb
section
variable {E : aQ} {P : H -> Prop} {R : Nat -> Prop} {z pa id n : Nat} {g g' : H} {L : Nat -> Ln} {dn : Nat -> Bool}
theorem bDd (p : RdP E P R z pa id L dn) (r : P g) (hL : ∀ i, i < 4 -> (L i).length = eP n 4) {b : StB} {as_ : Nat -> Bool} (t : tO g z id n pa b L dn as_) {i : Nat} (hi : i < 4) :
   W (S39 E [.ptr b.x 0, .int .i64 (.ofNat i)] g) λ v g' => v = .bool (!dn i) /\ fJ (stF R b) g g' /\ P g' /\ tO g' z id n pa b L dn (λ j => if j = i then true else as_ j) := by
 obtain ⟨ne1, ne2, ne3⟩ := t.ne; have o : aR g b.x [.ptr pa 0, .int .i64 (.ofNat id), .int .i64 (.ofNat 2), .int .i64 (.ofNat 0), .int .i64 (.ofNat 1), .int .i64 (.ofNat n), .slc b.c 0 4 4 true, .int .i64 (.ofNat (eP n 4)), .slc b.fb 0 4 4 false, .slc b.ab 0 4 4 false, .slc b.cb 0 4 4 false] := t.o; have hz : z <= g.size := by have := t.o.1; have := t.rg; omega
 show W (aRs E (.ptr b.x 0) (.int .i64 (.ofNat i)) g) _; unfold aRs aRr; have iA := λ (c : Nat) (op : Bool) => aMc (b := c) (c := 4) (op := op) hi
 cases ha : as_ i with
 | true =>
   have la : aF g.get (.ptr b.ab i) = some (.bool true) := by rw [t.a.read (aCT hi), ha]
   have lc : aF g.get (.ptr b.cb i) = some (.bool (!dn i)) := by rw [t.c.read (aCT hi), ha, Bool.true_and]
   have e : (λ j => if j = i then true else as_ j) = as_ := by
     funext j; split
     · rename_i h; rw [h, ha]
     · rfl
   repeat' (first | (with_reducible first | refine sT ?_ | refine sF ?_ | refine g1 ?_ | refine g2 ?_ | refine g3 ?_ | refine g4 ?_) | ((with_reducible apply sV); first | exact iA _ _ | exact la | exact lc | exact dF) | exact W.ret ⟨rfl, rfl⟩ | with_reducible refine W.ret ?_)
   exact ⟨rfl, fJ.refl _ _, r, by rw [e]; exact t⟩
 | false =>
   have la : aF g.get (.ptr b.ab i) = some (.bool false) := by rw [t.a.read (aCT hi), ha]
   repeat' (first | (with_reducible first | refine sT ?_ | refine sF ?_ | refine g1 ?_ | refine g2 ?_ | refine g3 ?_ | refine g4 ?_) | ((with_reducible apply sV); first | exact iA _ _ | exact la | exact dF) | exact W.ret ⟨rfl, rfl⟩ | with_reducible refine W.ret ?_)
   obtain ⟨_, gg, e1, ⟨e0, rfl⟩, k1, r1⟩ := p.fr g i hi r hz; have nr : ∀ c, b.fb <= c -> ¬ R c := λ c hc hr => by have := p.lt c hr; have := t.rg; omega
   have o1 := o.off k1 (nr _ (by omega))
   have f1 := t.f.off k1 (nr _ (Nat.le_refl _)); have a1 := t.a.off k1 (nr _ (by omega))
   have c1 := t.c.off k1 (nr _ (by omega))
   refine sW e1 ?_
   repeat' (first | (with_reducible first | refine sT ?_ | refine sF ?_ | refine g1 ?_ | refine g2 ?_ | refine g3 ?_ | refine g4 ?_) | ((with_reducible apply sV); first | exact iA _ _ | exact dF) | exact W.ret ⟨rfl, rfl⟩ | with_reducible refine W.ret ?_)
   refine sS1 f1 (by show i < 4; exact hi) rfl λ gh f2 k2 => ?_
   have o2 := o1.but (by omega) k2
   have a2 := a1.but (by omega) k2
   have c2 := c1.but (by omega) k2
   repeat' (first | (with_reducible first | refine sT ?_ | refine sF ?_ | refine g1 ?_ | refine g2 ?_ | refine g3 ?_ | refine g4 ?_) | ((with_reducible apply sV); first | exact iA _ _ | exact dF) | exact W.ret ⟨rfl, rfl⟩ | with_reducible refine W.ret ?_)
   refine sS1 (v := .bool true) a2 (by show i < 4; exact hi) rfl λ gi a3 k3 => ?_
   have o3 := o2.but (by omega) k3
   have f3 := f2.but (by omega) k3
   have c3 := c2.but (by omega) k3
   have lw : ∀ (gz : H), fJ (λ c => c = b.fb \/ c = b.ab \/ c = b.cb) gg gz -> P gz := λ gz k => p.st _ _ r1 (k.weak λ c _ h => by have := t.rg; omega)
   cases hd : dn i with
   | true =>
     simp only [hd, if_true] at f3 ⊢
     repeat' (first | (with_reducible first | refine sT ?_ | refine sF ?_ | refine g1 ?_ | refine g2 ?_ | refine g3 ?_ | refine g4 ?_) | ((with_reducible apply sV); first | exact iA _ _ | exact dF) | exact W.ret ⟨rfl, rfl⟩ | with_reducible refine W.ret ?_)
     refine sS1 (v := .bool false) c3 (by show i < 4; exact hi) rfl λ gj c4 k4 => ?_
     have o4 := o3.but (by omega) k4
     have f4 := f3.but (by omega) k4
     have a4 := a3.but (by omega) k4
     have lc : aF gj.get (.ptr b.cb i) = some (.bool false) := by
       refine c4.read ?_; rw [qG hi, aCT hi, if_pos rfl]
     repeat' (first | (with_reducible first | refine sT ?_ | refine sF ?_ | refine g1 ?_ | refine g2 ?_ | refine g3 ?_ | refine g4 ?_) | ((with_reducible apply sV); first | exact iA _ _ | exact lc | exact dF) | exact W.ret ⟨rfl, rfl⟩ | with_reducible refine W.ret ?_)
     have K : fJ (λ c => c = b.fb \/ c = b.ab \/ c = b.cb) gg gj := (k2.off (.inl rfl)).trans ((k3.off (.inr (.inl rfl))).trans (k4.off (.inr (.inr rfl))))
     refine ⟨rfl, (k1.weak λ c _ hc => .inl hc).trans (K.weak λ c _ hc => .inr hc), lw _ K, o4, ?_, ?_, ?_, t.ne, t.rg⟩
     · rw [qG hi] at f4; rw [jK (g := λ j => if j = i then .str [] else .str (frg L dn as_ j)) λ j hj => ?_]
       · exact f4
       · simp only [frg]; by_cases e : j = i
         · subst e; simp [hd]
         · simp [e]
     · rw [qG hi] at a4; rw [jK (g := λ j => if j = i then .bool true else .bool (as_ j)) λ j hj => ?_]
       · exact a4
       · by_cases e : j = i
         · simp [e]
         · simp [e]
     · rw [qG hi] at c4; rw [jK (g := λ j => if j = i then .bool false else .bool (as_ j && !dn j)) λ j hj => ?_]
       · exact c4
       · by_cases e : j = i
         · subst e; simp [hd]
         · simp [e]
   | false =>
     simp only [hd, Bool.false_eq_true, if_false] at f3 ⊢; have hl := hL i hi
     repeat' (first | (with_reducible first | refine sT ?_ | refine sF ?_ | refine g1 ?_ | refine g2 ?_ | refine g3 ?_ | refine g4 ?_) | exact eqT hl | ((with_reducible apply sV); first | exact iA _ _ | exact cQ _ | exact dF) | exact W.ret ⟨rfl, rfl⟩ | with_reducible refine W.ret ?_)
     refine sS1 (v := .bool true) c3 (by show i < 4; exact hi) rfl λ gj c4 k4 => ?_
     have o4 := o3.but (by omega) k4
     have f4 := f3.but (by omega) k4
     have a4 := a3.but (by omega) k4
     have lc : aF gj.get (.ptr b.cb i) = some (.bool true) := by
       refine c4.read ?_; rw [qG hi, aCT hi, if_pos rfl]
     repeat' (first | (with_reducible first | refine sT ?_ | refine sF ?_ | refine g1 ?_ | refine g2 ?_ | refine g3 ?_ | refine g4 ?_) | ((with_reducible apply sV); first | exact iA _ _ | exact lc | exact dF) | exact W.ret ⟨rfl, rfl⟩ | with_reducible refine W.ret ?_)
     have K : fJ (λ c => c = b.fb \/ c = b.ab \/ c = b.cb) gg gj := (k2.off (.inl rfl)).trans ((k3.off (.inr (.inl rfl))).trans (k4.off (.inr (.inr rfl))))
     refine ⟨rfl, (k1.weak λ c _ hc => .inl hc).trans (K.weak λ c _ hc => .inr hc), lw _ K, o4, ?_, ?_, ?_, t.ne, t.rg⟩
     · rw [qG hi] at f4; rw [jK (g := λ j => if j = i then .str (L i) else .str (frg L dn as_ j)) λ j hj => ?_]
       · exact f4
       · simp only [frg]; by_cases e : j = i
         · subst e; simp [hd]
         · simp [e]
     · rw [qG hi] at a4; rw [jK (g := λ j => if j = i then .bool true else .bool (as_ j)) λ j hj => ?_]
       · exact a4
       · by_cases e : j = i
         · simp [e]
         · simp [e]
     · rw [qG hi] at c4; rw [jK (g := λ j => if j = i then .bool true else .bool (as_ j && !dn j)) λ j hj => ?_]
       · exact c4
       · by_cases e : j = i
         · subst e; simp [hd]
         · simp [e]
end
def iS (dn : Nat -> Bool) (i : Nat) : Ln := (List.range i).filter dn
theorem aDc (dn : Nat -> Bool) (i : Nat) : iS dn (i + 1) = iS dn i ++ (if dn i then [i] else []) := by
 unfold iS; rw [List.range_succ, List.filter_append]
 congr 1
 simp only [List.filter_cons, List.filter_nil]
theorem aSC (dn : Nat -> Bool) (i : Nat) : (iS dn i).length <= i := by
 unfold iS; have := List.length_filter_le dn (List.range i); rw [List.length_range] at this; exact this
theorem aAH {dn : Nat -> Bool} {i : Nat} : i ∈ iS dn 4 ↔ i < 4 /\ dn i = true := by
 unfold iS; rw [List.mem_filter, List.mem_range]
def eK (l : Ln) : List DV := l.map λ n => .int .i64 (.ofNat n)
section
variable {E : aQ} {P : H -> Prop} {R : Nat -> Prop} {z pa id n : Nat} {g g' : H} {L : Nat -> Ln} {dn : Nat -> Bool}
theorem bGD {b : StB} {as_ : Nat -> Bool} (p : RdP E P R z pa id L dn) (t : tO g z id n pa b L dn as_) {c : Nat} (hc : stF R b c) : c < b.x := by
 obtain ⟨ne1, ne2, ne3⟩ := t.ne; have := t.rg; rcases hc with h | rfl | rfl | rfl
 · have := p.lt c h; omega
 all_goals omega
theorem tO.keep {b : StB} {as_ : Nat -> Bool} (t : tO g z id n pa b L dn as_) {n0 : Nat} (k : dE n0 g g') (hn : b.x < n0) : tO g' z id n pa b L dn as_ := by
 obtain ⟨ne1, ne2, ne3⟩ := t.ne; exact ⟨t.o.keep k hn, t.f.keep k (by omega), t.a.keep k (by omega), t.c.keep k (by omega), t.ne, t.rg⟩
theorem aDb (p : RdP E P R z pa id L dn) (hL : ∀ i, i < 4 -> (L i).length = eP n 4) {M : aQ} (hask : ∀ a b, aB M 39 a b = S39 E a b) {b : StB} {g0 : H} (hn0 : b.x < g0.size) :
   ∀ (k i f : Nat) (g : H) (v : DV) (as_ : Nat -> Bool), i + k = 4 -> P g -> tO g z id n pa b L dn as_ -> (∀ j, j < i -> as_ j = true) -> bM g0.size g v (eK (iS dn i)) -> fJ (stF R b) g0 g ->
   W (aBL M (.ptr b.x 0) (.int .i64 (.ofNat 4)) (f + (k + 1)) v (.int .i64 (.ofNat i)) g) λ w g' => bM g0.size g' w (eK (iS dn 4)) /\ P g' /\ (∃ as_, tO g' z id n pa b L dn as_ /\ ∀ j, j < 4 -> as_ j = true) /\ fJ (stF R b) g0 g' := by
 intro k
 induction k with
 | zero =>
   intro i f g v as_ hk r t ha o hg; have hi : i = 4 := by omega
   subst hi; show W (aLh M _ _ (aBL M _ _ f) _ _ g) _; unfold aLh aRu
   repeat' (first | (with_reducible first | refine sT ?_ | refine sF ?_ | refine g1 ?_ | refine g2 ?_ | refine g3 ?_ | refine g4 ?_) | ((with_reducible apply sV); exact dF) | exact W.ret ⟨rfl, rfl⟩ | with_reducible refine W.ret ?_)
   exact ⟨o, r, ⟨as_, t, ha⟩, hg⟩
 | succ k ih =>
   intro i f g v as_ hk r t ha o hg; have hi : i < 4 := by omega
   obtain ⟨ne1, ne2, ne3⟩ := t.ne; obtain ⟨_, gg, e1, rfl, k1, r1, t1⟩ := bDd p r hL t hi; have hlt : ∀ c, stF R b c -> c < g0.size := λ c hc => by have := bGD p t hc; omega
   have o1 := aCV o k1 hlt; have z1 := k1.size; have hgs := hg.size; show W (aLh M _ _ (aBL M _ _ (f + (k + 1))) _ _ g) _; unfold aLh aRt
   repeat' (first | (with_reducible first | refine sT ?_ | refine sF ?_ | refine g1 ?_ | refine g2 ?_ | refine g3 ?_ | refine g4 ?_) | ((with_reducible apply sV); exact dF) | exact W.ret ⟨rfl, rfl⟩ | with_reducible refine W.ret ?_)
   rw [hask]; refine sW e1 ?_; have hal : ∀ j, j < i + 1 -> (λ j => if j = i then true else as_ j) j = true := λ j hj => by
     by_cases e : j = i
     · simp [e]
     · simp only [e, if_false]; exact ha j (by omega)
   have hg1 := hg.trans k1; cases hd : dn i with
   | false =>
     simp only [Bool.not_false]
     repeat' (first | (with_reducible first | refine sT ?_ | refine sF ?_ | refine g1 ?_ | refine g2 ?_ | refine g3 ?_ | refine g4 ?_) | ((with_reducible apply sV); exact dF) | exact W.ret ⟨rfl, rfl⟩ | with_reducible refine W.ret ?_)
     refine ih (i + 1) f gg v _ (by omega) r1 t1 hal ?_ hg1
     rw [aDc, hd]
     simpa using o1
   | true =>
     simp only [Bool.not_true]; have hlen := aSC dn i; have hnl : (eK (iS dn i)).length = (iS dn i).length := List.length_map _; obtain ⟨v', gh, e2, o2, k2⟩ := o1.push1 (x := .int .i64 (.ofNat i)) (z := .int .i64 (.ofNat 0)) (bytes := 8) (by omega) rfl (by unfold aY; omega) (by unfold aY; omega)
     repeat' (first | (with_reducible first | refine sT ?_ | refine sF ?_ | refine g1 ?_ | refine g2 ?_ | refine g3 ?_ | refine g4 ?_) | ((with_reducible apply sV); exact dF) | exact W.ret ⟨rfl, rfl⟩ | with_reducible refine W.ret ?_)
     rw [e2]
     repeat' (first | (with_reducible first | refine sT ?_ | refine sF ?_ | refine g1 ?_ | refine g2 ?_ | refine g3 ?_ | refine g4 ?_) | ((with_reducible apply sV); exact dF) | exact W.ret ⟨rfl, rfl⟩ | with_reducible refine W.ret ?_)
     have k2o : fJ (λ c => g0.size <= c) gg gh := ⟨k2.size, λ c hc hn => k2.get c (by omega)⟩
     refine ih (i + 1) f gh v' _ (by omega) (p.st _ _ r1 (k2o.weak λ c _ h => by have := t.rg; omega)) (t1.keep k2 hn0) hal ?_ ⟨Nat.le_trans hg1.size k2.size, λ c hc hn => by rw [k2.get c hc, hg1.get c hc hn]⟩
     rw [aDc, hd]; unfold eK at o2 ⊢; rw [List.map_append]; exact o2
theorem aBx (p : RdP E P R z pa id L dn) (r : P g) (hL : ∀ i, i < 4 -> (L i).length = eP n 4) {M : aQ} (hask : ∀ a b, aB M 39 a b = S39 E a b) {b : StB} {as_ : Nat -> Bool} (t : tO g z id n pa b L dn as_) :
   W (S36 M [.ptr b.x 0] g) λ w g' => bM g.size g' w (eK (iS dn 4)) /\ P g' /\ (∃ as_, tO g' z id n pa b L dn as_ /\ ∀ j, j < 4 -> as_ j = true) /\ fJ (stF R b) g g' := by
 have o : aR g b.x [.ptr pa 0, .int .i64 (.ofNat id), .int .i64 (.ofNat 2), .int .i64 (.ofNat 0), .int .i64 (.ofNat 1), .int .i64 (.ofNat n), .slc b.c 0 4 4 true, .int .i64 (.ofNat (eP n 4)), .slc b.fb 0 4 4 false, .slc b.ab 0 4 4 false, .slc b.cb 0 4 4 false] := t.o; show W (aRv M (.ptr b.x 0) g) _; unfold aRv
 repeat' (first | (with_reducible first | refine sT ?_ | refine sF ?_ | refine g1 ?_ | refine g2 ?_ | refine g3 ?_ | refine g4 ?_) | ((with_reducible apply sV); exact dF) | exact W.ret ⟨rfl, rfl⟩ | with_reducible refine W.ret ?_)
 have := aDb p hL hask (g0 := g) t.o.1 4 0 (aK - 5) g .nils as_ rfl r t (λ j hj => absurd hj (Nat.not_lt_zero _)) (bM.nil _ _) (fJ.refl _ _)
 rw [show aK - 5 + (4 + 1) = aK from by unfold aK; omega] at this
 exact this
end
end Go.Proofs.YthpciaidbgjoeaaGreat
