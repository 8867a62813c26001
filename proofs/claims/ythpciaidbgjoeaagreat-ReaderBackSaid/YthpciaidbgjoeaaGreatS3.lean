/- Specs. No condition beyond the theorems' own. -/
import Derived.Test.YthpciaidbgjoeaaGreatS2
set_option linter.unusedVariables false
set_option linter.unusedSimpArgs false
namespace Go.Proofs.YthpciaidbgjoeaaGreat
open Go.DI
def kG (X : List fM) (L : Nat -> Ln) (dn : Nat -> Bool) : Prop := ∀ j, j < 4 -> ∃ x, X[j]? = some x /\ tR x 0 j (L j) /\ (x.dn || x.ls) = dn j
def frg (L : Nat -> Ln) (dn as_ : Nat -> Bool) (i : Nat) : Ln := if (as_ i && !dn i) = true then L i else []
def r4 (f : Nat -> DV) : List DV := [f 0, f 1, f 2, f 3]
theorem lt4 {i : Nat} (h : i < 4) : i = 0 \/ i = 1 \/ i = 2 \/ i = 3 := by omega
theorem uS {f : Nat -> DV} {i : Nat} (h : i < 4) : (r4 f)[i]? = some (f i) := by
 rcases lt4 h with rfl | rfl | rfl | rfl <;> rfl
theorem sZ {f : Nat -> DV} {v : DV} {i : Nat} (h : i < 4) : (r4 f).set i v = r4 (λ j => if j = i then v else f j) := by
 rcases lt4 h with rfl | rfl | rfl | rfl <;> rfl
theorem lR {f g : Nat -> DV} (h : ∀ i, i < 4 -> f i = g i) : r4 f = r4 g := by
 unfold r4; rw [h 0 (by decide), h 1 (by decide), h 2 (by decide), h 3 (by decide)]
section
variable {n : Nat} {A : Re} {g g' : H} {pa pm sv lb : Nat} {S : List dH} {X : List fM} {L : Nat -> Ln} {dn : Nat -> Bool}
theorem aMm (h1 : 1 <= n) (h2 : n <= 65536) (r : iC n hC A g pa pm sv lb S X) (hS : S.length = 4) (hX : kG X L dn) (m : Nat) {i : Nat} (hi : i < 4) :
   W (S68 (EL (m + 60)) [.ptr pa 0, .int .i64 (.ofNat 0), .int .i64 (.ofNat i)] g) λ v g' => v = .tup [.str (if dn i then [] else L i), .int .i64 (.ofNat (if dn i then 8 else 0))] /\ nL (rng O3 A) g g' /\ iC n hC A g' pa pm sv lb S X := by
 obtain ⟨B, hB⟩ : ∃ B, S[i]? = some B := ⟨_, List.getElem?_eq_getElem (by omega)⟩
 obtain ⟨x, x1, x2, x3⟩ := hX i hi; show W (aQe (EL (m + 60)) (.ptr pa 0) (.int .i64 (.ofNat 0)) (.int .i64 (.ofNat i)) g) _; unfold aQe
 repeat' (first | with_reducible refine sT ?_ | with_reducible refine sF ?_ | with_reducible refine g1 ?_ | with_reducible refine g2 ?_ | with_reducible refine g3 ?_ | with_reducible refine g4 ?_ | ((with_reducible apply sV); first | exact aB.read (by assumption) (by rfl) | exact aB.readN (by assumption) (Nat.le_of_ble_eq_true rfl) | exact eG (by omega) | exact eH (by omega) | exact gtT (by omega) | exact gtF (by omega) | exact eI (by omega) | exact eJ (by omega) | exact geT (by omega) | exact geF (by omega) | exact dZ (by omega) | exact eK (by omega) | exact eE (by omega) | exact eF (by omega) | exact aD (by omega) | exact bT (by omega) | exact aE (by omega) (by omega) | exact aG (by omega) _ | exact aI _ _ _ _ | exact aJ _ _ _ _ | exact aF _ _ _ | exact rfl) | exact W.ret ⟨rfl, rfl⟩ | with_reducible refine W.ret ?_)
 obtain ⟨_, gg, e1, rfl, k1, r1⟩ := aIr h1 h2 rdC r m i hi; refine sW e1 ?_; obtain ⟨w, l1, l2⟩ := r1.cell rdC.sv; have := aTe r1 l2; subst this
 repeat' (first | with_reducible refine sT ?_ | with_reducible refine sF ?_ | with_reducible refine g1 ?_ | with_reducible refine g2 ?_ | with_reducible refine g3 ?_ | with_reducible refine g4 ?_ | ((with_reducible apply sV); first | exact l1 | exact aB.read (by assumption) (by rfl) | exact aB.readN (by assumption) (Nat.le_of_ble_eq_true rfl) | exact eG (by omega) | exact eH (by omega) | exact gtT (by omega) | exact gtF (by omega) | exact eI (by omega) | exact eJ (by omega) | exact geT (by omega) | exact geF (by omega) | exact dZ (by omega) | exact eK (by omega) | exact eE (by omega) | exact eF (by omega) | exact aD (by omega) | exact bT (by omega) | exact aE (by omega) (by omega) | exact aG (by omega) _ | exact aI _ _ _ _ | exact aJ _ _ _ _ | exact aF _ _ _ | exact rfl) | exact W.ret ⟨rfl, rfl⟩ | with_reducible refine W.ret ?_)
 have hp : aC (EL (m + 60)) 101 = qK := by funext a b; exact aU (aBM (by kernel_rfl) (m + 59)) a b
 obtain ⟨v, gh, e2, hv, k2⟩ := aYR (st := 0) (ix := i) r1.q hB x1 x2; rw [x3] at hv; rw [hp]; refine sW e2 ?_; cases hd : dn i with
 | true =>
   rw [hd, if_pos rfl] at hv; subst hv
   repeat' (first | with_reducible refine sT ?_ | with_reducible refine sF ?_ | with_reducible refine g1 ?_ | with_reducible refine g2 ?_ | with_reducible refine g3 ?_ | with_reducible refine g4 ?_ | ((with_reducible apply sV); first | exact aB.read (by assumption) (by rfl) | exact aB.readN (by assumption) (Nat.le_of_ble_eq_true rfl) | exact eG (by omega) | exact eH (by omega) | exact gtT (by omega) | exact gtF (by omega) | exact eI (by omega) | exact eJ (by omega) | exact geT (by omega) | exact geF (by omega) | exact dZ (by omega) | exact eK (by omega) | exact eE (by omega) | exact eF (by omega) | exact aD (by omega) | exact bT (by omega) | exact aE (by omega) (by omega) | exact aG (by omega) _ | exact aI _ _ _ _ | exact aJ _ _ _ _ | exact aF _ _ _ | exact rfl) | exact W.ret ⟨rfl, rfl⟩ | with_reducible refine W.ret ?_)
   exact ⟨by simp, k1.trans (k2.off _), r1.grown k2⟩
 | false =>
   rw [hd] at hv; simp only [Bool.false_eq_true, if_false] at hv; subst hv
   repeat' (first | with_reducible refine sT ?_ | with_reducible refine sF ?_ | with_reducible refine g1 ?_ | with_reducible refine g2 ?_ | with_reducible refine g3 ?_ | with_reducible refine g4 ?_ | ((with_reducible apply sV); first | exact aB.read (by assumption) (by rfl) | exact aB.readN (by assumption) (Nat.le_of_ble_eq_true rfl) | exact eG (by omega) | exact eH (by omega) | exact gtT (by omega) | exact gtF (by omega) | exact eI (by omega) | exact eJ (by omega) | exact geT (by omega) | exact geF (by omega) | exact dZ (by omega) | exact eK (by omega) | exact eE (by omega) | exact eF (by omega) | exact aD (by omega) | exact bT (by omega) | exact aE (by omega) (by omega) | exact aG (by omega) _ | exact aI _ _ _ _ | exact aJ _ _ _ _ | exact aF _ _ _ | exact rfl) | exact W.ret ⟨rfl, rfl⟩ | with_reducible refine W.ret ?_)
   exact ⟨by simp, k1.trans (k2.off _), r1.grown k2⟩
structure StB where
 x : Nat
 fb : Nat
 ab : Nat
 cb : Nat
 c : Nat
def aLl (n pa : Nat) (b : StB) : List DV := [.ptr pa 0, .int .i64 (.ofNat 0), .int .i64 (.ofNat 2), .int .i64 (.ofNat 1), .int .i64 (.ofNat 1), .int .i64 (.ofNat n), .slc b.c 0 4 4 true, .int .i64 (.ofNat (cR n 4)), .slc b.fb 0 4 4 false, .slc b.ab 0 4 4 false, .slc b.cb 0 4 4 false]
structure qJ (g : H) (A : Re) (n pa : Nat) (b : StB) (L : Nat -> Ln) (dn as_ : Nat -> Bool) : Prop where
 o : aB g b.x (aLl n pa b)
 f : aB g b.fb (r4 λ i => .str (frg L dn as_ i))
 a : aB g b.ab (r4 λ i => .bool (as_ i))
 c : aB g b.cb (r4 λ i => .bool (as_ i && !dn i))
 ne : b.fb < b.ab /\ b.ab < b.cb /\ b.cb < b.x
 rg : ∀ c, rng O3 A c -> c < b.fb
def stF (A : Re) (b : StB) (c : Nat) : Prop := rng O3 A c \/ c = b.fb \/ c = b.ab \/ c = b.cb
theorem aOV (h1 : 1 <= n) (h2 : n <= 65536) (r : iC n hC A g pa pm sv lb S X) (hS : S.length = 4) (hX : kG X L dn) (hL : ∀ i, i < 4 -> (L i).length = cR n 4) (m : Nat) {b : StB} {as_ : Nat -> Bool} (t : qJ g A n pa b L dn as_) (hsv : ∀ c, svF S sv lb c -> c < b.fb) {i : Nat} (hi : i < 4) :
   W (S39 (EL (m + 61)) [.ptr b.x 0, .int .i64 (.ofNat i)] g) λ v g' => v = .bool (!dn i) /\ nL (stF A b) g g' /\ iC n hC A g' pa pm sv lb S X /\ qJ g' A n pa b L dn (λ j => if j = i then true else as_ j) := by
 obtain ⟨ne1, ne2, ne3⟩ := t.ne; have hfr : aC (EL (m + 61)) 68 = S68 (EL (m + 60)) := by funext a c; exact aU (cN (s := S68) (by kernel_rfl) (by kernel_rfl) (m + 60)) a c
 have o : aB g b.x [.ptr pa 0, .int .i64 (.ofNat 0), .int .i64 (.ofNat 2), .int .i64 (.ofNat 1), .int .i64 (.ofNat 1), .int .i64 (.ofNat n), .slc b.c 0 4 4 true, .int .i64 (.ofNat (cR n 4)), .slc b.fb 0 4 4 false, .slc b.ab 0 4 4 false, .slc b.cb 0 4 4 false] := t.o; show W (aQw (EL (m + 61)) (.ptr b.x 0) (.int .i64 (.ofNat i)) g) _; unfold aQw aQv; have iA := λ (c : Nat) (op : Bool) => aJf (b := c) (c := 4) (op := op) hi
 cases ha : as_ i with
 | true =>
   have la : aO g.get (.ptr b.ab i) = some (.bool true) := by rw [t.a.read (uS hi), ha]
   have lc : aO g.get (.ptr b.cb i) = some (.bool (!dn i)) := by rw [t.c.read (uS hi), ha, Bool.true_and]
   have e : (λ j => if j = i then true else as_ j) = as_ := by
     funext j; split
     · rename_i h; rw [h, ha]
     · rfl
   repeat' (first | with_reducible refine sT ?_ | with_reducible refine sF ?_ | with_reducible refine g1 ?_ | with_reducible refine g2 ?_ | with_reducible refine g3 ?_ | with_reducible refine g4 ?_ | ((with_reducible apply sV); first | exact iA _ _ | exact la | exact lc | exact aB.read (by assumption) (by rfl) | exact aB.readN (by assumption) (Nat.le_of_ble_eq_true rfl) | exact eG (by omega) | exact eH (by omega) | exact gtT (by omega) | exact gtF (by omega) | exact eI (by omega) | exact eJ (by omega) | exact geT (by omega) | exact geF (by omega) | exact dZ (by omega) | exact eK (by omega) | exact eE (by omega) | exact eF (by omega) | exact aD (by omega) | exact bT (by omega) | exact aE (by omega) (by omega) | exact aG (by omega) _ | exact aI _ _ _ _ | exact aJ _ _ _ _ | exact aF _ _ _ | exact rfl) | exact W.ret ⟨rfl, rfl⟩ | with_reducible refine W.ret ?_)
   exact ⟨rfl, nL.refl _ _, r, by rw [e]; exact t⟩
 | false =>
   have la : aO g.get (.ptr b.ab i) = some (.bool false) := by rw [t.a.read (uS hi), ha]
   repeat' (first | with_reducible refine sT ?_ | with_reducible refine sF ?_ | with_reducible refine g1 ?_ | with_reducible refine g2 ?_ | with_reducible refine g3 ?_ | with_reducible refine g4 ?_ | ((with_reducible apply sV); first | exact iA _ _ | exact la | exact aB.read (by assumption) (by rfl) | exact aB.readN (by assumption) (Nat.le_of_ble_eq_true rfl) | exact eG (by omega) | exact eH (by omega) | exact gtT (by omega) | exact gtF (by omega) | exact eI (by omega) | exact eJ (by omega) | exact geT (by omega) | exact geF (by omega) | exact dZ (by omega) | exact eK (by omega) | exact eE (by omega) | exact eF (by omega) | exact aD (by omega) | exact bT (by omega) | exact aE (by omega) (by omega) | exact aG (by omega) _ | exact aI _ _ _ _ | exact aJ _ _ _ _ | exact aF _ _ _ | exact rfl) | exact W.ret ⟨rfl, rfl⟩ | with_reducible refine W.ret ?_)
   obtain ⟨_, gg, e1, rfl, k1, r1⟩ := aMm h1 h2 r hS hX m hi; have nr : ∀ c, b.fb <= c -> ¬ rng O3 A c := λ c hc hr => by have := t.rg c hr; omega
   have o1 := o.off k1 (nr _ (by omega))
   have f1 := t.f.off k1 (nr _ (Nat.le_refl _)); have a1 := t.a.off k1 (nr _ (by omega))
   have c1 := t.c.off k1 (nr _ (by omega))
   rw [hfr]; refine sW e1 ?_
   repeat' (first | with_reducible refine sT ?_ | with_reducible refine sF ?_ | with_reducible refine g1 ?_ | with_reducible refine g2 ?_ | with_reducible refine g3 ?_ | with_reducible refine g4 ?_ | ((with_reducible apply sV); first | exact iA _ _ | exact aB.read (by assumption) (by rfl) | exact aB.readN (by assumption) (Nat.le_of_ble_eq_true rfl) | exact eG (by omega) | exact eH (by omega) | exact gtT (by omega) | exact gtF (by omega) | exact eI (by omega) | exact eJ (by omega) | exact geT (by omega) | exact geF (by omega) | exact dZ (by omega) | exact eK (by omega) | exact eE (by omega) | exact eF (by omega) | exact aD (by omega) | exact bT (by omega) | exact aE (by omega) (by omega) | exact aG (by omega) _ | exact aI _ _ _ _ | exact aJ _ _ _ _ | exact aF _ _ _ | exact rfl) | exact W.ret ⟨rfl, rfl⟩ | with_reducible refine W.ret ?_)
   refine sS1 f1 (by show i < 4; exact hi) rfl λ gh f2 k2 => ?_
   have o2 := o1.but (by omega) k2
   have a2 := a1.but (by omega) k2
   have c2 := c1.but (by omega) k2
   repeat' (first | with_reducible refine sT ?_ | with_reducible refine sF ?_ | with_reducible refine g1 ?_ | with_reducible refine g2 ?_ | with_reducible refine g3 ?_ | with_reducible refine g4 ?_ | ((with_reducible apply sV); first | exact iA _ _ | exact aB.read (by assumption) (by rfl) | exact aB.readN (by assumption) (Nat.le_of_ble_eq_true rfl) | exact eG (by omega) | exact eH (by omega) | exact gtT (by omega) | exact gtF (by omega) | exact eI (by omega) | exact eJ (by omega) | exact geT (by omega) | exact geF (by omega) | exact dZ (by omega) | exact eK (by omega) | exact eE (by omega) | exact eF (by omega) | exact aD (by omega) | exact bT (by omega) | exact aE (by omega) (by omega) | exact aG (by omega) _ | exact aI _ _ _ _ | exact aJ _ _ _ _ | exact aF _ _ _ | exact rfl) | exact W.ret ⟨rfl, rfl⟩ | with_reducible refine W.ret ?_)
   refine sS1 (v := .bool true) a2 (by show i < 4; exact hi) rfl λ gi a3 k3 => ?_
   have o3 := o2.but (by omega) k3
   have f3 := f2.but (by omega) k3
   have c3 := c2.but (by omega) k3
   have lw : ∀ (gz : H), nL (λ c => c = b.fb \/ c = b.ab \/ c = b.cb) gg gz -> iC n hC A gz pa pm sv lb S X := λ gz k =>
     ⟨r1.hr.keep k λ c hc e => by have := t.rg c hc; omega, r1.a, r1.m, r1.s, r1.q.off k λ c hc e => by have := hsv c hc; omega, r1.d⟩
   cases hd : dn i with
   | true =>
     simp only [hd, if_true] at f3 ⊢
     repeat' (first | with_reducible refine sT ?_ | with_reducible refine sF ?_ | with_reducible refine g1 ?_ | with_reducible refine g2 ?_ | with_reducible refine g3 ?_ | with_reducible refine g4 ?_ | ((with_reducible apply sV); first | exact iA _ _ | exact aB.read (by assumption) (by rfl) | exact aB.readN (by assumption) (Nat.le_of_ble_eq_true rfl) | exact eG (by omega) | exact eH (by omega) | exact gtT (by omega) | exact gtF (by omega) | exact eI (by omega) | exact eJ (by omega) | exact geT (by omega) | exact geF (by omega) | exact dZ (by omega) | exact eK (by omega) | exact eE (by omega) | exact eF (by omega) | exact aD (by omega) | exact bT (by omega) | exact aE (by omega) (by omega) | exact aG (by omega) _ | exact aI _ _ _ _ | exact aJ _ _ _ _ | exact aF _ _ _ | exact rfl) | exact W.ret ⟨rfl, rfl⟩ | with_reducible refine W.ret ?_)
     refine sS1 (v := .bool false) c3 (by show i < 4; exact hi) rfl λ gj c4 k4 => ?_
     have o4 := o3.but (by omega) k4
     have f4 := f3.but (by omega) k4
     have a4 := a3.but (by omega) k4
     have lc : aO gj.get (.ptr b.cb i) = some (.bool false) := by
       refine c4.read ?_; rw [sZ hi, uS hi, if_pos rfl]
     repeat' (first | with_reducible refine sT ?_ | with_reducible refine sF ?_ | with_reducible refine g1 ?_ | with_reducible refine g2 ?_ | with_reducible refine g3 ?_ | with_reducible refine g4 ?_ | ((with_reducible apply sV); first | exact iA _ _ | exact lc | exact aB.read (by assumption) (by rfl) | exact aB.readN (by assumption) (Nat.le_of_ble_eq_true rfl) | exact eG (by omega) | exact eH (by omega) | exact gtT (by omega) | exact gtF (by omega) | exact eI (by omega) | exact eJ (by omega) | exact geT (by omega) | exact geF (by omega) | exact dZ (by omega) | exact eK (by omega) | exact eE (by omega) | exact eF (by omega) | exact aD (by omega) | exact bT (by omega) | exact aE (by omega) (by omega) | exact aG (by omega) _ | exact aI _ _ _ _ | exact aJ _ _ _ _ | exact aF _ _ _ | exact rfl) | exact W.ret ⟨rfl, rfl⟩ | with_reducible refine W.ret ?_)
     have K : nL (λ c => c = b.fb \/ c = b.ab \/ c = b.cb) gg gj := (k2.off (.inl rfl)).trans ((k3.off (.inr (.inl rfl))).trans (k4.off (.inr (.inr rfl))))
     refine ⟨rfl, (k1.weak λ c _ hc => .inl hc).trans (K.weak λ c _ hc => .inr hc), lw _ K, o4, ?_, ?_, ?_, t.ne, t.rg⟩
     · rw [sZ hi] at f4; rw [lR (g := λ j => if j = i then .str [] else .str (frg L dn as_ j)) λ j hj => ?_]
       · exact f4
       · simp only [frg]; by_cases e : j = i
         · subst e; simp [hd]
         · simp [e]
     · rw [sZ hi] at a4; rw [lR (g := λ j => if j = i then .bool true else .bool (as_ j)) λ j hj => ?_]
       · exact a4
       · by_cases e : j = i
         · simp [e]
         · simp [e]
     · rw [sZ hi] at c4; rw [lR (g := λ j => if j = i then .bool false else .bool (as_ j && !dn j)) λ j hj => ?_]
       · exact c4
       · by_cases e : j = i
         · subst e; simp [hd]
         · simp [e]
   | false =>
     simp only [hd, Bool.false_eq_true, if_false] at f3 ⊢; have hl := hL i hi
     repeat' (first | with_reducible refine sT ?_ | with_reducible refine sF ?_ | with_reducible refine g1 ?_ | with_reducible refine g2 ?_ | with_reducible refine g3 ?_ | with_reducible refine g4 ?_ | exact dZ hl | ((with_reducible apply sV); first | exact iA _ _ | exact cQ _ | exact aB.read (by assumption) (by rfl) | exact aB.readN (by assumption) (Nat.le_of_ble_eq_true rfl) | exact eG (by omega) | exact eH (by omega) | exact gtT (by omega) | exact gtF (by omega) | exact eI (by omega) | exact eJ (by omega) | exact geT (by omega) | exact geF (by omega) | exact dZ (by omega) | exact eK (by omega) | exact eE (by omega) | exact eF (by omega) | exact aD (by omega) | exact bT (by omega) | exact aE (by omega) (by omega) | exact aG (by omega) _ | exact aI _ _ _ _ | exact aJ _ _ _ _ | exact aF _ _ _ | exact rfl) | exact W.ret ⟨rfl, rfl⟩ | with_reducible refine W.ret ?_)
     refine sS1 (v := .bool true) c3 (by show i < 4; exact hi) rfl λ gj c4 k4 => ?_
     have o4 := o3.but (by omega) k4
     have f4 := f3.but (by omega) k4
     have a4 := a3.but (by omega) k4
     have lc : aO gj.get (.ptr b.cb i) = some (.bool true) := by
       refine c4.read ?_; rw [sZ hi, uS hi, if_pos rfl]
     repeat' (first | with_reducible refine sT ?_ | with_reducible refine sF ?_ | with_reducible refine g1 ?_ | with_reducible refine g2 ?_ | with_reducible refine g3 ?_ | with_reducible refine g4 ?_ | ((with_reducible apply sV); first | exact iA _ _ | exact lc | exact aB.read (by assumption) (by rfl) | exact aB.readN (by assumption) (Nat.le_of_ble_eq_true rfl) | exact eG (by omega) | exact eH (by omega) | exact gtT (by omega) | exact gtF (by omega) | exact eI (by omega) | exact eJ (by omega) | exact geT (by omega) | exact geF (by omega) | exact dZ (by omega) | exact eK (by omega) | exact eE (by omega) | exact eF (by omega) | exact aD (by omega) | exact bT (by omega) | exact aE (by omega) (by omega) | exact aG (by omega) _ | exact aI _ _ _ _ | exact aJ _ _ _ _ | exact aF _ _ _ | exact rfl) | exact W.ret ⟨rfl, rfl⟩ | with_reducible refine W.ret ?_)
     have K : nL (λ c => c = b.fb \/ c = b.ab \/ c = b.cb) gg gj := (k2.off (.inl rfl)).trans ((k3.off (.inr (.inl rfl))).trans (k4.off (.inr (.inr rfl))))
     refine ⟨rfl, (k1.weak λ c _ hc => .inl hc).trans (K.weak λ c _ hc => .inr hc), lw _ K, o4, ?_, ?_, ?_, t.ne, t.rg⟩
     · rw [sZ hi] at f4; rw [lR (g := λ j => if j = i then .str (L i) else .str (frg L dn as_ j)) λ j hj => ?_]
       · exact f4
       · simp only [frg]; by_cases e : j = i
         · subst e; simp [hd]
         · simp [e]
     · rw [sZ hi] at a4; rw [lR (g := λ j => if j = i then .bool true else .bool (as_ j)) λ j hj => ?_]
       · exact a4
       · by_cases e : j = i
         · simp [e]
         · simp [e]
     · rw [sZ hi] at c4; rw [lR (g := λ j => if j = i then .bool true else .bool (as_ j && !dn j)) λ j hj => ?_]
       · exact c4
       · by_cases e : j = i
         · subst e; simp [hd]
         · simp [e]
end
end Go.Proofs.YthpciaidbgjoeaaGreat
