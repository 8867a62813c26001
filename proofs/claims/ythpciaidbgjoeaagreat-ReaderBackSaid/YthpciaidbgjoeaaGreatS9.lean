/- Specs. No condition beyond the theorems' own. -/
import Derived.Test.YthpciaidbgjoeaaGreatS8
set_option linter.unusedVariables false
set_option linter.unusedSimpArgs false
namespace Go.Proofs.YthpciaidbgjoeaaGreat
open Go.DI
section
variable {n : Nat} {A : Re} {g g' : H} {pa pm sv lb : Nat} {S : List dH} {X : List fM} {L : Nat -> Ln} {dn : Nat -> Bool} {text : Ln}
theorem aGU {E : bF} {ab : Nat} {as_ : Nat -> Bool} (oa : aB g ab (r4 λ i => .bool (as_ i))) : ∀ (k i f c : Nat), i + k = 4 -> c <= i ->
   W (aBN E (.slc ab 0 4 4 false) (.int .i64 (.ofNat 4)) (f + (k + 1)) (.int .i64 (.ofNat c)) (.int .i64 (.ofNat i)) g) λ v g' => (∃ c, v = .int .i64 (.ofNat c)) /\ g' = g := by
 intro k
 induction k with
 | zero =>
   intro i f c hk hc; show W (aKS E _ _ (aBN E _ _ f) _ _ g) _; unfold aKS aQy
   repeat' (first | with_reducible refine sT ?_ | with_reducible refine sF ?_ | with_reducible refine g1 ?_ | with_reducible refine g2 ?_ | with_reducible refine g3 ?_ | with_reducible refine g4 ?_ | ((with_reducible apply sV); first | exact aB.read (by assumption) (by rfl) | exact aB.readN (by assumption) (Nat.le_of_ble_eq_true rfl) | exact eG (by omega) | exact eH (by omega) | exact gtT (by omega) | exact gtF (by omega) | exact eI (by omega) | exact eJ (by omega) | exact geT (by omega) | exact geF (by omega) | exact dZ (by omega) | exact eK (by omega) | exact eE (by omega) | exact eF (by omega) | exact aD (by omega) | exact bT (by omega) | exact aE (by omega) (by omega) | exact aG (by omega) _ | exact aI _ _ _ _ | exact aJ _ _ _ _ | exact aF _ _ _ | exact rfl) | exact W.ret ⟨rfl, rfl⟩ | with_reducible refine W.ret ?_)
   exact ⟨⟨c, rfl⟩, rfl⟩
 | succ k ih =>
   intro i f c hk hc; have hi : i < 4 := by omega
   show W (aKS E _ _ (aBN E _ _ (f + (k + 1))) _ _ g) _; unfold aKS aQx; cases ha : as_ i with
   | true =>
     have la : aO g.get (.ptr ab i) = some (.bool true) := by rw [oa.read (uS hi), ha]
     repeat' (first | with_reducible refine sT ?_ | with_reducible refine sF ?_ | with_reducible refine g1 ?_ | with_reducible refine g2 ?_ | with_reducible refine g3 ?_ | with_reducible refine g4 ?_ | ((with_reducible apply sV); first | exact aJf hi | exact la | exact aB.read (by assumption) (by rfl) | exact aB.readN (by assumption) (Nat.le_of_ble_eq_true rfl) | exact eG (by omega) | exact eH (by omega) | exact gtT (by omega) | exact gtF (by omega) | exact eI (by omega) | exact eJ (by omega) | exact geT (by omega) | exact geF (by omega) | exact dZ (by omega) | exact eK (by omega) | exact eE (by omega) | exact eF (by omega) | exact aD (by omega) | exact bT (by omega) | exact aE (by omega) (by omega) | exact aG (by omega) _ | exact aI _ _ _ _ | exact aJ _ _ _ _ | exact aF _ _ _ | exact rfl) | exact W.ret ⟨rfl, rfl⟩ | with_reducible refine W.ret ?_)
     exact ih (i + 1) f (c + 1) (by omega) (by omega)
   | false =>
     have la : aO g.get (.ptr ab i) = some (.bool false) := by rw [oa.read (uS hi), ha]
     repeat' (first | with_reducible refine sT ?_ | with_reducible refine sF ?_ | with_reducible refine g1 ?_ | with_reducible refine g2 ?_ | with_reducible refine g3 ?_ | with_reducible refine g4 ?_ | ((with_reducible apply sV); first | exact aJf hi | exact la | exact aB.read (by assumption) (by rfl) | exact aB.readN (by assumption) (Nat.le_of_ble_eq_true rfl) | exact eG (by omega) | exact eH (by omega) | exact gtT (by omega) | exact gtF (by omega) | exact eI (by omega) | exact eJ (by omega) | exact geT (by omega) | exact geF (by omega) | exact dZ (by omega) | exact eK (by omega) | exact eE (by omega) | exact eF (by omega) | exact aD (by omega) | exact bT (by omega) | exact aE (by omega) (by omega) | exact aG (by omega) _ | exact aI _ _ _ _ | exact aJ _ _ _ _ | exact aF _ _ _ | exact rfl) | exact W.ret ⟨rfl, rfl⟩ | with_reducible refine W.ret ?_)
     exact ih (i + 1) f c (by omega) (by omega)
theorem aAR {E : bF} {b : StB} {as_ : Nat -> Bool} (to_ : aB g b.x (aLl n pa b)) (ta : aB g b.ab (r4 λ i => .bool (as_ i))) : W (S38 E [.ptr b.x 0] g) λ v g' => (∃ c, v = .int .i64 (.ofNat c)) /\ g' = g := by
 have o : aB g b.x [.ptr pa 0, .int .i64 (.ofNat 0), .int .i64 (.ofNat 2), .int .i64 (.ofNat 1), .int .i64 (.ofNat 1), .int .i64 (.ofNat n), .slc b.c 0 4 4 true, .int .i64 (.ofNat (cR n 4)), .slc b.fb 0 4 4 false, .slc b.ab 0 4 4 false, .slc b.cb 0 4 4 false] := to_; show W (aQz E (.ptr b.x 0) g) _; unfold aQz
 repeat' (first | with_reducible refine sT ?_ | with_reducible refine sF ?_ | with_reducible refine g1 ?_ | with_reducible refine g2 ?_ | with_reducible refine g3 ?_ | with_reducible refine g4 ?_ | ((with_reducible apply sV); first | exact aB.read (by assumption) (by rfl) | exact aB.readN (by assumption) (Nat.le_of_ble_eq_true rfl) | exact eG (by omega) | exact eH (by omega) | exact gtT (by omega) | exact gtF (by omega) | exact eI (by omega) | exact eJ (by omega) | exact geT (by omega) | exact geF (by omega) | exact dZ (by omega) | exact eK (by omega) | exact eE (by omega) | exact eF (by omega) | exact aD (by omega) | exact bT (by omega) | exact aE (by omega) (by omega) | exact aG (by omega) _ | exact aI _ _ _ _ | exact aJ _ _ _ _ | exact aF _ _ _ | exact rfl) | exact W.ret ⟨rfl, rfl⟩ | with_reducible refine W.ret ?_)
 have := aGU (E := E) ta 4 0 (aT - 5) 0 rfl (Nat.le_refl _); rw [show aT - 5 + (4 + 1) = aT from by unfold aT; omega] at this
 exact this
theorem bKI (q : LOk n text L) (hn : text.length = n) {k z i : Nat} (hi : i < 4) (h1 : i * cR n 4 <= k) (h2 : k <= z) (h3 : z <= (i + 1) * cR n 4) (h4 : z <= n) :
   ((L i).take (z - i * cR n 4)).drop (k - i * cR n 4) = (text.take z).drop k := by
 generalize hg : cR n 4 = lg at *; have ok := q.ok; rw [hg] at ok; have hj := q.join; have ht : text.take z = ((l4 L).flatten).take z := by
   rw [<- hj, List.take_take]; congr 1; omega
 rw [ht]; have e0 := (ok 0 (by decide)).2; have e1 := (ok 1 (by decide)).2; have e2 := (ok 2 (by decide)).2; have e3 := (ok 3 (by decide)).2
 have hf : (l4 L).flatten = L 0 ++ (L 1 ++ (L 2 ++ L 3)) := by simp [l4]
 rw [hf]; apply List.ext_getElem?; intro j; rw [List.getElem?_drop, List.getElem?_drop, List.getElem?_take, List.getElem?_take]; rcases lt4 hi with rfl | rfl | rfl | rfl
 · by_cases hjj : k + j < z
   · rw [if_pos (by omega), if_pos hjj, List.getElem?_append_left (by omega)]; congr 1; omega
   · rw [if_neg (by omega), if_neg hjj]
 · by_cases hjj : k + j < z
   · rw [if_pos (by omega), if_pos hjj, List.getElem?_append_right (by omega), List.getElem?_append_left (by omega)]; congr 1; omega
   · rw [if_neg (by omega), if_neg hjj]
 · by_cases hjj : k + j < z
   · rw [if_pos (by omega), if_pos hjj, List.getElem?_append_right (by omega), List.getElem?_append_right (by omega), List.getElem?_append_left (by omega)]; congr 1; omega
   · rw [if_neg (by omega), if_neg hjj]
 · by_cases hjj : k + j < z
   · rw [if_pos (by omega), if_pos hjj, List.getElem?_append_right (by omega), List.getElem?_append_right (by omega), List.getElem?_append_right (by omega)]; congr 1; omega
   · rw [if_neg (by omega), if_neg hjj]
end
section
variable {n : Nat} {A : Re} {g g' : H} {pa pm sv lb : Nat} {S : List dH} {X : List fM} {L : Nat -> Ln} {dn : Nat -> Bool} {text : Ln}
structure aCq (E : bF) (m : Nat) : Prop where
 ask : ∀ a b, aC E 39 a b = S39 (EL (m + 61)) a b
 ct : ∃ F, ∀ a b, aC E 38 a b = S38 F a b
 wh : ∃ G M m', (∀ a b, aC E 35 a b = S35 G a b) /\ (∀ a b, aC G 36 a b = S36 M a b) /\ (∀ a b, aC M 39 a b = S39 (EL (m' + 61)) a b) /\ fT G 66 vQ /\ fT G 67 oS
theorem aLu {E : bF} {m : Nat} (K : aCq E m) (h1 : 1 <= n) (h2 : n <= 65536) (hS : S.length = 4) (hX : kG X L dn) (q : LOk n text L) (hn : text.length = n) (hm : (fR dn 4).length <= 1) {b : StB} (hsv : ∀ c, svF S sv lb c -> c < b.fb) {at_ cnt : Nat} (ha : at_ + cnt <= n)
   (r : iC n hC A g pa pm sv lb S X) {as_ : Nat -> Bool} (t : qJ g A n pa b L dn as_) :
   W (aBP E (.int .i64 (.ofNat at_)) (.int .i64 (.ofNat cnt)) (.ptr b.x 0) aT (.bool true) g) λ v g' => (∃ c, v = .tup [.str ((text.take (at_ + cnt)).drop at_), .int .i64 (.ofNat c), .int .i64 (.ofNat 0)]) /\ iC n hC A g' pa pm sv lb S X := by
 obtain ⟨G, M, m', w1, w2, w3, hG, hJ⟩ := K.wh; obtain ⟨F, ct⟩ := K.ct; obtain ⟨w, gg, e1, rfl, r1, as1, o1, a1⟩ := aEK h1 h2 r hS hX q m' w2 w3 hG hJ t hsv; obtain ⟨_, gh, e2, ⟨c, rfl⟩, rfl⟩ := aAR (E := F) o1 a1; rw [if_neg (by omega)] at e1
 show W (aYy E _ _ _ (aBP E _ _ _ (aT - 1)) _ g) _; unfold aYy
 repeat' (first | with_reducible refine sT ?_ | with_reducible refine sF ?_ | with_reducible refine g1 ?_ | with_reducible refine g2 ?_ | with_reducible refine g3 ?_ | with_reducible refine g4 ?_ | ((with_reducible apply sV); first | exact aB.read (by assumption) (by rfl) | exact aB.readN (by assumption) (Nat.le_of_ble_eq_true rfl) | exact eG (by omega) | exact eH (by omega) | exact gtT (by omega) | exact gtF (by omega) | exact eI (by omega) | exact eJ (by omega) | exact geT (by omega) | exact geF (by omega) | exact dZ (by omega) | exact eK (by omega) | exact eE (by omega) | exact eF (by omega) | exact aD (by omega) | exact bT (by omega) | exact aE (by omega) (by omega) | exact aG (by omega) _ | exact aI _ _ _ _ | exact aJ _ _ _ _ | exact aF _ _ _ | exact rfl) | exact W.ret ⟨rfl, rfl⟩ | with_reducible refine W.ret ?_)
 rw [w1]; refine sW e1 ?_
 repeat' (first | with_reducible refine sT ?_ | with_reducible refine sF ?_ | with_reducible refine g1 ?_ | with_reducible refine g2 ?_ | with_reducible refine g3 ?_ | with_reducible refine g4 ?_ | ((with_reducible apply sV); first | exact rU (by omega) (by omega) .i64 .i64 | exact aB.read (by assumption) (by rfl) | exact aB.readN (by assumption) (Nat.le_of_ble_eq_true rfl) | exact eG (by omega) | exact eH (by omega) | exact gtT (by omega) | exact gtF (by omega) | exact eI (by omega) | exact eJ (by omega) | exact geT (by omega) | exact geF (by omega) | exact dZ (by omega) | exact eK (by omega) | exact eE (by omega) | exact eF (by omega) | exact aD (by omega) | exact bT (by omega) | exact aE (by omega) (by omega) | exact aG (by omega) _ | exact aI _ _ _ _ | exact aJ _ _ _ _ | exact aF _ _ _ | exact rfl) | exact W.ret ⟨rfl, rfl⟩ | with_reducible refine W.ret ?_)
 rw [ct]; refine sW e2 ?_
 repeat' (first | with_reducible refine sT ?_ | with_reducible refine sF ?_ | with_reducible refine g1 ?_ | with_reducible refine g2 ?_ | with_reducible refine g3 ?_ | with_reducible refine g4 ?_ | ((with_reducible apply sV); first | exact aB.read (by assumption) (by rfl) | exact aB.readN (by assumption) (Nat.le_of_ble_eq_true rfl) | exact eG (by omega) | exact eH (by omega) | exact gtT (by omega) | exact gtF (by omega) | exact eI (by omega) | exact eJ (by omega) | exact geT (by omega) | exact geF (by omega) | exact dZ (by omega) | exact eK (by omega) | exact eE (by omega) | exact eF (by omega) | exact aD (by omega) | exact bT (by omega) | exact aE (by omega) (by omega) | exact aG (by omega) _ | exact aI _ _ _ _ | exact aJ _ _ _ _ | exact aF _ _ _ | exact rfl) | exact W.ret ⟨rfl, rfl⟩ | with_reducible refine W.ret ?_)
 exact ⟨⟨c, rfl⟩, r1⟩
end
theorem aTH {s : Ln} {a k z : Nat} (h1 : a <= k) (h2 : k <= z) (h3 : z <= s.length) : (s.take k).drop a ++ (s.take z).drop k = (s.take z).drop a := by
 have e : s.take k = (s.take z).take k := by rw [List.take_take]; congr 1; omega
 rw [e, List.drop_take]; have := List.take_append_drop (k - a) ((s.take z).drop a); rw [List.drop_drop, show a + (k - a) = k from by omega] at this
 exact this
section
variable {n : Nat} {A : Re} {g g' : H} {pa pm sv lb : Nat} {S : List dH} {X : List fM} {L : Nat -> Ln} {dn : Nat -> Bool} {text : Ln}
theorem aIM {E : bF} {m : Nat} (K : aCq E m) (h1 : 1 <= n) (h2 : n <= 1536) (hS : S.length = 4) (hX : kG X L dn) (q : LOk n text L) (hn : text.length = n) (hok : aW text = true) (hm : (fR dn 4).length <= 1) {b : StB} (hsv : ∀ c, svF S sv lb c -> c < b.fb) {at_ cnt : Nat} (ha : at_ + cnt <= n) {n0 : Nat} (hn0 : b.x < n0) :
   ∀ (d k f : Nat) (g : H) (v : DV) (as_ : Nat -> Bool), at_ + cnt <= k + d -> at_ <= k -> k <= at_ + cnt -> n0 <= g.size -> iC n hC A g pa pm sv lb S X -> qJ g A n pa b L dn as_ -> cI n0 g v (aY ((text.take k).drop at_)) ->
   W (aFU E (.int .i64 (.ofNat at_)) (.int .i64 (.ofNat cnt)) (.ptr b.x 0) (.int .i64 (.ofNat (at_ + cnt))) (f + (d + 1)) v (.int .i64 (.ofNat k)) g) λ v g' => (∃ c, v = .tup [.str ((text.take (at_ + cnt)).drop at_), .int .i64 (.ofNat c), .int .i64 (.ofNat 0)]) /\ iC n hC A g' pa pm sv lb S X := by
 have hlg : 1 <= cR n 4 := by unfold cR; omega
 have hlg2 : n <= cR n 4 * 3 := by unfold cR; omega
 have hlg3 : cR n 4 <= 512 := q.n5; obtain ⟨F, ct⟩ := K.ct; intro d
 induction d with
 | zero =>
   intro k f g v as_ h3 h4 h5 hg r t o; have hk : k = at_ + cnt := by omega
   subst hk; obtain ⟨_, gh, e2, ⟨c, rfl⟩, rfl⟩ := aAR (E := F) t.o t.a; have hb : iQ gh.get v = some (.str ((text.take (at_ + cnt)).drop at_)) := o.text (mK hok λ b hb => List.mem_of_mem_take (List.mem_of_mem_drop hb))
   show W (aKW E _ _ _ _ (aFU E _ _ _ _ f) _ _ gh) _; unfold aKW aKC
   repeat' (first | with_reducible refine sT ?_ | with_reducible refine sF ?_ | with_reducible refine g1 ?_ | with_reducible refine g2 ?_ | with_reducible refine g3 ?_ | with_reducible refine g4 ?_ | ((with_reducible apply sV); first | exact hb | exact aB.read (by assumption) (by rfl) | exact aB.readN (by assumption) (Nat.le_of_ble_eq_true rfl) | exact eG (by omega) | exact eH (by omega) | exact gtT (by omega) | exact gtF (by omega) | exact eI (by omega) | exact eJ (by omega) | exact geT (by omega) | exact geF (by omega) | exact dZ (by omega) | exact eK (by omega) | exact eE (by omega) | exact eF (by omega) | exact aD (by omega) | exact bT (by omega) | exact aE (by omega) (by omega) | exact aG (by omega) _ | exact aI _ _ _ _ | exact aJ _ _ _ _ | exact aF _ _ _ | exact rfl) | exact W.ret ⟨rfl, rfl⟩ | with_reducible refine W.ret ?_)
   rw [ct]; refine sW e2 ?_; rw [rck (rcI hb (by simp [jR]))]
   repeat' (first | with_reducible refine sT ?_ | with_reducible refine sF ?_ | with_reducible refine g1 ?_ | with_reducible refine g2 ?_ | with_reducible refine g3 ?_ | with_reducible refine g4 ?_ | ((with_reducible apply sV); first | exact aB.read (by assumption) (by rfl) | exact aB.readN (by assumption) (Nat.le_of_ble_eq_true rfl) | exact eG (by omega) | exact eH (by omega) | exact gtT (by omega) | exact gtF (by omega) | exact eI (by omega) | exact eJ (by omega) | exact geT (by omega) | exact geF (by omega) | exact dZ (by omega) | exact eK (by omega) | exact eE (by omega) | exact eF (by omega) | exact aD (by omega) | exact bT (by omega) | exact aE (by omega) (by omega) | exact aG (by omega) _ | exact aI _ _ _ _ | exact aJ _ _ _ _ | exact aF _ _ _ | exact rfl) | exact W.ret ⟨rfl, rfl⟩ | with_reducible refine W.ret ?_)
   exact ⟨⟨c, rfl⟩, r⟩
 | succ d ih =>
   intro k f g v as_ h3 h4 h5 hg r t o; show W (aKW E _ _ _ _ (aFU E _ _ _ _ (f + (d + 1))) _ _ g) _; unfold aKW; by_cases hk : k < at_ + cnt
   · have ol : aB g b.x [.ptr pa 0, .int .i64 (.ofNat 0), .int .i64 (.ofNat 2), .int .i64 (.ofNat 1), .int .i64 (.ofNat 1), .int .i64 (.ofNat n), .slc b.c 0 4 4 true, .int .i64 (.ofNat (cR n 4)), .slc b.fb 0 4 4 false, .slc b.ab 0 4 4 false, .slc b.cb 0 4 4 false] := t.o; have hi3 : k / cR n 4 < 3 := by rw [Nat.div_lt_iff_lt_mul (by omega)]; rw [Nat.mul_comm] at hlg2; omega
     have hle : k / cR n 4 * cR n 4 <= k := Nat.div_mul_le_self _ _; have hlt : k < (k / cR n 4 + 1) * cR n 4 := by rw [Nat.add_mul, Nat.one_mul]; have := Nat.div_add_mod k (cR n 4); have := Nat.mod_lt k (show 0 < cR n 4 by omega); rw [Nat.mul_comm]; omega
     have hquo : aBi (.int .i64 (.ofNat k)) (.int .i64 (.ofNat (cR n 4))) = some (.int .i64 (.ofNat (k / cR n 4))) := aAs (by omega) (by omega)
     have hsm : (k / cR n 4 + 1) * cR n 4 <= 3 * 512 := Nat.mul_le_mul (by omega) hlg3
     obtain ⟨_, gg, e1, rfl, k1, r1, t1⟩ := aOV h1 (by omega) r hS hX (λ i hi => (q.ok i hi).2) m t hsv (i := k / cR n 4) (by omega)
     have hlt0 : ∀ c, stF A b c -> c < n0 := λ c hc => by have := aST t hc; omega
     have o1 := aCT o k1 hlt0; have z1 := k1.size; generalize hiv : k / cR n 4 = i at *; generalize hlgv : cR n 4 = lg at *; have ol1 : aB gg b.x [.ptr pa 0, .int .i64 (.ofNat 0), .int .i64 (.ofNat 2), .int .i64 (.ofNat 1), .int .i64 (.ofNat 1), .int .i64 (.ofNat n), .slc b.c 0 4 4 true, .int .i64 (.ofNat lg), .slc b.fb 0 4 4 false, .slc b.ab 0 4 4 false, .slc b.cb 0 4 4 false] := by
       have := t1.o; unfold aLl at this; rw [hlgv] at this; exact this
     repeat' (first | with_reducible refine sT ?_ | with_reducible refine sF ?_ | with_reducible refine g1 ?_ | with_reducible refine g2 ?_ | with_reducible refine g3 ?_ | with_reducible refine g4 ?_ | ((with_reducible apply sV); first | exact hquo | exact aB.read (by assumption) (by rfl) | exact aB.readN (by assumption) (Nat.le_of_ble_eq_true rfl) | exact eG (by omega) | exact eH (by omega) | exact gtT (by omega) | exact gtF (by omega) | exact eI (by omega) | exact eJ (by omega) | exact geT (by omega) | exact geF (by omega) | exact dZ (by omega) | exact eK (by omega) | exact eE (by omega) | exact eF (by omega) | exact aD (by omega) | exact bT (by omega) | exact aE (by omega) (by omega) | exact aG (by omega) _ | exact aI _ _ _ _ | exact aJ _ _ _ _ | exact aF _ _ _ | exact rfl) | exact W.ret ⟨rfl, rfl⟩ | with_reducible refine W.ret ?_)
     rw [K.ask]; refine sW e1 ?_; cases hd : dn i with
     | true =>
       simp only [Bool.not_true]
       repeat' (first | with_reducible refine sT ?_ | with_reducible refine sF ?_ | with_reducible refine g1 ?_ | with_reducible refine g2 ?_ | with_reducible refine g3 ?_ | with_reducible refine g4 ?_ | ((with_reducible apply sV); first | exact aB.read (by assumption) (by rfl) | exact aB.readN (by assumption) (Nat.le_of_ble_eq_true rfl) | exact eG (by omega) | exact eH (by omega) | exact gtT (by omega) | exact gtF (by omega) | exact eI (by omega) | exact eJ (by omega) | exact geT (by omega) | exact geF (by omega) | exact dZ (by omega) | exact eK (by omega) | exact eE (by omega) | exact eF (by omega) | exact aD (by omega) | exact bT (by omega) | exact aE (by omega) (by omega) | exact aG (by omega) _ | exact aI _ _ _ _ | exact aJ _ _ _ _ | exact aF _ _ _ | exact rfl) | exact W.ret ⟨rfl, rfl⟩ | with_reducible refine W.ret ?_)
       exact aLu K h1 (by omega) hS hX q hn hm hsv ha r1 t1
     | false =>
       simp only [Bool.not_false]; have lf : aO gg.get (.ptr b.fb i) = some (.str (L i)) := by
         rw [t1.f.read (uS (by omega))]
         simp [frg, hd]
       have hli := (q.ok i (by omega)).2
       rw [hlgv] at hli; have pc := bKI q hn (k := k) (z := min (at_ + cnt) ((i + 1) * lg)) (i := i) (by omega) (by rw [hlgv]; exact hle) (by omega) (by rw [hlgv]; omega) (by omega)
       rw [hlgv] at pc; have hil : i * lg <= 3 * 512 := Nat.mul_le_mul (by omega) hlg3
       have hmi : min (at_ + cnt) ((i + 1) * lg) - i * lg <= lg := by rw [Nat.add_mul, Nat.one_mul]; omega
       obtain ⟨v', gh, e3, o2, k2⟩ := o1.appendStr (by omega) ((text.take (min (at_ + cnt) ((i + 1) * lg))).drop k) (by simp only [List.length_drop, List.length_take]; omega)
       repeat' (first | with_reducible refine sT ?_ | with_reducible refine sF ?_ | with_reducible refine g1 ?_ | with_reducible refine g2 ?_ | with_reducible refine g3 ?_ | with_reducible refine g4 ?_ | ((with_reducible apply sV); first | exact hquo | exact aJf (by omega) | exact lf | exact rU (by omega) (by omega) .i64 .i64 | exact aB.read (by assumption) (by rfl) | exact aB.readN (by assumption) (Nat.le_of_ble_eq_true rfl) | exact eG (by omega) | exact eH (by omega) | exact gtT (by omega) | exact gtF (by omega) | exact eI (by omega) | exact eJ (by omega) | exact geT (by omega) | exact geF (by omega) | exact dZ (by omega) | exact eK (by omega) | exact eE (by omega) | exact eF (by omega) | exact aD (by omega) | exact bT (by omega) | exact aE (by omega) (by omega) | exact aG (by omega) _ | exact aI _ _ _ _ | exact aJ _ _ _ _ | exact aF _ _ _ | exact rfl) | exact W.ret ⟨rfl, rfl⟩ | with_reducible refine W.ret ?_)
       rw [pc]; refine sW e3 ?_; have hcat : (text.take k).drop at_ ++ (text.take (min (at_ + cnt) ((i + 1) * lg))).drop k = (text.take (min (at_ + cnt) ((i + 1) * lg))).drop at_ := aTH h4 (by omega) (by omega)
       rw [hcat] at o2; have har : ∀ c, arF A S sv lb c -> c < n0 := λ c hc => by
         rcases hc with h | h
         · exact hlt0 c (.inl h)
         · have := hsv c h; have := t.ne; omega
       exact ih _ f gh v' _ (by omega) (by omega) (by omega) (by have := k2.size; omega) (r1.keep k2 har) (t1.keep k2 hn0) o2
   · have hk : k = at_ + cnt := by omega
     subst hk; obtain ⟨_, gh, e2, ⟨c, rfl⟩, rfl⟩ := aAR (E := F) t.o t.a; have hb : iQ gh.get v = some (.str ((text.take (at_ + cnt)).drop at_)) := o.text (mK hok λ b hb => List.mem_of_mem_take (List.mem_of_mem_drop hb))
     unfold aKC
     repeat' (first | with_reducible refine sT ?_ | with_reducible refine sF ?_ | with_reducible refine g1 ?_ | with_reducible refine g2 ?_ | with_reducible refine g3 ?_ | with_reducible refine g4 ?_ | ((with_reducible apply sV); first | exact hb | exact aB.read (by assumption) (by rfl) | exact aB.readN (by assumption) (Nat.le_of_ble_eq_true rfl) | exact eG (by omega) | exact eH (by omega) | exact gtT (by omega) | exact gtF (by omega) | exact eI (by omega) | exact eJ (by omega) | exact geT (by omega) | exact geF (by omega) | exact dZ (by omega) | exact eK (by omega) | exact eE (by omega) | exact eF (by omega) | exact aD (by omega) | exact bT (by omega) | exact aE (by omega) (by omega) | exact aG (by omega) _ | exact aI _ _ _ _ | exact aJ _ _ _ _ | exact aF _ _ _ | exact rfl) | exact W.ret ⟨rfl, rfl⟩ | with_reducible refine W.ret ?_)
     rw [ct]; refine sW e2 ?_; rw [rck (rcI hb (by simp [jR]))]
     repeat' (first | with_reducible refine sT ?_ | with_reducible refine sF ?_ | with_reducible refine g1 ?_ | with_reducible refine g2 ?_ | with_reducible refine g3 ?_ | with_reducible refine g4 ?_ | ((with_reducible apply sV); first | exact aB.read (by assumption) (by rfl) | exact aB.readN (by assumption) (Nat.le_of_ble_eq_true rfl) | exact eG (by omega) | exact eH (by omega) | exact gtT (by omega) | exact gtF (by omega) | exact eI (by omega) | exact eJ (by omega) | exact geT (by omega) | exact geF (by omega) | exact dZ (by omega) | exact eK (by omega) | exact eE (by omega) | exact eF (by omega) | exact aD (by omega) | exact bT (by omega) | exact aE (by omega) (by omega) | exact aG (by omega) _ | exact aI _ _ _ _ | exact aJ _ _ _ _ | exact aF _ _ _ | exact rfl) | exact W.ret ⟨rfl, rfl⟩ | with_reducible refine W.ret ?_)
     exact ⟨⟨c, rfl⟩, r⟩
theorem aRv {E F F' : bF} {m : Nat} (K : aCq E m) (hof : ∀ a b, aC E 34 a b = S34 F a b) (hE : mC (Vn n (oL n)) Es F) (hM : F 41 = some (S41 F')) (hLo : fT F 57 kT) (h1 : 1 <= n) (h2 : n <= 1536) (r : iC n hC A g pa pm sv lb S X) (hS : S.length = 4) (hX : kG X L dn) (q : LOk n text L) (hn : text.length = n) (hok : aW text = true) (hm : (fR dn 4).length <= 1) {at_ cnt : Nat} (ha : at_ + cnt <= n) :
   W (S16 E [.ptr pa 0, .int .i64 (.ofNat 0), .int .i64 (.ofNat at_), .int .i64 (.ofNat cnt)] g) λ v g' => (∃ c, v = .tup [.str ((text.take (at_ + cnt)).drop at_), .int .i64 (.ofNat c), .int .i64 (.ofNat 0)]) /\ iC n hC A g' pa pm sv lb S X := by
 obtain ⟨_, gg, e1, b, rfl, r1, t1, k1, _⟩ := aIR hE hM hLo (by omega) r L dn
 have ol : aB gg b.x [.ptr pa 0, .int .i64 (.ofNat 0), .int .i64 (.ofNat 2), .int .i64 (.ofNat 1), .int .i64 (.ofNat 1), .int .i64 (.ofNat n), .slc b.c 0 4 4 true, .int .i64 (.ofNat (cR n 4)), .slc b.fb 0 4 4 false, .slc b.ab 0 4 4 false, .slc b.cb 0 4 4 false] := t1.o; show W (aFZ E (.ptr pa 0) (.int .i64 (.ofNat 0)) (.int .i64 (.ofNat at_)) (.int .i64 (.ofNat cnt)) g) _; unfold aFZ; rw [hof]; refine sW e1 ?_
 repeat' (first | with_reducible refine sT ?_ | with_reducible refine sF ?_ | with_reducible refine g1 ?_ | with_reducible refine g2 ?_ | with_reducible refine g3 ?_ | with_reducible refine g4 ?_ | ((with_reducible apply sV); first | exact nY _ _ | exact nZ _ _ | exact aB.read (by assumption) (by rfl) | exact aB.readN (by assumption) (Nat.le_of_ble_eq_true rfl) | exact eG (by omega) | exact eH (by omega) | exact gtT (by omega) | exact gtF (by omega) | exact eI (by omega) | exact eJ (by omega) | exact geT (by omega) | exact geF (by omega) | exact dZ (by omega) | exact eK (by omega) | exact eE (by omega) | exact eF (by omega) | exact aD (by omega) | exact bT (by omega) | exact aE (by omega) (by omega) | exact aG (by omega) _ | exact aI _ _ _ _ | exact aJ _ _ _ _ | exact aF _ _ _ | exact rfl) | exact W.ret ⟨rfl, rfl⟩ | with_reducible refine W.ret ?_)
 have := aIM K h1 h2 hS hX q hn hok hm k1 ha (n0 := gg.size) t1.o.1 cnt at_ (aT - (cnt + 1)) gg .nils _ (Nat.le_refl _) (Nat.le_refl _) (by omega) (Nat.le_refl _) r1 t1 (by
   have : (text.take at_).drop at_ = [] := by simp
   rw [this]; exact cI.nil _ _)
 rw [show aT - (cnt + 1) + (cnt + 1) = aT from by unfold aT; omega] at this
 exact this
theorem aTp {E F F' : bF} (hof : ∀ a b, aC E 34 a b = S34 F a b) (hE : mC (Vn n (oL n)) Es F) (hM : F 41 = some (S41 F')) (hLo : fT F 57 kT) (h2 : n <= 1536) (r : iC n hC A g pa pm sv lb S X) (L : Nat -> Ln) (dn : Nat -> Bool) {at_ cnt : Int} (ha : at_ < 0 \/ cnt < 0 \/ (n : Int) < at_ \/ (n : Int) - at_ < cnt) :
   W (S16 E [.ptr pa 0, .int .i64 (.ofNat 0), .int .i64 at_, .int .i64 cnt] g) λ v g' => v = .tup [.str [], .int .i64 (.ofNat 0), .int .i64 (.ofNat 1)] /\ iC n hC A g' pa pm sv lb S X := by
 obtain ⟨_, gg, e1, b, rfl, r1, t1, k1, _⟩ := aIR hE hM hLo (by omega) r L dn
 have ol : aB gg b.x [.ptr pa 0, .int .i64 (.ofNat 0), .int .i64 (.ofNat 2), .int .i64 (.ofNat 1), .int .i64 (.ofNat 1), .int .i64 (.ofNat n), .slc b.c 0 4 4 true, .int .i64 (.ofNat (cR n 4)), .slc b.fb 0 4 4 false, .slc b.ab 0 4 4 false, .slc b.cb 0 4 4 false] := t1.o; show W (aFZ E (.ptr pa 0) (.int .i64 (.ofNat 0)) (.int .i64 at_) (.int .i64 cnt) g) _; unfold aFZ; rw [hof]; refine sW e1 ?_; by_cases a0 : at_ < 0
 · repeat' (first | with_reducible refine sT ?_ | with_reducible refine sF ?_ | with_reducible refine g1 ?_ | with_reducible refine g2 ?_ | with_reducible refine g3 ?_ | with_reducible refine g4 ?_ | with_reducible refine g5 ?_ | ((with_reducible apply sV); first | exact oP _ a0 | exact nY _ _ | exact nZ _ _ | exact aB.read (by assumption) (by rfl) | exact aB.readN (by assumption) (Nat.le_of_ble_eq_true rfl) | exact eG (by omega) | exact eH (by omega) | exact gtT (by omega) | exact gtF (by omega) | exact eI (by omega) | exact eJ (by omega) | exact geT (by omega) | exact geF (by omega) | exact dZ (by omega) | exact eK (by omega) | exact eE (by omega) | exact eF (by omega) | exact aD (by omega) | exact bT (by omega) | exact aE (by omega) (by omega) | exact aG (by omega) _ | exact aI _ _ _ _ | exact aJ _ _ _ _ | exact aF _ _ _ | exact rfl) | exact W.ret ⟨rfl, rfl⟩ | with_reducible refine W.ret ?_)
   exact ⟨rfl, r1⟩
 · obtain ⟨at', rfl⟩ : ∃ k : Nat, at_ = .ofNat k := ⟨at_.toNat, (Int.toNat_of_nonneg (by omega)).symm⟩
   by_cases c0 : cnt < 0
   · repeat' (first | with_reducible refine sT ?_ | with_reducible refine sF ?_ | with_reducible refine g1 ?_ | with_reducible refine g2 ?_ | with_reducible refine g3 ?_ | with_reducible refine g4 ?_ | with_reducible refine g5 ?_ | ((with_reducible apply sV); first | exact oP _ c0 | exact nY _ _ | exact nZ _ _ | exact aB.read (by assumption) (by rfl) | exact aB.readN (by assumption) (Nat.le_of_ble_eq_true rfl) | exact eG (by omega) | exact eH (by omega) | exact gtT (by omega) | exact gtF (by omega) | exact eI (by omega) | exact eJ (by omega) | exact geT (by omega) | exact geF (by omega) | exact dZ (by omega) | exact eK (by omega) | exact eE (by omega) | exact eF (by omega) | exact aD (by omega) | exact bT (by omega) | exact aE (by omega) (by omega) | exact aG (by omega) _ | exact aI _ _ _ _ | exact aJ _ _ _ _ | exact aF _ _ _ | exact rfl) | exact W.ret ⟨rfl, rfl⟩ | with_reducible refine W.ret ?_)
     exact ⟨rfl, r1⟩
   · obtain ⟨cn, rfl⟩ : ∃ k : Nat, cnt = .ofNat k := ⟨cnt.toNat, (Int.toNat_of_nonneg (by omega)).symm⟩
     simp only [Int.ofNat_eq_natCast] at ha; by_cases a1 : n < at'
     · repeat' (first | with_reducible refine sT ?_ | with_reducible refine sF ?_ | with_reducible refine g1 ?_ | with_reducible refine g2 ?_ | with_reducible refine g3 ?_ | with_reducible refine g4 ?_ | with_reducible refine g5 ?_ | ((with_reducible apply sV); first | exact nY _ _ | exact nZ _ _ | exact aB.read (by assumption) (by rfl) | exact aB.readN (by assumption) (Nat.le_of_ble_eq_true rfl) | exact eG (by omega) | exact eH (by omega) | exact gtT (by omega) | exact gtF (by omega) | exact eI (by omega) | exact eJ (by omega) | exact geT (by omega) | exact geF (by omega) | exact dZ (by omega) | exact eK (by omega) | exact eE (by omega) | exact eF (by omega) | exact aD (by omega) | exact bT (by omega) | exact aE (by omega) (by omega) | exact aG (by omega) _ | exact aI _ _ _ _ | exact aJ _ _ _ _ | exact aF _ _ _ | exact rfl) | exact W.ret ⟨rfl, rfl⟩ | with_reducible refine W.ret ?_)
       exact ⟨rfl, r1⟩
     · have c1 : n - at' < cn := by omega
       repeat' (first | with_reducible refine sT ?_ | with_reducible refine sF ?_ | with_reducible refine g1 ?_ | with_reducible refine g2 ?_ | with_reducible refine g3 ?_ | with_reducible refine g4 ?_ | with_reducible refine g5 ?_ | ((with_reducible apply sV); first | exact nY _ _ | exact nZ _ _ | exact aB.read (by assumption) (by rfl) | exact aB.readN (by assumption) (Nat.le_of_ble_eq_true rfl) | exact eG (by omega) | exact eH (by omega) | exact gtT (by omega) | exact gtF (by omega) | exact eI (by omega) | exact eJ (by omega) | exact geT (by omega) | exact geF (by omega) | exact dZ (by omega) | exact eK (by omega) | exact eE (by omega) | exact eF (by omega) | exact aD (by omega) | exact bT (by omega) | exact aE (by omega) (by omega) | exact aG (by omega) _ | exact aI _ _ _ _ | exact aJ _ _ _ _ | exact aF _ _ _ | exact rfl) | exact W.ret ⟨rfl, rfl⟩ | with_reducible refine W.ret ?_)
       exact ⟨rfl, r1⟩
end
end Go.Proofs.YthpciaidbgjoeaaGreat
