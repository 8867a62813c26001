/- Specs. No condition beyond the theorems' own. -/
import Derived.Test.YthpciaidbgjoeaaGreatS5
set_option linter.unusedVariables false
set_option linter.unusedSimpArgs false
namespace Go.Proofs.YthpciaidbgjoeaaGreat
open Go.DI
def l4 (F : Nat -> Ln) : List (Ln) := [F 0, F 1, F 2, F 3]
theorem aLG {F : Nat -> Ln} {t : Ln} (h : t ∈ l4 F) : ∃ i, i < 4 /\ t = F i := by
 unfold l4 at h; simp only [List.mem_cons, List.not_mem_nil, or_false] at h; rcases h with rfl | rfl | rfl | rfl
 · exact ⟨0, by decide, rfl⟩
 · exact ⟨1, by decide, rfl⟩
 · exact ⟨2, by decide, rfl⟩
 · exact ⟨3, by decide, rfl⟩
theorem bEf {F G : Nat -> Ln} {i : Nat} (hi : i < 4) (h : ∀ j, j < 4 -> j ≠ i -> F j = G j) : tM (l4 F) i = tM (l4 G) i := by
 rcases lt4 hi with rfl | rfl | rfl | rfl <;> simp [tM, l4, h]
theorem bDM {h : H} {b : Nat} {F : Nat -> Ln} (o : aB h b (r4 λ i => .str (F i))) : mB h (.slc b 0 4 4 false) (iT (l4 F)) :=
 .inr ⟨b, 0, 4, false, rfl, Nat.le_refl 4, o.1, λ j x hj => by rw [Nat.zero_add]; exact o.rd hj⟩
theorem wB {dn : Nat -> Bool} {i : Nat} : i ∈ fR dn 4 ↔ i < 4 /\ dn i = true := by
 unfold fR; rw [List.mem_filter, List.mem_range]
structure LOk (n : Nat) (text : Ln) (L : Nat -> Ln) : Prop where
 ok : ∀ i, i < 4 -> aW (L i) = true /\ (L i).length = cR n 4
 n5 : cR n 4 <= 512
 give : ∀ i, i < 4 -> (eZ cL (tM (l4 L) i)).take (cR n 4) = L i
 join : (l4 L).flatten.take n = text
 le : n <= cR n 4 * 4
section
variable {n : Nat} {A : Re} {g g' : H} {pa pm sv lb : Nat} {S : List dH} {X : List fM} {L : Nat -> Ln} {dn : Nat -> Bool} {text : Ln}
theorem aJc {E : bF} (hJ : fT E 67 oS) (h2 : n <= 65536) (q : LOk n text L) {b : StB} (r : iC n hC A g pa pm sv lb S X) (o : aB g b.x (aLl n pa b)) (f : aB g b.fb (r4 λ i => .str (L i))) {as_ : Nat -> Bool} (oa : aB g b.ab (r4 λ i => .bool (as_ i))) :
   W (aKB E (.ptr b.x 0) g) λ w g' => w = .tup [.str text, .int .i64 (.ofNat 0)] /\ iC n hC A g' pa pm sv lb S X /\ ∃ as_ : Nat -> Bool, aB g' b.x (aLl n pa b) /\ aB g' b.ab (r4 λ i => .bool (as_ i)) := by
 obtain ⟨BJ, bJ, sJ⟩ := hJ.call; have o' : aB g b.x [.ptr pa 0, .int .i64 (.ofNat 0), .int .i64 (.ofNat 2), .int .i64 (.ofNat 1), .int .i64 (.ofNat 1), .int .i64 (.ofNat n), .slc b.c 0 4 4 true, .int .i64 (.ofNat (cR n 4)), .slc b.fb 0 4 4 false, .slc b.ab 0 4 4 false, .slc b.cb 0 4 4 false] := o; obtain ⟨h', e1, k1⟩ := sJ _ (l4 L) n g (bDM f) (Nat.le_of_ble_eq_true rfl) (Nat.le_of_ble_eq_true rfl) h2 q.n5 (λ t ht => by
   obtain ⟨i, hi, rfl⟩ := aLG ht; exact q.ok i hi) q.le
 rw [q.join] at e1; unfold aKB
 repeat' (first | with_reducible refine sT ?_ | with_reducible refine sF ?_ | with_reducible refine g1 ?_ | with_reducible refine g2 ?_ | with_reducible refine g3 ?_ | with_reducible refine g4 ?_ | refine sC bJ e1 ?_ | ((with_reducible apply sV); first | exact aB.read (by assumption) (by rfl) | exact aB.readN (by assumption) (Nat.le_of_ble_eq_true rfl) | exact eG (by omega) | exact eH (by omega) | exact gtT (by omega) | exact gtF (by omega) | exact eI (by omega) | exact eJ (by omega) | exact geT (by omega) | exact geF (by omega) | exact dZ (by omega) | exact eK (by omega) | exact eE (by omega) | exact eF (by omega) | exact aD (by omega) | exact bT (by omega) | exact aE (by omega) (by omega) | exact aG (by omega) _ | exact aI _ _ _ _ | exact aJ _ _ _ _ | exact aF _ _ _ | exact rfl) | exact W.ret ⟨rfl, rfl⟩ | with_reducible refine W.ret ?_)
 exact ⟨rfl, r.grown k1, as_, o.grown k1, oa.grown k1⟩
theorem aEK (h1 : 1 <= n) (h2 : n <= 65536) (r : iC n hC A g pa pm sv lb S X) (hS : S.length = 4) (hX : kG X L dn) (q : LOk n text L) (m : Nat) {E F : bF} (hmi : ∀ a b, aC E 36 a b = S36 F a b) (hask : ∀ a b, aC F 39 a b = S39 (EL (m + 61)) a b) (hG : fT E 66 vQ) (hJ : fT E 67 oS) {b : StB} {as_ : Nat -> Bool} (t : qJ g A n pa b L dn as_) (hsv : ∀ c, svF S sv lb c -> c < b.fb) :
   W (S35 E [.ptr b.x 0] g) λ w g' => w = (if 2 <= (fR dn 4).length then .tup [.str [], .int .i64 (.ofNat 9)] else .tup [.str text, .int .i64 (.ofNat 0)]) /\ iC n hC A g' pa pm sv lb S X /\ ∃ as_ : Nat -> Bool, aB g' b.x (aLl n pa b) /\ aB g' b.ab (r4 λ i => .bool (as_ i)) := by
 obtain ⟨BG, bG, sG⟩ := hG.call; obtain ⟨v, gg, e1, o1, r1, ⟨as1, t1, hal⟩, z1⟩ := uU h1 h2 r hS hX (λ i hi => (q.ok i hi).2) m hask t hsv
 obtain ⟨ne1, ne2, ne3⟩ := t1.ne; have hlen : bH v = some (.int .i64 (.ofNat (fR dn 4).length)) := by
   rw [o1.len]; unfold aCX; rw [List.length_map]
 have ol : aB gg b.x [.ptr pa 0, .int .i64 (.ofNat 0), .int .i64 (.ofNat 2), .int .i64 (.ofNat 1), .int .i64 (.ofNat 1), .int .i64 (.ofNat n), .slc b.c 0 4 4 true, .int .i64 (.ofNat (cR n 4)), .slc b.fb 0 4 4 false, .slc b.ab 0 4 4 false, .slc b.cb 0 4 4 false] := t1.o; show W (aQE E (.ptr b.x 0) g) _; unfold aQE; rw [hmi]; refine sW e1 ?_; have hf : ∀ j, j < 4 -> frg L dn as1 j = if dn j then [] else L j := λ j hj => by
   unfold frg; rw [hal j hj]; cases dn j <;> rfl
 by_cases h2l : 2 <= (fR dn 4).length
 · repeat' (first | with_reducible refine sT ?_ | with_reducible refine sF ?_ | with_reducible refine g1 ?_ | with_reducible refine g2 ?_ | with_reducible refine g3 ?_ | with_reducible refine g4 ?_ | ((with_reducible apply sV); first | exact hlen | exact aB.read (by assumption) (by rfl) | exact aB.readN (by assumption) (Nat.le_of_ble_eq_true rfl) | exact eG (by omega) | exact eH (by omega) | exact gtT (by omega) | exact gtF (by omega) | exact eI (by omega) | exact eJ (by omega) | exact geT (by omega) | exact geF (by omega) | exact dZ (by omega) | exact eK (by omega) | exact eE (by omega) | exact eF (by omega) | exact aD (by omega) | exact bT (by omega) | exact aE (by omega) (by omega) | exact aG (by omega) _ | exact aI _ _ _ _ | exact aJ _ _ _ _ | exact aF _ _ _ | exact rfl) | exact W.ret ⟨rfl, rfl⟩ | with_reducible refine W.ret ?_)
   exact ⟨by rw [if_pos h2l], r1, as1, t1.o, t1.a⟩
 · rw [if_neg h2l]; cases hD : fR dn 4 with
   | nil =>
     rw [hD] at hlen; have hlen : bH v = some (.int .i64 (.ofNat 0)) := hlen; have nod : ∀ j, j < 4 -> dn j = false := λ j hj => by
       cases hd : dn j with
       | false => rfl
       | true =>
         have : j ∈ fR dn 4 := wB.2 ⟨hj, hd⟩; rw [hD] at this; cases this
     repeat' (first | with_reducible refine sT ?_ | with_reducible refine sF ?_ | with_reducible refine g1 ?_ | with_reducible refine g2 ?_ | with_reducible refine g3 ?_ | with_reducible refine g4 ?_ | ((with_reducible apply sV); first | exact hlen | exact aB.read (by assumption) (by rfl) | exact aB.readN (by assumption) (Nat.le_of_ble_eq_true rfl) | exact eG (by omega) | exact eH (by omega) | exact gtT (by omega) | exact gtF (by omega) | exact eI (by omega) | exact eJ (by omega) | exact geT (by omega) | exact geF (by omega) | exact dZ (by omega) | exact eK (by omega) | exact eE (by omega) | exact eF (by omega) | exact aD (by omega) | exact bT (by omega) | exact aE (by omega) (by omega) | exact aG (by omega) _ | exact aI _ _ _ _ | exact aJ _ _ _ _ | exact aF _ _ _ | exact rfl) | exact W.ret ⟨rfl, rfl⟩ | with_reducible refine W.ret ?_)
     show W (aEl E _ _ _ (aFR E _ _ _ (aT - 1)) _ gg) _; unfold aEl
     repeat' (first | with_reducible refine sT ?_ | with_reducible refine sF ?_ | with_reducible refine g1 ?_ | with_reducible refine g2 ?_ | with_reducible refine g3 ?_ | with_reducible refine g4 ?_ | ((with_reducible apply sV); first | exact aB.read (by assumption) (by rfl) | exact aB.readN (by assumption) (Nat.le_of_ble_eq_true rfl) | exact eG (by omega) | exact eH (by omega) | exact gtT (by omega) | exact gtF (by omega) | exact eI (by omega) | exact eJ (by omega) | exact geT (by omega) | exact geF (by omega) | exact dZ (by omega) | exact eK (by omega) | exact eE (by omega) | exact eF (by omega) | exact aD (by omega) | exact bT (by omega) | exact aE (by omega) (by omega) | exact aG (by omega) _ | exact aI _ _ _ _ | exact aJ _ _ _ _ | exact aF _ _ _ | exact rfl) | exact W.ret ⟨rfl, rfl⟩ | with_reducible refine W.ret ?_)
     refine aJc hJ h2 q r1 t1.o ?_ t1.a; have := t1.f; rw [lR (g := λ i => .str (L i)) λ j hj => by rw [hf j hj, nod j hj]; rfl] at this
     exact this
   | cons i D =>
     have hD0 : D = [] := by
       cases D with
       | nil => rfl
       | cons a D => rw [hD] at h2l; simp at h2l
     subst hD0; rw [hD] at hlen o1; have hlen : bH v = some (.int .i64 (.ofNat 1)) := hlen; have him : i ∈ fR dn 4 := by rw [hD]; simp
     obtain ⟨hi, hdi⟩ := wB.1 him; have nod : ∀ j, j < 4 -> j ≠ i -> dn j = false := λ j hj hne => by
       cases hd : dn j with
       | false => rfl
       | true =>
         have : j ∈ fR dn 4 := wB.2 ⟨hj, hd⟩; rw [hD] at this; exact absurd (by simpa using this) hne
     obtain ⟨c, c1, c2⟩ := o1.load1 (j := 0) (x := .int .i64 (.ofNat i)) rfl .i64; have hb : tM (l4 (frg L dn as1)) i = tM (l4 L) i := bEf hi λ j hj hne => by rw [hf j hj, nod j hj hne]; rfl
     obtain ⟨gh, e2, k2⟩ := sG _ (l4 (frg L dn as1)) (cR n 4) i gg (bDM t1.f) (Nat.le_of_ble_eq_true rfl) (Nat.le_of_ble_eq_true rfl) q.n5 hi (λ t ht => by
       rw [hb] at ht; obtain ⟨j, hj, rfl⟩ := aLG (aKd ht); exact q.ok j hj)
     rw [hb, q.give i hi] at e2
     repeat' (first | with_reducible refine sT ?_ | with_reducible refine sF ?_ | with_reducible refine g1 ?_ | with_reducible refine g2 ?_ | with_reducible refine g3 ?_ | with_reducible refine g4 ?_ | ((with_reducible apply sV); first | exact hlen | exact aB.read (by assumption) (by rfl) | exact aB.readN (by assumption) (Nat.le_of_ble_eq_true rfl) | exact eG (by omega) | exact eH (by omega) | exact gtT (by omega) | exact gtF (by omega) | exact eI (by omega) | exact eJ (by omega) | exact geT (by omega) | exact geF (by omega) | exact dZ (by omega) | exact eK (by omega) | exact eE (by omega) | exact eF (by omega) | exact aD (by omega) | exact bT (by omega) | exact aE (by omega) (by omega) | exact aG (by omega) _ | exact aI _ _ _ _ | exact aJ _ _ _ _ | exact aF _ _ _ | exact rfl) | exact W.ret ⟨rfl, rfl⟩ | with_reducible refine W.ret ?_)
     show W (aEl E _ _ _ (aFR E _ _ _ (aT - 1)) _ gg) _; unfold aEl
     repeat' (first | with_reducible refine sT ?_ | with_reducible refine sF ?_ | with_reducible refine g1 ?_ | with_reducible refine g2 ?_ | with_reducible refine g3 ?_ | with_reducible refine g4 ?_ | ((with_reducible apply sV); first | exact c1 | exact c2 | exact aB.read (by assumption) (by rfl) | exact aB.readN (by assumption) (Nat.le_of_ble_eq_true rfl) | exact eG (by omega) | exact eH (by omega) | exact gtT (by omega) | exact gtF (by omega) | exact eI (by omega) | exact eJ (by omega) | exact geT (by omega) | exact geF (by omega) | exact dZ (by omega) | exact eK (by omega) | exact eE (by omega) | exact eF (by omega) | exact aD (by omega) | exact bT (by omega) | exact aE (by omega) (by omega) | exact aG (by omega) _ | exact aI _ _ _ _ | exact aJ _ _ _ _ | exact aF _ _ _ | exact rfl) | exact W.ret ⟨rfl, rfl⟩ | with_reducible refine W.ret ?_)
     refine sC bG e2 ?_; have o2 := t1.o.grown k2; have o2' : aB gh b.x [.ptr pa 0, .int .i64 (.ofNat 0), .int .i64 (.ofNat 2), .int .i64 (.ofNat 1), .int .i64 (.ofNat 1), .int .i64 (.ofNat n), .slc b.c 0 4 4 true, .int .i64 (.ofNat (cR n 4)), .slc b.fb 0 4 4 false, .slc b.ab 0 4 4 false, .slc b.cb 0 4 4 false] := o2; rw [rck (rcI (o2'.read (j := 8) rfl) (by simp [jR]))]
     repeat' (first | with_reducible refine sT ?_ | with_reducible refine sF ?_ | with_reducible refine g1 ?_ | with_reducible refine g2 ?_ | with_reducible refine g3 ?_ | with_reducible refine g4 ?_ | ((with_reducible apply sV); first | exact aJf hi | exact aB.read (by assumption) (by rfl) | exact aB.readN (by assumption) (Nat.le_of_ble_eq_true rfl) | exact eG (by omega) | exact eH (by omega) | exact gtT (by omega) | exact gtF (by omega) | exact eI (by omega) | exact eJ (by omega) | exact geT (by omega) | exact geF (by omega) | exact dZ (by omega) | exact eK (by omega) | exact eE (by omega) | exact eF (by omega) | exact aD (by omega) | exact bT (by omega) | exact aE (by omega) (by omega) | exact aG (by omega) _ | exact aI _ _ _ _ | exact aJ _ _ _ _ | exact aF _ _ _ | exact rfl) | exact W.ret ⟨rfl, rfl⟩ | with_reducible refine W.ret ?_)
     refine sS1 (t1.f.grown k2) (by show i < 4; exact hi) rfl λ gi f3 k3 => ?_
     rw [sZ hi] at f3; rw [lR (g := λ j => .str (L j)) λ j hj => by
       by_cases e : j = i
       · simp [e]
       · simp only [e, if_false]; rw [hf j hj, nod j hj e]; rfl] at f3
     repeat' (first | with_reducible refine sT ?_ | with_reducible refine sF ?_ | with_reducible refine g1 ?_ | with_reducible refine g2 ?_ | with_reducible refine g3 ?_ | with_reducible refine g4 ?_ | ((with_reducible apply sV); first | exact aB.read (by assumption) (by rfl) | exact aB.readN (by assumption) (Nat.le_of_ble_eq_true rfl) | exact eG (by omega) | exact eH (by omega) | exact gtT (by omega) | exact gtF (by omega) | exact eI (by omega) | exact eJ (by omega) | exact geT (by omega) | exact geF (by omega) | exact dZ (by omega) | exact eK (by omega) | exact eE (by omega) | exact eF (by omega) | exact aD (by omega) | exact bT (by omega) | exact aE (by omega) (by omega) | exact aG (by omega) _ | exact aI _ _ _ _ | exact aJ _ _ _ _ | exact aF _ _ _ | exact rfl) | exact W.ret ⟨rfl, rfl⟩ | with_reducible refine W.ret ?_)
     show W (aEl E _ _ _ (aFR E _ _ _ (aT - 2)) _ gi) _; unfold aEl
     repeat' (first | with_reducible refine sT ?_ | with_reducible refine sF ?_ | with_reducible refine g1 ?_ | with_reducible refine g2 ?_ | with_reducible refine g3 ?_ | with_reducible refine g4 ?_ | ((with_reducible apply sV); first | exact aB.read (by assumption) (by rfl) | exact aB.readN (by assumption) (Nat.le_of_ble_eq_true rfl) | exact eG (by omega) | exact eH (by omega) | exact gtT (by omega) | exact gtF (by omega) | exact eI (by omega) | exact eJ (by omega) | exact geT (by omega) | exact geF (by omega) | exact dZ (by omega) | exact eK (by omega) | exact eE (by omega) | exact eF (by omega) | exact aD (by omega) | exact bT (by omega) | exact aE (by omega) (by omega) | exact aG (by omega) _ | exact aI _ _ _ _ | exact aJ _ _ _ _ | exact aF _ _ _ | exact rfl) | exact W.ret ⟨rfl, rfl⟩ | with_reducible refine W.ret ?_)
     have r3 : iC n hC A gi pa pm sv lb S X := by
       refine (r1.grown k2).keep (k3.keeps (n0 := b.fb) (Nat.le_refl _)) λ c hc => ?_
       rcases hc with h | h
       · exact t1.rg c h
       · exact hsv c h
     exact aJc hJ h2 q r3 (o2.but (by omega) k3) f3 ((t1.a.grown k2).but (by omega) k3)
end
end Go.Proofs.YthpciaidbgjoeaaGreat
