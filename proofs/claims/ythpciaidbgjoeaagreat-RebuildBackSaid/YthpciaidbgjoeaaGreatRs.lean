/- Specs. No condition beyond the theorems' own. -/
import Derived.Test.YthpciaidbgjoeaaGreatRl
set_option linter.unusedVariables false
set_option linter.unusedSimpArgs false
namespace Go.Proofs.YthpciaidbgjoeaaGreat
open Go.DI
def fK (E : aQ) (f : Nat) (S : bC -> Prop) : Prop := ∃ B, E f = some B /\ S B
theorem fK.call {E : aQ} {f : Nat} {S : bC -> Prop} (h : fK E f S) : ∃ B, (∀ args m, aB E f args m = B args m) /\ S B := by
 obtain ⟨B, e, s⟩ := h; exact ⟨B, λ args m => aT e args m, s⟩
def W (o : Option (DV × H)) (Q : DV -> H -> Prop) : Prop := ∃ v h, o = some (v, h) /\ Q v h
theorem gk {h h' : H} {n : Nat} (g : aX h h') (hn : n <= h.size) : dE n h h' := ⟨g.size, λ c hc => g.get c (Nat.lt_of_lt_of_le hc hn)⟩
theorem offN {h a b : H} {F : Nat -> Prop} (g : aX h a) (k : fJ F a b) (hF : ∀ c, c < h.size -> ¬ F c) : aX h b :=
 ⟨Nat.le_trans g.size k.size, λ c hc => by rw [k.get c (Nat.lt_of_lt_of_le hc g.size) (hF c hc)]; exact g.get c hc⟩
section
variable {o : Option (DV × H)} {Q Q' : DV -> H -> Prop} {f : Option DV} {x v : DV} {h h' : H} {k : DV -> Option (DV × H)} {kk : DV -> H -> Option (DV × H)} {a b : Option (DV × H)}
theorem W.ret (q : Q v h) : W (some (v, h)) Q := ⟨v, h, rfl, q⟩
theorem W.mono (w : W o Q') (q : ∀ v h, Q' v h -> Q v h) : W o Q := by
 obtain ⟨v, h, e, p⟩ := w; exact ⟨v, h, e, q v h p⟩
theorem sV (e : f = some x) (r : W (k x) Q) : W (vK f k) Q := by rw [e]; exact r
theorem sW (e : o = some (v, h)) (r : W (kk v h) Q) : W (wK o kk) Q := by rw [e]; exact r
theorem sB (w : W o Q') (r : ∀ v h, Q' v h -> W (kk v h) Q) : W (wK o kk) Q := by
 obtain ⟨v, h, e, p⟩ := w; rw [e]; exact r v h p
theorem sT (r : W a Q) : W (bK (.bool true) a b) Q := r
theorem sF (r : W b Q) : W (bK (.bool false) a b) Q := r
theorem sN {E : aQ} {g : Nat} {args : List DV} {B : bC} (b : ∀ args m, aB E g args m = B args m) (w : W (B args h) Q') (r : ∀ v h, Q' v h -> W (kk v h) Q) : W (wK (aB E g args h) kk) Q := by rw [b]; exact sB w r
theorem sC {E : aQ} {g : Nat} {args : List DV} {B : bC} (b : ∀ args m, aB E g args m = B args m) (e : B args h = some (v, h')) (r : W (kk v h') Q) : W (wK (aB E g args h) kk) Q := by rw [b, e]; exact r
theorem sX {cs : List DV} (r : ∀ h1, h1.size = h.size + 1 -> aX h h1 -> aR h1 h.size cs -> W (kk (.ptr h.size 0) h1) Q) : W (cY (.agg cs) h kk) Q := by
 obtain ⟨h1, e, g, o⟩ := cV h cs.length cs.length cs rfl; rw [nbx e rfl]; exact r h1 (by rw [e]; exact H.size_push _ _) g o
theorem sA {n es : Nat} {L : List DV} (hn : n = L.length) (r : ∀ h1, h1.size = h.size + 1 -> aX h h1 -> aR h1 h.size L -> W (kk (.ptr h.size 0) h1) Q) : W (gR n es (.list L) h kk) Q := by
 obtain ⟨h1, e, g, o⟩ := cV h n es L hn; rw [aLW, <- e]; exact r h1 (by rw [e]; exact H.size_push _ _) g o
theorem sS {b n : Nat} {L cs : List DV} (o : aR h b L) (hL : L.length = n) (hn : cs.length = n) (hv : cs.all DV.one = true) (r : ∀ h1, aR h1 b cs -> qS b h h1 -> W (kk (.tup []) h1) Q) : W (wK (dD n (.ptr b 0) (.agg cs) h) kk) Q := by
 obtain ⟨h1, e, p, q⟩ := o.setAll hL hn hv; rw [e]; exact r h1 p q
theorem sS1 {b j : Nat} {L : List DV} {v : DV} (o : aR h b L) (hj : j < L.length) (hv : v.one = true) (r : ∀ h1, aR h1 b (L.set j v) -> qS b h h1 -> W (kk (.tup []) h1) Q) : W (wK (dD 1 (.ptr b j) v h) kk) Q := by
 obtain ⟨h1, e, p, q⟩ := o.set hv hj; rw [e]; exact r h1 p q
theorem sL {n es : Nat} {z cs : List DV} {ps : List (Nat × Nat × DV)} (hf : fG (iI z n) ps = some cs) (hc : cs.length = n * es) (r : ∀ h1, h1.size = h.size + 1 -> aX h h1 -> aR h1 h.size cs -> W (kk (.slc h.size 0 n n false) h1) Q) : W (dI n es z ps h kk) Q := by
 obtain ⟨h1, e, g, o⟩ := cV h (n * es) es cs hc.symm; simp only [dI, hf, Option.bind_some, H.pushK_eq]; rw [<- e]; exact r h1 (by rw [e]; exact H.size_push _ _) g o
variable {op : (DV -> H -> Option (DV × H)) -> Option (DV × H)}
theorem g1 (r : W (op kk) Q) : W (aJ (.bool false) false op h kk) Q := r
theorem g2 (r : W (op kk) Q) : W (aJ (.bool true) true op h kk) Q := r
theorem g3 (r : W (kk (.tup []) h) Q) : W (aJ (.bool true) false op h kk) Q := r
theorem g4 (r : W (kk (.tup []) h) Q) : W (aJ (.bool false) true op h kk) Q := r
end
section
variable {k : IntKind} {a b : Nat}
theorem ltT (h : a < b) : bO (.int k (.ofNat a)) (.int k (.ofNat b)) = some (.bool true) := by rw [cH, decide_eq_true h]
theorem ltF (h : b <= a) : bO (.int k (.ofNat a)) (.int k (.ofNat b)) = some (.bool false) := by rw [cH, decide_eq_false (by omega)]
theorem leT (h : a <= b) : tM (.int k (.ofNat a)) (.int k (.ofNat b)) = some (.bool true) := by rw [aEV, decide_eq_true h]
theorem leF (h : b < a) : tM (.int k (.ofNat a)) (.int k (.ofNat b)) = some (.bool false) := by rw [aEV, decide_eq_false (by omega)]
theorem eqT (h : a = b) : cF (.int k (.ofNat a)) (.int k (.ofNat b)) = some (.bool true) := by rw [mJ, h]; simp
theorem eqF (h : a ≠ b) : cF (.int k (.ofNat a)) (.int k (.ofNat b)) = some (.bool false) := by rw [mJ]; simp; omega
theorem neT (h : a ≠ b) : cW (.int k (.ofNat a)) (.int k (.ofNat b)) = some (.bool true) := by rw [vP]; simp; omega
theorem neF (h : a = b) : cW (.int k (.ofNat a)) (.int k (.ofNat b)) = some (.bool false) := by rw [vP, h]; simp
theorem mulN (h : a * b < 9223372036854775808) : mB (.int .i64 (.ofNat a)) (.int .i64 (.ofNat b)) = some (.int .i64 (.ofNat (a * b))) := by rw [mH, show (Int.ofNat a * Int.ofNat b) = .ofNat (a * b) from rfl, wrap_i64 h]
end
theorem dF {o : Option DV} {x : DV} (h : o = some x := by first | exact aR.read (by assumption) (by rfl) | exact aR.readN (by assumption) (Nat.le_of_ble_eq_true rfl) | exact ltT (by omega) | exact ltF (by omega) | exact gtT (by omega) | exact gtF (by omega) | exact leT (by omega) | exact leF (by omega) | exact geT (by omega) | exact geF (by omega) | exact eqT (by omega) | exact eqF (by omega) | exact neT (by omega) | exact neF (by omega) | exact jB (by omega) | exact mulN (by omega) | exact mE (by omega) (by omega) | exact oK (by omega) _ | exact yS _ _ _ _ | exact uC _ _ _ _ | exact cS _ _ _ | exact rfl) : o = some x := h
def aLz (u : Nat) : Int := if u % 2 = 0 then .ofNat (u / 2) else .negSucc (u / 2)
theorem bAU (n : Int) : aLz (zz n) = n := by
 cases n with
 | ofNat a =>
   show aLz (2 * a) = _; unfold aLz; rw [if_pos (by omega), show 2 * a / 2 = a from by omega]
 | negSucc a =>
   show aLz (2 * a + 1) = _; unfold aLz; rw [if_neg (by omega), show (2 * a + 1) / 2 = a from by omega]
theorem aTP {n : Int} (h1 : -9223372036854775808 <= n) (h2 : n < 9223372036854775808) : zz n < 18446744073709551616 := by
 cases n with
 | ofNat a => show 2 * a < _; simp only [Int.ofNat_eq_natCast] at h2; omega
 | negSucc a => show 2 * a + 1 < _; omega
def tP : Nat -> Nat -> Ln
 | 0, u => [u]
 | k + 1, u => if u < 128 then [u] else (u % 128 + 128) :: tP k (u / 128)
def grp : Nat -> Ln -> Nat -> Option (Nat × Ln)
 | _, [], _ => none
 | i, b :: s, acc => if 10 <= i \/ (i = 9 /\ 1 < b) \/ (0 < i /\ b = 0) then none else
     if b < 128 then some (acc + b * 128 ^ i, s) else grp (i + 1) s (acc + (b - 128) * 128 ^ i)
theorem aNU : ∀ (k u : Nat), u < 2 ^ (7 * k + 1) -> aP (tP k u) = true
 | 0, u, h => by simp only [tP, aP, Bool.and_true, Nat.blt_eq]; simp at h; omega
 | k + 1, u, h => by
   rw [tP]; split
   · rename_i h1; simp only [aP, Bool.and_true, Nat.blt_eq]; omega
   · simp only [aP, Bool.and_eq_true, Nat.blt_eq]; refine ⟨by omega, aNU k (u / 128) ?_⟩
     have : (2 : Nat) ^ (7 * (k + 1) + 1) = 128 * 2 ^ (7 * k + 1) := by
       rw [show 7 * (k + 1) + 1 = 7 + (7 * k + 1) from by omega, Nat.pow_add]
     rw [this] at h; exact Nat.div_lt_of_lt_mul h
theorem aIC : ∀ (k u : Nat), 1 <= (tP k u).length /\ (tP k u).length <= k + 1
 | 0, u => by simp [tP]
 | k + 1, u => by
   rw [tP]; split
   · simp
   · have := aIC k (u / 128); simp only [List.length_cons]; omega
theorem aFj (i : Nat) : 128 ^ (i + 1) = 128 * 128 ^ i := by rw [Nat.pow_succ, Nat.mul_comm]
theorem aJu (r : Ln) : ∀ (k i u acc : Nat), i + k = 9 -> u < 2 ^ (7 * k + 1) -> (0 < i -> 0 < u) -> grp i (tP k u ++ r) acc = some (acc + u * 128 ^ i, r)
 | 0, i, u, acc, hi, hu, hp => by
   have h9 : i = 9 := by omega
   subst h9; simp at hu; have := hp (by omega)
   have hu1 : u = 1 := by omega
   subst hu1; rw [tP, List.cons_append, grp, if_neg (by omega), if_pos (by omega)]; rfl
 | k + 1, i, u, acc, hi, hu, hp => by
   rw [tP]; by_cases h : u < 128
   · rw [if_pos h, List.cons_append, grp, if_neg (by
       rintro (h1 | h1 | h1)
       · omega
       · omega
       · have := hp h1.1; omega), if_pos h]; rfl
   · rw [if_neg h, List.cons_append, grp, if_neg (by omega), if_neg (by omega)]
     have h2 : (2 : Nat) ^ (7 * (k + 1) + 1) = 128 * 2 ^ (7 * k + 1) := by
       rw [show 7 * (k + 1) + 1 = 7 + (7 * k + 1) from by omega, Nat.pow_add]
     rw [h2] at hu; rw [aJu r k (i + 1) (u / 128) _ (by omega) (Nat.div_lt_of_lt_mul hu) (λ _ => by omega), aFj]
     congr 2
     rw [show u % 128 + 128 - 128 = u % 128 from by omega, Nat.add_assoc]
     congr 1
     have e : u / 128 * (128 * 128 ^ i) = 128 * (u / 128) * 128 ^ i := by rw [<- Nat.mul_assoc, Nat.mul_comm (u / 128) 128]
     rw [e, <- Nat.add_mul, Nat.mod_add_div]
theorem aJv : ∀ (k i : Nat) (s r : Ln) (acc v : Nat), i + k = 9 -> aP s = true -> grp i s acc = some (v, r) -> ∃ u, v = acc + u * 128 ^ i /\ s = tP k u ++ r /\ u < 2 ^ (7 * k + 1) /\ (0 < i -> 0 < u)
 | k, i, [], r, acc, v, _, _, h => by simp [grp] at h
 | k, i, b :: s, r, acc, v, hi, hs, h => by
   simp only [aP, Bool.and_eq_true, Nat.blt_eq] at hs; rw [grp] at h; split at h
   · cases h
   · rename_i hc; split at h
     · rename_i hb; cases h; refine ⟨b, rfl, ?_, ?_, λ h0 => ?_⟩
       · cases k with
         | zero => rfl
         | succ k => rw [tP, if_pos hb]; rfl
       · cases k with
         | zero => simp; omega
         | succ k =>
           have : (2 : Nat) ^ (7 * (k + 1) + 1) = 256 * 2 ^ (7 * k) := by
             rw [show 7 * (k + 1) + 1 = 8 + 7 * k from by omega, Nat.pow_add]
           rw [this]; have : 0 < 2 ^ (7 * k) := Nat.two_pow_pos _; omega
       · omega
     · rename_i hb; cases k with
       | zero => exact absurd (.inr (.inl ⟨by omega, by omega⟩)) hc
       | succ k =>
         obtain ⟨u, h1, h2, h3, h4⟩ := aJv k (i + 1) s r _ v (by omega) hs.2 h
         have hu := h4 (by omega)
         refine ⟨(b - 128) + 128 * u, ?_, ?_, ?_, λ _ => by omega⟩
         · rw [h1, aFj, Nat.add_assoc]
           congr 1
           rw [Nat.add_mul]
           congr 1
           rw [<- Nat.mul_assoc, Nat.mul_comm u 128]
         · rw [tP, if_neg (by omega), h2]
           rw [show (b - 128 + 128 * u) % 128 + 128 = b from by omega, show (b - 128 + 128 * u) / 128 = u from by omega]
           rfl
         · have : (2 : Nat) ^ (7 * (k + 1) + 1) = 128 * 2 ^ (7 * k + 1) := by
             rw [show 7 * (k + 1) + 1 = 7 + (7 * k + 1) from by omega, Nat.pow_add]
           rw [this]; omega
def zM (n : Int) : Ln := tP 9 (zz n)
def yV (s : Ln) : Option (Int × Ln) := (grp 0 s 0).map λ x => (aLz x.1, x.2)
def mC (n : Int) : Prop := -9223372036854775808 <= n /\ n < 9223372036854775808
theorem bBG {n : Int} (h : mC n) : aP (zM n) = true := aNU 9 _ (by have := aTP h.1 h.2; simpa using this)
theorem aJr (n : Int) : 1 <= (zM n).length /\ (zM n).length <= 10 := aIC 9 _
theorem aGs {n : Int} (h : mC n) (r : Ln) : yV (zM n ++ r) = some (n, r) := by
 unfold yV zM; rw [aJu r 9 0 (zz n) 0 rfl (by have := aTP h.1 h.2; simpa using this) (λ h => absurd h (by omega))]
 simp [bAU]
theorem aLT {E : aQ} {n0 : Nat} : ∀ (k m u : Nat) (s : Ln) (v : DV) (h : H), u < 2 ^ (7 * k + 1) -> k <= 9 -> s.length + k <= 1000000 -> n0 <= h.size -> aRW n0 h v (bV s) -> (∀ b o n c op, v = .slc b o n c op -> b < h.size) ->
   ∃ v' h', aAX E (m + (k + 1)) v (.int .u64 (.ofNat u)) h = some (v', h') /\ bM n0 h' v' (bV (s ++ tP k u)) /\ dE n0 h h' := by
 intro k
 induction k with
 | zero =>
   intro m u s v h hu hk9 hs hn ho hlt; simp at hu; show ∃ v' h', aEy E (aAX E m) _ _ h = _ /\ _; unfold aEy; have d : decide (128 <= u) = false := by simp; omega
   obtain ⟨v1, h1, g1, g2, g3⟩ := ho.push1 (x := iD (u % 256)) (z := iD 0) (bytes := 1) hlt hn rfl (by rw [cK]; unfold aY; omega) (by rw [cK]; unfold aY; omega)
   refine ⟨v1, h1, ?_, ?_, g3⟩
   · rw [oL, aA, d, aW]; unfold aEn; rw [conv_u8, aA, show (DV.int .u8 (.ofNat (u % 256))) = iD (u % 256) from rfl, show (DV.int .u8 (.ofNat 0)) = iD 0 from rfl, g1]
   · rw [tP, kP]; have : u % 256 = u := by omega
     rw [this] at g2; exact g2
 | succ k ih =>
   intro m u s v h hu hk9 hs hn ho hlt; show ∃ v' h', aEy E (aAX E (m + (k + 1))) _ _ h = _ /\ _; unfold aEy; rw [tP]; by_cases h128 : u < 128
   · have d : decide (128 <= u) = false := by simp; omega
     obtain ⟨v1, h1, g1, g2, g3⟩ := ho.push1 (x := iD (u % 256)) (z := iD 0) (bytes := 1) hlt hn rfl (by rw [cK]; unfold aY; omega) (by rw [cK]; unfold aY; omega)
     refine ⟨v1, h1, ?_, ?_, g3⟩
     · rw [oL, aA, d, aW]; unfold aEn; rw [conv_u8, aA, show (DV.int .u8 (.ofNat (u % 256))) = iD (u % 256) from rfl, show (DV.int .u8 (.ofNat 0)) = iD 0 from rfl, g1]
     · rw [if_pos h128, kP]; have : u % 256 = u := by omega
       rw [this] at g2; exact g2
   · have d : decide (128 <= u) = true := by simp; omega
     have h2 : (2 : Nat) ^ (7 * (k + 1) + 1) = 128 * 2 ^ (7 * k + 1) := by
       rw [show 7 * (k + 1) + 1 = 7 + (7 * k + 1) from by omega, Nat.pow_add]
     rw [h2] at hu; obtain ⟨v1, h1, g1, g2, g3⟩ := ho.push1 (x := iD (u % 128 + 128)) (z := iD 0) (bytes := 1) hlt hn rfl (by rw [cK]; unfold aY; omega) (by rw [cK]; unfold aY; omega)
     have g2' : bM n0 h1 v1 (bV (s ++ [u % 128 + 128])) := by rw [kP]; exact g2
     obtain ⟨v2, h3, k1, k2, k3⟩ := ih m (u / 128) (s ++ [u % 128 + 128]) v1 h1 (Nat.div_lt_of_lt_mul hu) (by omega) (by simp; omega) (Nat.le_trans hn g3.size) (.inl g2') g2'.lt_size
     have h64 : u < 18446744073709551616 := by
       have : (2 : Nat) ^ (7 * k + 1) <= 2 ^ 57 := Nat.pow_le_pow_right (by omega) (by omega)
       have e57 : (2 : Nat) ^ 57 = 144115188075855872 := by decide
       omega
     refine ⟨v2, h3, ?_, ?_, g3.trans k3⟩
     · rw [oL, aA, d, cT, conv_u8, aA, bAT (by omega), aA]
       rw [show u % 256 % 128 + 128 = u % 128 + 128 from by omega, show (DV.int .u8 (.ofNat 0)) = iD 0 from rfl, g1, aGz _ _ (by decide), aA]
       exact k1
     · rw [if_neg h128]
       simpa using k2
def aHt (B : bC) : Prop := ∀ (v : DV) (s : Ln) (n : Int) (h : H), aNP h v (bV s) -> s.length <= 100000 -> mC n -> ∃ v' h', B [v, .int .i64 n] h = some (v', h') /\ bM h.size h' v' (bV (s ++ zM n)) /\ dE h.size h h'
theorem aUI {E : aQ} : aHt (aMU E) := by
 intro v s n h hc hs hn; have hz := aTP hn.1 hn.2; obtain ⟨v', h', a1, a2, a3⟩ := aLT (E := E) (n0 := h.size) 9 (aK - 10) (zz n) s v h (by simpa using hz) (Nat.le_refl _) (by omega) (Nat.le_refl _) hc.1 hc.2
 rw [show aK - 10 + (9 + 1) = aK from by unfold aK; omega] at a1
 refine ⟨v', h', ?_, a2, a3⟩; obtain ⟨x, y, z, e1, e2, e3, w, e4, e5⟩ := bGm hn.1 hn.2; show aHV E v (.int .i64 n) h = _; unfold aHV; rw [e1, aA, e2, aA, e3, aA, e4, aA, e5, aA]; exact a1
theorem qJ {n : Nat} (h : n < 9223372036854775808) : mC (.ofNat n) := ⟨by simp only [Int.ofNat_eq_natCast]; omega, by simp only [Int.ofNat_eq_natCast]; omega⟩
def aEc (h : H) (b : Nat) (s : Ln) : Prop := ∃ v, aR h b [.int .i64 (.ofNat 65536), v, .int .i64 (.ofNat 0)] /\ bM (b + 1) h v (bV s)
theorem aWw {n0 b : Nat} {h h' : H} {v : DV} {L : List DV} (o : bM n0 h v L) (hb : b < n0) (k : qS b h h') : bM n0 h' v L := by
 rcases o with o | ⟨c, hc, e, hcell⟩
 · exact .inl o
 · exact .inr ⟨c, hc, e, hcell.but (by omega) k⟩
theorem bCP {n0 : Nat} {h : H} {v : DV} {L : List DV} (o : bM n0 h v L) : ∃ c, aCx 1 v none (.int .i64 (.ofNat L.length)) (.int .i64 (.ofNat L.length)) = some c /\ aNP h c L := by
 rcases o with ⟨rfl, rfl⟩ | ⟨b, _, rfl, hb⟩
 · exact ⟨.nils, rfl, .inl (bM.nil _ _), λ b o n c op e => by cases e⟩
 · have hlt := hb.1; obtain ⟨_, pl, t, g1, g2⟩ := id hb; by_cases hL : 0 < L.length
   · refine ⟨.slc b 0 L.length L.length false, ?_, .inr ⟨b, 0, _, rfl, g1, λ j x hj => by rw [Nat.zero_add]; exact hb.rd hj⟩, λ b' o n c op e => by cases e; exact hlt⟩
     simp only [aCx, dC, dHi, dLo]; rw [Nat.ble_eq_true_of_le (Nat.le_refl _), cond_true, cond_true, Nat.ble_eq_true_of_le (Nat.zero_le _), cond_true, dK hL, cond_true]; simp [aM]
   · have h0 : L.length = 0 := by omega
     have hn : L = [] := List.eq_nil_of_length_eq_zero h0; subst hn; exact ⟨.slc b 0 0 0 false, rfl, .inr ⟨b, 0, _, rfl, g1, λ j x hj => by cases hj⟩, λ b' o n c op e => by cases e; exact hlt⟩
def bSc (E : aQ) (f : DV) (h : H) (s new : Ln) : Prop := ∀ c, aNP h c (bV s) -> ∃ v' h', lK E f [c] h = some (v', h') /\ bM h.size h' v' (bV (s ++ new)) /\ dE h.size h h'
theorem bBE {E : aQ} {b : Nat} {s new : Ln} {f : DV} {h : H} (hw : aEc h b s) (hf : bSc E f h s new) (hl : s.length + new.length <= 65536) :
   ∃ h', aKG E [.ptr b 0, f] h = some (.tup [], h') /\ aEc h' b (s ++ new) /\ fJ (λ c => c = b) h h' := by
 obtain ⟨v, ho, hv⟩ := hw; obtain ⟨c, hc1, hc2⟩ := bCP hv; obtain ⟨v', h1, f1, f2, f3⟩ := hf c hc2; have ho1 := ho.grown f3.grown; obtain ⟨h2, g1, g2, g3⟩ := ho1.set (v := v') (j := 1) (by rcases f2 with ⟨rfl, _⟩ | ⟨_, _, rfl, _⟩ <;> rfl) (by simp)
 have hb := ho.1; refine ⟨h2, ?_, ⟨v', g2, aWw (f2.mono (by omega)) (by omega) g3⟩, (f3.grown.off _).trans (g3.off rfl)⟩
 show aHX E (.ptr b 0) f h = _; unfold aHX; have fa : ∀ k, aG k (.ptr b 0) = some (.ptr b k) := λ k => by rw [cS, Nat.zero_add]
 have d1 : decide (65536 < (bV (s ++ new)).length) = false := by rw [cK, List.length_append]; simp; omega
 simp only [fF, aA, jO, aZ, fa, ho.read (j := 2) rfl, mG, decide_true, Bool.not_true, eJ]; rw [aW]; simp only [aZ, aA, fa, ho.read (j := 1) rfl, hv.len, hc1, f1, aV, f2.len, ho1.read (j := 0) rfl, eY, d1]; rw [aW]; simp only [aZ, aA, fa, g1, aV]
theorem bAP {h : H} {b : Nat} {s : Ln} (hw : aEc h b s) (o : eE) : aEc (h.push o) b s := by
 obtain ⟨v, ho, hv⟩ := hw; exact ⟨v, ho.grown (aX.push h o), hv.keep (dE.push (Nat.le_refl _) o) (Nat.le_refl _)⟩
theorem bAQ {h h' : H} {b : Nat} {s : Ln} (hw : aEc h b s) (k : dE h.size h h') : aEc h' b s := by
 obtain ⟨v, ho, hv⟩ := hw; exact ⟨v, ho.grown k.grown, hv.keep k (Nat.le_refl _)⟩
def aAh (B : bC) : Prop := ∀ (b : Nat) (s : Ln) (n : Int) (h : H), aEc h b s -> mC n -> s.length + 10 <= 65536 -> ∃ h', B [.ptr b 0, .int .i64 n] h = some (.tup [], h') /\ aEc h' b (s ++ zM n) /\ fJ (λ c => c = b) h h'
theorem aSa {E F G : aQ} (h1 : E 114 = some (aKG F)) (h2 : F 115 = some (aMV G)) (hN : fK G 116 aHt) : aAh (S80 E) := by
 obtain ⟨B, hB, sB⟩ := hN.call; intro b s n h hw hn hs; have hbox : aR (h.push (.blk ⟨1, 1, false, true, Tr.ofL [.int .i64 n]⟩)) h.size [.int .i64 n] := aR.pushed (L := [.int .i64 n]); have hl := (aJr n).2; have hb : b < h.size := by obtain ⟨v, ho, _⟩ := hw; exact ho.1
 obtain ⟨h', f1, f2, f3⟩ := bBE (E := F) (b := b) (s := s) (new := zM n) (f := .fn (.func 115) [] [.ptr h.size 0]) (bAP hw (.blk ⟨1, 1, false, true, Tr.ofL [.int .i64 n]⟩)) (by
   intro c hc; obtain ⟨v', h', a1, a2, a3⟩ := sB c s n _ hc (by omega) hn
   refine ⟨v', h', ?_, a2, a3⟩; show aB F 115 ([] ++ [c] ++ [.ptr h.size 0]) _ = _; rw [aT h2]; show aHW G c (.ptr h.size 0) _ = _; unfold aHW; rw [hbox.read (j := 0) rfl, aA, hB, a1, aV]) (by omega)
 refine ⟨h', ?_, f2, ((aX.push h _).off _).trans f3⟩; show aQR E (.ptr b 0) (.int .i64 n) h = _; unfold aQR; rw [vW rfl, aT h1, f1, aV]
def wI (B : bC) : Prop := ∀ (b : Nat) (s : Ln) (h : H), aEc h b s -> aP s = true -> B [.ptr b 0] h = some (.tup [.str s, .int .i64 (.ofNat 0)], h)
theorem aLw {E : aQ} : wI (S81 E) := by
 intro b s h hw hok; obtain ⟨v, ho, hv⟩ := hw; show aQQ E (.ptr b 0) h = _; unfold aQQ; have fa : ∀ k, aG k (.ptr b 0) = some (.ptr b k) := λ k => by rw [cS, Nat.zero_add]
 rw [fF, aA, aW]; simp only [aZ, aA, fa, ho.read (j := 2) rfl, mG, decide_true, Bool.not_true]; rw [aW]; simp only [aZ, aA, fa, ho.read (j := 1) rfl, hv.text hok]
def aEk (B : bC) : Prop := ∀ (h : H), ∃ h', B [.int .i64 (.ofNat 65536)] h = some (.ptr h.size 0, h') /\ aEc h' h.size [] /\ aX h h'
theorem aSB {E : aQ} : aEk (S78 E) := by
 intro h; have hb : dH [(.int .i64 (.ofNat 0)), .nils, (.int .i64 (.ofNat 0))] [(0, 1, .int .i64 (.ofNat 65536))] = some (.agg [.int .i64 (.ofNat 65536), .nils, .int .i64 (.ofNat 0)]) := rfl; refine ⟨h.push (.blk ⟨3, 3, false, true, Tr.ofL [.int .i64 (.ofNat 65536), .nils, .int .i64 (.ofNat 0)]⟩), ?_, ⟨.nils, aR.pushed (L := [.int .i64 (.ofNat 65536), .nils, .int .i64 (.ofNat 0)]), bM.nil _ _⟩, aX.push h _⟩; show aQT E (.int .i64 (.ofNat 65536)) h = _; unfold aQT; rw [yS, aA, uC, aA]; rw [show min (max 65536 0) 65536 = 65536 from rfl, hb, aA, vX]; rfl
def rdV (st : Option (Ln)) : List DV := match st with
 | some s => [.str s, .bool false]
 | none => [.str [], .bool true]
theorem xV (st : Option (Ln)) : (rdV st).length = 2 := by cases st <;> rfl
def aAp (B : bC) : Prop := ∀ (b : Nat) (st : Option (Ln)) (h : H), aR h b (rdV st) -> ∃ h', B [.ptr b 0] h = some (.tup [], h') /\ aR h' b (rdV none) /\ qS b h h'
theorem aTc {E : aQ} : aAp (aMP E) := by
 intro b st h hb; obtain ⟨h1, f1, f2, f3⟩ := hb.set (v := .str []) (j := 0) rfl (by rw [xV]; omega)
 obtain ⟨h2, g1, g2, g3⟩ := f2.set (v := .bool true) (j := 1) rfl (by simp [xV])
 have e : ((rdV st).set 0 (.str [])).set 1 (.bool true) = rdV none := by cases st <;> rfl
 rw [e] at g2; refine ⟨h2, ?_, g2, f3.trans g3⟩; show aHH E (.ptr b 0) h = _; unfold aHH; have fa : ∀ k, aG k (.ptr b 0) = some (.ptr b k) := λ k => by rw [cS, Nat.zero_add]
 rw [uE, aA, cT]; simp only [aZ, aA, fa, f1, aV, g1]
def aBi (st : Option (Ln)) (n : Int) : Ln × Bool × Option (Ln) := match st, n with
 | some s, .ofNat k => if k <= s.length then (s.take k, true, some (s.drop k)) else ([], false, none)
 | _, _ => ([], false, none)
def aEd (B : bC) : Prop := ∀ (b : Nat) (st : Option (Ln)) (n : Int) (h : H), aR h b (rdV st) -> ∃ h', B [.ptr b 0, .int .i64 n] h = some (.tup [.str (aBi st n).1, .bool (aBi st n).2.1], h') /\ aR h' b (rdV (aBi st n).2.2) /\ qS b h h'
theorem aSj {E : aQ} (hF : fK E 148 aAp) : aEd (aMT E) := by
 obtain ⟨B, hB, sB⟩ := hF.call; intro b st n h hb; show ∃ h', aHU E (.ptr b 0) (.int .i64 n) h = _ /\ _; unfold aHU; have fa : ∀ k, aG k (.ptr b 0) = some (.ptr b k) := λ k => by rw [cS, Nat.zero_add]
 cases st with
 | none =>
   have e : aBi none n = ([], false, none) := rfl; obtain ⟨h', f1, f2, f3⟩ := sB b none h hb; rw [e]; refine ⟨h', ?_, f2, f3⟩; simp only [fF, aA, jO, aZ, fa, hb.read (j := 1) (x := .bool true) rfl, eJ, aAJ, tE, iL]; rw [cT, hB, f1, aV]
 | some s =>
   have h0 := hb.read (j := 0) (x := .str s) rfl; simp only [fF, aA, jO, aZ, fa, hb.read (j := 1) (x := .bool false) rfl, eJ, jA, h0, cQ]; cases n with
   | negSucc k =>
     have e : aBi (some s) (.negSucc k) = ([], false, none) := rfl; obtain ⟨h', f1, f2, f3⟩ := sB b (some s) h hb; rw [e]; refine ⟨h', ?_, f2, f3⟩; have d : decide (Int.negSucc k < Int.ofNat 0) = true := by simp
     simp only [d, aAJ, tE, iL, aA]; rw [cT, hB, f1, aV]
   | ofNat k =>
     have d : decide (Int.ofNat k < Int.ofNat 0) = false := by simp
     simp only [d, jO, aZ, aA, fa, h0, cQ, eY, eJ]; by_cases hk : s.length < k
     · have e : aBi (some s) (.ofNat k) = ([], false, none) := by show (if k <= s.length then _ else _) = _; rw [if_neg (by omega)]
       obtain ⟨h', f1, f2, f3⟩ := sB b (some s) h hb; rw [e]; refine ⟨h', ?_, f2, f3⟩; rw [decide_eq_true hk, cT, hB, f1, aV]
     · have e : aBi (some s) (.ofNat k) = (s.take k, true, some (s.drop k)) := by show (if k <= s.length then _ else _) = _; rw [if_pos (by omega)]
       obtain ⟨h1, f1, f2, f3⟩ := hb.set (v := .str (s.drop k)) (j := 0) rfl (by rw [xV]; omega)
       rw [e]; refine ⟨h1, ?_, f2, f3⟩; rw [decide_eq_false hk, aW]; simp only [aZ, aA, fa, h0, uA (show k <= s.length by omega), xL (show k <= s.length by omega), f1, aV]
theorem aUx (i : Nat) : 128 ^ i = 2 ^ (7 * i) := by rw [Nat.pow_mul]
def aMf (s : Ln) (r : Option (Nat × Ln)) : DV := match r with
 | some (v, q) => .tup [.int .u64 (.ofNat v), .int .i64 (.ofNat (s.length - q.length))]
 | none => .tup [.int .u64 (.ofNat 0), .int .i64 (.ofNat 0)]
theorem aEL {E : aQ} (s0 : Ln) (hok : aP s0 = true) (h : H) : ∀ (s p : Ln) (acc m : Nat), s0 = p ++ s -> (p.length <= 9 -> acc < 2 ^ (7 * p.length)) -> p.length <= 10 ->
   aAW E (.str s0) (.int .i64 (.ofNat (min s0.length 10))) (m + (s.length + 1)) (.int .u64 (.ofNat acc)) (.int .i64 (.ofNat p.length)) h = some (aMf s0 (grp p.length s acc), h) := by
 intro s
 induction s with
 | nil =>
   intro p acc m e ha hp; show aEw E _ _ (aAW E _ _ m) _ _ h = _; unfold aEw; have d : decide (p.length < min s0.length 10) = false := by rw [e]; simp; omega
   rw [cH, aA, d, aW]; unfold aEm; simp [grp, aMf]
 | cons b s ih =>
   intro p acc m e ha hp; show aEw E _ _ (aAW E _ _ (m + (s.length + 1))) _ _ h = _; unfold aEw; by_cases h10 : 10 <= p.length
   · have d : decide (p.length < min s0.length 10) = false := by simp; omega
     rw [cH, aA, d, aW]; unfold aEm; rw [grp, if_pos (.inl h10)]; rfl
   · have hb : b < 256 := (gT s0).1 hok b (by rw [e]; simp)
     have hacc := ha (by omega)
     have d : decide (p.length < min s0.length 10) = true := by rw [e]; simp; omega
     have ix : oP (.str s0) (.int .i64 (.ofNat p.length)) = some (.int .u8 (.ofNat b)) := mI (by rw [e]; simp) _
     have mul : mB (.int .i64 (.ofNat 7)) (.int .i64 (.ofNat p.length)) = some (.int .i64 (.ofNat (7 * p.length))) := by
       rw [mH, show Int.ofNat 7 * Int.ofNat p.length = Int.ofNat (7 * p.length) from rfl, wrap_i64 (by omega)]
     have hacc64 : acc < 2 ^ 64 := Nat.lt_of_lt_of_le hacc (Nat.pow_le_pow_right (by omega) (by omega))
     have hmod : b % 128 * 2 ^ (7 * p.length) % 18446744073709551616 < 2 ^ 64 := Nat.mod_lt _ (by decide)
     have hor : acc ||| (b % 128 * 2 ^ (7 * p.length) % 18446744073709551616) < 18446744073709551616 := Nat.or_lt_two_pow (n := 64) hacc64 hmod; have orv : aED (.int .u64 (.ofNat acc)) (.int .u64 (.ofNat (b % 128 * 2 ^ (7 * p.length) % 18446744073709551616))) = some (.int .u64 (.ofNat (acc ||| (b % 128 * 2 ^ (7 * p.length) % 18446744073709551616)))) := by
       rw [aIF .u64 _ _ hacc64 hmod, oO hor]
     rw [cH, aA, d, cT, ix, aA, qL (by omega), aA, aTW (by omega), aA, mul, aA, aAv _ (by omega), aA, orv, aA, oL, aA]
     have plus : ∀ c : Nat, c < 128 -> (p.length = 9 -> c <= 1) -> acc ||| (c * 2 ^ (7 * p.length) % 18446744073709551616) = acc + c * 128 ^ p.length := by
       intro c hc h9; have hlt : c * 2 ^ (7 * p.length) < 18446744073709551616 := by
         rcases Nat.lt_or_ge p.length 9 with h | h
         · have h1 : (2 : Nat) ^ (7 * p.length) <= 2 ^ 56 := Nat.pow_le_pow_right (by omega) (by omega)
           have e56 : (2 : Nat) ^ 56 = 72057594037927936 := by decide
           have : c * 2 ^ (7 * p.length) <= 127 * 2 ^ 56 := Nat.mul_le_mul (by omega) h1
           omega
         · have h9' : p.length = 9 := by omega
           have := h9 h9'; rw [h9']; have e63 : (2 : Nat) ^ (7 * 9) = 9223372036854775808 := by decide
           rw [e63]; omega
       rw [Nat.mod_eq_of_lt hlt, aUx, aJf hacc]
     rw [grp]; by_cases h128 : 128 <= b
     · rw [decide_eq_true h128, cT, lH (by omega), aA]
       by_cases h9 : p.length = 9
       · rw [if_pos (.inr (.inl ⟨h9, by omega⟩))]
         have := ih (p ++ [b]) (acc ||| (b % 128 * 2 ^ (7 * p.length) % 18446744073709551616)) m (by rw [e]; simp) (by intro h; simp at h; omega) (by simp; omega)
         rw [List.length_append] at this; refine Eq.trans this ?_
         congr 2
         cases s with
         | nil => simp [grp]
         | cons c s => rw [grp, if_pos (.inl (by simp; omega))]
       · rw [if_neg (by omega), if_neg (by omega)]
         have e128 : b % 128 = b - 128 := by omega
         have hp1 := plus (b % 128) (by omega) (by omega)
         rw [hp1, e128]; have hbd : acc + (b - 128) * 128 ^ p.length < 2 ^ (7 * (p.length + 1)) := by
           rw [aUx, show 7 * (p.length + 1) = 7 * p.length + 7 from by omega, Nat.pow_add]
           have : (b - 128) * 2 ^ (7 * p.length) <= 127 * 2 ^ (7 * p.length) := Nat.mul_le_mul_right _ (by omega)
           omega
         have := ih (p ++ [b]) (acc + (b - 128) * 128 ^ p.length) m (by rw [e]; simp) (λ _ => by simpa using hbd) (by simp; omega)
         rw [List.length_append] at this; exact this
     · have hb128 : b % 128 = b := by omega
       rw [decide_eq_false h128, aW, eY, aA, hb128]; by_cases hbad : (p.length = 9 /\ 1 < b) \/ (0 < p.length /\ b = 0)
       · have hc : 10 <= p.length \/ (p.length = 9 /\ 1 < b) \/ (0 < p.length /\ b = 0) := .inr hbad; rw [if_pos hc]; by_cases hz : 0 < p.length /\ b = 0
         · simp only [decide_eq_true hz.1, uP, jW, decide_eq_true hz.2, aA, iL, aAJ, tE]; rw [cT]; rfl
         · have h91 : p.length = 9 /\ 1 < b := hbad.resolve_right hz; have hp0 : 0 < p.length := by omega
           have hb0 : ¬ b = 0 := by omega
           simp only [decide_eq_true hp0, uP, jW, decide_eq_false hb0, aA, iL, jO, decide_eq_true h91.1, eY, decide_eq_true h91.2, eJ]; rw [cT]; rfl
       · rw [if_neg (by omega), if_pos (by omega)]
         have hp1 := plus b (by omega) (by omega)
         rw [hp1]; have fin : (some (DV.tup [DV.int .u64 (.ofNat (acc + b * 128 ^ p.length)), DV.int .i64 (.ofNat (p.length + 1))], h) : aL) = some (aMf s0 (some (acc + b * 128 ^ p.length, s)), h) := by
           show _ = some (DV.tup [DV.int .u64 (.ofNat (acc + b * 128 ^ p.length)), DV.int .i64 (.ofNat (s0.length - s.length))], h); rw [show s0.length - s.length = p.length + 1 from by rw [e]; simp; omega]
         by_cases hp0 : 0 < p.length
         · have hb0 : ¬ b = 0 := by omega
           simp only [decide_eq_true hp0, uP, jW, decide_eq_false hb0, aA, iL, jO]; by_cases h9 : p.length = 9
           · have hb1 : ¬ 1 < b := by omega
             simp only [decide_eq_true h9, uP, eY, decide_eq_false hb1, aA, iL, eJ]; rw [aW, lH (by omega), aA]; exact fin
           · simp only [decide_eq_false h9, aGS, tE, aA, eJ]; rw [aW, lH (by omega), aA]; exact fin
         · have h9 : ¬ p.length = 9 := by omega
           simp only [decide_eq_false hp0, aGS, tE, eJ, aA, jO, jW, decide_eq_false h9]; rw [aW, lH (by omega), aA]; exact fin
def aIe (B : bC) : Prop := ∀ (s : Ln) (h : H), aP s = true -> s.length < 140737488355328 -> B [.str s] h = some (aMf s (grp 0 s 0), h)
theorem aJw {E : aQ} : aIe (aMO E) := by
 intro s h hs hl; have := aEL (E := E) s hs h s [] 0 (aK - (s.length + 1)) rfl (λ _ => by simp) (by simp)
 rw [show aK - (s.length + 1) + (s.length + 1) = aK from by unfold aK; omega] at this
 show aHG E (.str s) h = _; unfold aHG; rw [cQ, aA, uC, aA]; exact this
def aBm (st : Option (Ln)) : Int × Option (Ln) := match st with
 | some s => match yV s with
   | some (n, r) => (n, some r)
   | none => (0, none)
 | none => (0, none)
def okSt (st : Option (Ln)) (n : Nat) : Prop := ∀ s, st = some s -> aP s = true /\ s.length <= n
theorem aDm : ∀ (s : Ln) (i acc v : Nat) (r : Ln), grp i s acc = some (v, r) -> ∃ p, s = p ++ r /\ 1 <= p.length
 | [], i, acc, v, r, h => by simp [grp] at h
 | b :: s, i, acc, v, r, h => by
   rw [grp] at h; split at h
   · cases h
   · split at h
     · cases h; exact ⟨[b], rfl, Nat.le_refl _⟩
     · obtain ⟨p, e, _⟩ := aDm s _ _ v r h; exact ⟨b :: p, by rw [e]; rfl, by simp⟩
theorem bHl {s r : Ln} {v : Nat} (hs : aP s = true) (h : grp 0 s 0 = some (v, r)) : v < 18446744073709551616 := by
 obtain ⟨u, h1, h2, h3, _⟩ := aJv 9 0 s r 0 v rfl hs h; have hv : v = u := by simpa using h1
 subst hv
 simpa using h3
def wL (B : bC) : Prop := ∀ (b : Nat) (st : Option (Ln)) (h : H), aR h b (rdV st) -> okSt st 100000 -> ∃ h', B [.ptr b 0] h = some (.int .i64 (aBm st).1, h') /\ aR h' b (rdV (aBm st).2) /\ qS b h h'
theorem aLM {E : aQ} (hG : fK E 149 aIe) (hF : fK E 148 aAp) (hT : fK E 117 aEd) : wL (aMS E) := by
 obtain ⟨B1, b1, s1⟩ := hG.call; obtain ⟨B2, b2, s2⟩ := hF.call; obtain ⟨B3, b3, s3⟩ := hT.call; intro b st h hb hok; have fa : ∀ k, aG k (.ptr b 0) = some (.ptr b k) := λ k => by rw [cS, Nat.zero_add]
 show ∃ h', aHT E (.ptr b 0) h = _ /\ _; unfold aHT; rw [fF, aA, aW]; cases st with
 | none =>
   obtain ⟨h', f1, f2, f3⟩ := s2 b none h hb; refine ⟨h', ?_, f2, f3⟩; simp only [aZ, aA, fa, hb.read (j := 0) (x := .str []) rfl, b1, s1 [] h rfl (by simp), aV, grp, aMf, lP, lO, jW, decide_true]
   rw [cT, b2, f1, aV]; rfl
 | some s =>
   obtain ⟨hs, hl⟩ := hok s rfl; simp only [aZ, aA, fa, hb.read (j := 0) (x := .str s) rfl, b1, s1 s h hs (by omega), aV]
   cases hg : grp 0 s 0 with
   | none =>
     obtain ⟨h', f1, f2, f3⟩ := s2 b (some s) h hb; have e : aBm (some s) = (0, none) := by simp [aBm, yV, hg]
     rw [e]; refine ⟨h', ?_, f2, f3⟩; simp only [aMf, lP, lO, aA, jW, decide_true]; rw [cT, b2, f1, aV]; rfl
   | some x =>
     obtain ⟨v, r⟩ := x; obtain ⟨p, ep, hp⟩ := aDm s 0 0 v r hg; have hlen : s.length - r.length = p.length := by rw [ep]; simp
     obtain ⟨h', f1, f2, f3⟩ := s3 b (some s) (.ofNat p.length) h hb; have et : aBi (some s) (.ofNat p.length) = (p, true, some r) := by
       show (if p.length <= s.length then (s.take p.length, true, some (s.drop p.length)) else _) = _
       rw [if_pos (by rw [ep]; simp), ep, List.take_left, List.drop_left]
     rw [et] at f1 f2; have e : aBm (some s) = (aLz v, some r) := by simp [aBm, yV, hg]
     rw [e]; refine ⟨h', ?_, f2, f3⟩; have d : decide (p.length = 0) = false := by simp; intro hp0; simp [hp0] at hp
     obtain ⟨x, y, z, w, e1, e2, e3, e4, q, e5, e6⟩ := aTX (bHl hs hg); simp only [aMf, lP, lO, aA, jW, hlen, d]; rw [aW, b3, f1, aV, e1, aA, e2, aA, e3, aA, e4, aA, e5, aA, e6, aA]; rfl
def aUh (st : Option (Ln)) : Nat := if st = some [] then 0 else 3
def tJ (B : bC) : Prop := ∀ (b : Nat) (st : Option (Ln)) (h : H), aR h b (rdV st) -> B [.ptr b 0] h = some (.int .i64 (.ofNat (aUh st)), h)
theorem aIY {E : aQ} : tJ (S85 E) := by
 intro b st h hb; have fa : ∀ k, aG k (.ptr b 0) = some (.ptr b k) := λ k => by rw [cS, Nat.zero_add]
 show aQO E (.ptr b 0) h = _; unfold aQO; rw [fF, aA, aW]; cases st with
 | none =>
   simp only [aZ, aA, fa, hb.read (j := 1) (x := .bool true) rfl, aAJ, tE, iL]; rw [cT]; rfl
 | some s =>
   simp only [aZ, aA, fa, hb.read (j := 1) (x := .bool false) rfl, jO, hb.read (j := 0) (x := .str s) rfl, oJ, eJ]; cases s with
   | nil => rfl
   | cons c s => rfl
def aAT (B : bC) : Prop := ∀ (s : Ln) (h : H), ∃ h', B [.str s] h = some (.ptr h.size 0, h') /\ aR h' h.size (rdV (some s)) /\ aX h h'
theorem aLU {E : aQ} : aAT (S82 E) := by
 intro s h; have hb : dH [(.str []), (.bool false)] [(0, 1, .str s)] = some (.agg [.str s, .bool false]) := rfl; refine ⟨h.push (.blk ⟨2, 2, false, true, Tr.ofL [.str s, .bool false]⟩), ?_, aR.pushed (L := [.str s, .bool false]), aX.push h _⟩; show aQP E (.str s) h = _; unfold aQP; rw [hb, aA, vX]; rfl
def nP (l : List Int) : Ln := l.flatMap zM
def lJ (l : List Int) : List DV := l.map λ n => .int .i64 n
def aSZ (b : Nat) : List DV := (List.range 8).map λ i => .ptr b i
def aAo (B : bC) : Prop := ∀ (b : Nat) (h : H), W (B [.ptr b 0] h) λ v h' => v = .slc h.size 0 8 8 false /\ aR h' h.size (aSZ b) /\ aX h h' /\ h'.size = h.size + 1
theorem aSM {E : aQ} : aAo (S79 E) := by
 intro b h; show W (aQS E (.ptr b 0) h) _; unfold aQS
 repeat' (first | (with_reducible first | refine sT ?_ | refine sF ?_ | refine g1 ?_ | refine g2 ?_ | refine g3 ?_ | refine g4 ?_) | ((with_reducible apply sV); exact dF) | exact W.ret ⟨rfl, rfl⟩ | with_reducible refine W.ret ?_)
 refine sL (cs := aSZ b) rfl rfl λ h1 z1 g1 o1 => ?_
 exact W.ret ⟨rfl, o1, g1, z1⟩
theorem aJB {b i : Nat} (h : i < 8) : (aSZ b)[i]? = some (.ptr b i) := by unfold aSZ; rw [List.getElem?_map, List.getElem?_range h]; rfl
theorem aMc {b i n c : Nat} {op : Bool} (h : i < n) : bY 1 (.slc b 0 n c op) (.int .i64 (.ofNat i)) = some (.ptr b i) := by
 simp only [bY, nR, dK h, cond_true, aM, Nat.zero_add, Nat.mul_one]
theorem aSN {l : List Int} {i : Nat} {n : Int} (h : l[i]? = some n) : (lJ l)[i]? = some (.int .i64 n) := by unfold lJ; rw [List.getElem?_map, h]; rfl
theorem aDB : ∀ l : List Int, (nP l).length <= l.length * 10
 | [] => Nat.le_refl _
 | n :: l => by
   have h1 := (aJr n).2; have h2 := aDB l; show (zM n ++ nP l).length <= _; rw [List.length_append, List.length_cons]; omega
theorem aGY : ∀ {l : List Int}, (∀ n ∈ l, mC n) -> aP (nP l) = true
 | [], _ => rfl
 | n :: l, h => by
   show aP (zM n ++ nP l) = true; exact eG (bBG (h n (by simp))) (aGY λ m hm => h m (by simp [hm]))
theorem aTe {l : List Int} {i : Nat} {n : Int} (h : l[i]? = some n) : nP (l.take (i + 1)) = nP (l.take i) ++ zM n := by
 rw [List.take_add_one, h]; show nP (l.take i ++ [n]) = _; unfold nP; rw [List.flatMap_append]; simp
theorem aJk {E : aQ} (hI : fK E 80 aAh) (hD : fK E 81 wI) {w bs cb : Nat} {l : List Int} (h8 : l.length = 8) (hl : ∀ n ∈ l, mC n) (h1 : cb ≠ w) (h2 : bs ≠ w) :
   ∀ (k i m : Nat) (h : H), i + k = 8 -> aR h cb (lJ l) -> aR h bs (aSZ cb) -> aEc h w (nP (l.take i)) ->
   W (aFW E (.ptr w 0) (.slc bs 0 8 8 false) (.int .i64 (.ofNat 8)) (m + (k + 1)) (.int .i64 (.ofNat i)) h) λ v h' => v = .tup [.str (nP l), .int .i64 (.ofNat 0)] /\ fJ (λ c => c = w) h h' := by
 obtain ⟨BI, bI, sI⟩ := hI.call; obtain ⟨BD, bD, sD⟩ := hD.call; intro k
 induction k with
 | zero =>
   intro i m h hk oc os ow; have hi : i = 8 := by omega
   subst hi; rw [<- h8, List.take_length] at ow; have := sD w (nP l) h ow (aGY hl); show W (aLd E _ _ _ (aFW E _ _ _ m) _ h) _; unfold aLd aRh
   repeat' (first | (with_reducible first | refine sT ?_ | refine sF ?_ | refine g1 ?_ | refine g2 ?_ | refine g3 ?_ | refine g4 ?_) | refine sC bD this ?_ | ((with_reducible apply sV); exact dF) | exact W.ret ⟨rfl, rfl⟩ | with_reducible refine W.ret ?_)
   exact ⟨rfl, fJ.refl _ _⟩
 | succ k ih =>
   intro i m h hk oc os ow; obtain ⟨n, hn⟩ : ∃ n, l[i]? = some n := ⟨l[i]'(by omega), by rw [List.getElem?_eq_getElem]⟩
   have hin : mC n := hl n (List.mem_of_getElem? hn); have hlen := aDB (l.take i); rw [List.length_take] at hlen; obtain ⟨h', e1, w1, k1⟩ := sI w _ n h ow hin (by omega)
   show W (aLd E _ _ _ (aFW E _ _ _ (m + (k + 1))) _ h) _; unfold aLd
   repeat' (first | (with_reducible first | refine sT ?_ | refine sF ?_ | refine g1 ?_ | refine g2 ?_ | refine g3 ?_ | refine g4 ?_) | refine sC bI e1 ?_ | ((with_reducible apply sV); first | exact aMc (by omega) | exact os.read (aJB (by omega)) | exact oc.read (aSN hn) | exact dF) | exact W.ret ⟨rfl, rfl⟩ | with_reducible refine W.ret ?_)
   refine W.mono (ih (i + 1) m h' (by omega) (oc.off k1 h1) (os.off k1 h2) (by rw [aTe hn]; exact w1)) ?_
   rintro v h2 ⟨rfl, k2⟩
   exact ⟨rfl, k1.trans k2⟩
def lL (c q k : Nat) (a b x y z : Int) : List Int := [.ofNat c, .ofNat q, .ofNat k, a, b, x, y, z]
def zL (c q k : Nat) (a b x y z : Int) : Prop := c < 16 /\ q < 2147483648 /\ 1 <= k /\ k <= 9 /\ mC a /\ mC b /\ mC x /\ mC y /\ mC z
theorem zL.all {c q k : Nat} {a b x y z : Int} (h : zL c q k a b x y z) : ∀ n ∈ lL c q k a b x y z, mC n := by
 obtain ⟨h1, h2, h3, h4, h5, h6, h7, h8, h9⟩ := h; intro n hn; simp only [lL, List.mem_cons, List.not_mem_nil, or_false] at hn; rcases hn with rfl | rfl | rfl | rfl | rfl | rfl | rfl | rfl
 · exact qJ (by omega)
 · exact qJ (by omega)
 · exact qJ (by omega)
 all_goals assumption
def rO (B : bC) : Prop := ∀ (c q k : Nat) (a b x y z : Int) (h : H), zL c q k a b x y z -> W (B [.agg (lJ (lL c q k a b x y z))] h) λ v h' => v = .tup [.str (nP (lL c q k a b x y z)), .int .i64 (.ofNat 0)] /\ aX h h'
theorem aSD {E : aQ} (hN : fK E 78 aEk) (hS : fK E 79 aAo) (hI : fK E 80 aAh) (hD : fK E 81 wI) : rO (S53 E) := by
 obtain ⟨BN, bN, sN'⟩ := hN.call; obtain ⟨BS, bS, sS'⟩ := hS.call; intro c q k a b x y z h ok; have hal := ok.all; obtain ⟨h1, h2, h3, h4, _⟩ := ok; show W (aRi E (.agg (lJ (lL c q k a b x y z))) h) _; unfold aRi; refine sX λ m1 z1 q1 o1 => ?_
 have ob : aR m1 h.size [.int .i64 (.ofNat c), .int .i64 (.ofNat q), .int .i64 (.ofNat k), .int .i64 a, .int .i64 b, .int .i64 x, .int .i64 y, .int .i64 z] := o1
 repeat' (first | (with_reducible first | refine sT ?_ | refine sF ?_ | refine g1 ?_ | refine g2 ?_ | refine g3 ?_ | refine g4 ?_) | ((with_reducible apply sV); exact dF) | exact W.ret ⟨rfl, rfl⟩ | with_reducible refine W.ret ?_)
 obtain ⟨m2, e2, w2, q2⟩ := sN' m1; refine sC bN e2 ?_; refine sN bS (sS' h.size m2) ?_
 rintro _ m3 ⟨rfl, os, q3, z3⟩
 repeat' (first | (with_reducible first | refine sT ?_ | refine sF ?_ | refine g1 ?_ | refine g2 ?_ | refine g3 ?_ | refine g4 ?_) | ((with_reducible apply sV); exact dF) | exact W.ret ⟨rfl, rfl⟩ | with_reducible refine W.ret ?_)
 have s2 := q2.size; have hw := w2; obtain ⟨wv, ww1, ww2⟩ := hw; have lw := ww1.1; have := aJk hI hD (w := m1.size) (bs := m2.size) (cb := h.size) rfl hal (by omega) (by omega) 8 0 (aK - 9) m3 rfl ((o1.grown q2).grown q3) os (bAQ w2 (gk q3 (Nat.le_refl _)))
 rw [show aK - 9 + (8 + 1) = aK from by unfold aK; omega] at this
 refine W.mono this ?_
 rintro v m4 ⟨rfl, k4⟩
 exact ⟨rfl, q1.trans (offN (q2.trans q3) k4 λ c hc e => by omega)⟩
def aFw (l : List Int) (i : Nat) : List DV := lJ (l.take i) ++ List.replicate (8 - i) (.int .i64 (.ofNat 0))
theorem aGV {l : List Int} {i : Nat} (h8 : l.length = 8) (hi : i <= 8) : (aFw l i).length = 8 := by
 unfold aFw lJ; rw [List.length_append, List.length_map, List.length_take, List.length_replicate]; omega
theorem aTb {l : List Int} {i : Nat} {n : Int} (h8 : l.length = 8) (h : l[i]? = some n) : (aFw l i).set i (.int .i64 n) = aFw l (i + 1) := by
 have hi : i < 8 := by have := (List.getElem?_eq_some_iff.1 h).1; omega
 unfold aFw; have e : (lJ (l.take i)).length = i := by unfold lJ; rw [List.length_map, List.length_take]; omega
 rw [List.set_append, if_neg (by omega), e, Nat.sub_self, show 8 - i = (8 - (i + 1)) + 1 from by omega, List.replicate_succ, List.set_cons_zero, List.take_add_one, h]
 unfold lJ; simp
theorem aSn {n : Int} (h : mC n) (r : Ln) : aBm (some (zM n ++ r)) = (n, some r) := by
 unfold aBm; simp only [aGs h r]
theorem aWa {l : List Int} {i : Nat} {n : Int} (h : l[i]? = some n) : l.drop i = n :: l.drop (i + 1) := by
 obtain ⟨h1, h2⟩ := List.getElem?_eq_some_iff.1 h; rw [<- h2]; exact List.drop_eq_getElem_cons h1
def aAk (B : bC) : Prop := ∀ (c q k : Nat) (a b x y z : Int) (h : H), zL c q k a b x y z -> W (B [.str (nP (lL c q k a b x y z))] h) λ v h' => v = .tup [.agg (lJ (lL c q k a b x y z)), .int .i64 (.ofNat 0)] /\ aX h h'
theorem aJl {E : aQ} (hR : fK E 118 wL) (hE : fK E 53 rO) (hD : fK E 85 tJ) {n0 rb bs cb xb : Nat} {c q k0 : Nat} {a b x y z : Int} (ok : zL c q k0 a b x y z) (h1 : cb ≠ rb) (h2 : bs ≠ rb) (h3 : bs ≠ cb) (h4 : xb ≠ rb) (h5 : xb ≠ cb) (h6 : bs ≠ xb) (n1 : n0 <= rb) (n2 : n0 <= cb) (n3 : n0 <= xb) (n4 : n0 <= bs) :
   ∀ (k i m : Nat) (h : H), i + k = 8 -> aR h cb (aFw (lL c q k0 a b x y z) i) -> aR h bs (aSZ cb) -> aR h rb (rdV (some (nP ((lL c q k0 a b x y z).drop i)))) -> aR h xb (List.replicate 8 (.int .i64 (.ofNat 0))) ->
   W (aFS E (.ptr xb 0) (.ptr rb 0) (.ptr cb 0) (.slc bs 0 8 8 false) (.int .i64 (.ofNat 8)) (m + (k + 1)) (.int .i64 (.ofNat i)) h) λ v h' => v = .tup [.agg (lJ (lL c q k0 a b x y z)), .int .i64 (.ofNat 0)] /\ dE n0 h h' := by
 obtain ⟨BR, bR, sR⟩ := hR.call; obtain ⟨BE, bE, sE⟩ := hE.call; obtain ⟨BD, bD, sD⟩ := hD.call; have h8 : (lL c q k0 a b x y z).length = 8 := rfl; have hal := ok.all; intro k
 induction k with
 | zero =>
   intro i m h hk oc os or' ox; have hi : i = 8 := by omega
   subst hi; have oc : aR h cb (lJ (lL c q k0 a b x y z)) := oc; have or' : aR h rb (rdV (some [])) := or'; show W (aKY E _ _ _ _ _ (aFS E _ _ _ _ _ m) _ h) _; unfold aKY aQM
   repeat' (first | (with_reducible first | refine sT ?_ | refine sF ?_ | refine g1 ?_ | refine g2 ?_ | refine g3 ?_ | refine g4 ?_) | ((with_reducible apply sV); first | exact oc.all rfl | exact dF) | exact W.ret ⟨rfl, rfl⟩ | with_reducible refine W.ret ?_)
   refine sN bE (sE c q k0 a b x y z h ok) ?_
   rintro _ m3 ⟨rfl, q3⟩
   have or3 := or'.grown q3; have := sD rb (some []) m3 or3; rw [show aUh (some []) = 0 from rfl] at this
   have oc3 := oc.grown q3; have ox3 := ox.grown q3; have lb : xb < h.size := ox.1; have lr : rb < h.size := or'.1; have lc : cb < h.size := oc.1; have ls : bs < h.size := os.1
   repeat' (first | (with_reducible first | refine sT ?_ | refine sF ?_ | refine g1 ?_ | refine g2 ?_ | refine g3 ?_ | refine g4 ?_) | refine sC bD this ?_ | ((with_reducible apply sV); first | exact oc3.all rfl | exact dF) | exact W.ret ⟨rfl, rfl⟩ | with_reducible refine W.ret ?_)
   refine sS ox3 rfl rfl rfl λ m4 o4 k4 => ?_
   repeat' (first | (with_reducible first | refine sT ?_ | refine sF ?_ | refine g1 ?_ | refine g2 ?_ | refine g3 ?_ | refine g4 ?_) | ((with_reducible apply sV); first | exact o4.all rfl | exact dF) | exact W.ret ⟨rfl, rfl⟩ | with_reducible refine W.ret ?_)
   have z3 := q3.size; exact ⟨rfl, (gk q3 (by omega)).trans (k4.keeps n3)⟩
 | succ k ih =>
   intro i m h hk oc os or' ox; obtain ⟨n, hn⟩ : ∃ n, (lL c q k0 a b x y z)[i]? = some n := ⟨_, List.getElem?_eq_getElem (by omega)⟩
   have hin : mC n := hal n (List.mem_of_getElem? hn); have okd : aP (nP ((lL c q k0 a b x y z).drop i)) = true := aGY λ m hm => hal m (List.mem_of_mem_drop hm)
   have hle := aDB ((lL c q k0 a b x y z).drop i); rw [List.length_drop, h8] at hle; obtain ⟨h', e1, w1, k1⟩ := sR rb _ h or' (λ s hs => by cases hs; exact ⟨okd, by omega⟩)
   rw [aWa hn] at e1 w1; rw [show nP (n :: (lL c q k0 a b x y z).drop (i + 1)) = zM n ++ nP ((lL c q k0 a b x y z).drop (i + 1)) from rfl, aSn hin] at e1 w1
   show W (aKY E _ _ _ _ _ (aFS E _ _ _ _ _ (m + (k + 1))) _ h) _; unfold aKY
   repeat' (first | (with_reducible first | refine sT ?_ | refine sF ?_ | refine g1 ?_ | refine g2 ?_ | refine g3 ?_ | refine g4 ?_) | refine sC bR e1 ?_ | ((with_reducible apply sV); first | exact aMc (by omega) | exact os.read (aJB (by omega)) | exact dF) | exact W.ret ⟨rfl, rfl⟩ | with_reducible refine W.ret ?_)
   refine sS1 (j := i) (oc.but h1 k1) (by rw [aGV h8 (by omega)]; omega) rfl λ m2 o2 k2 => ?_
   rw [aTb h8 hn] at o2
   repeat' (first | (with_reducible first | refine sT ?_ | refine sF ?_ | refine g1 ?_ | refine g2 ?_ | refine g3 ?_ | refine g4 ?_) | ((with_reducible apply sV); exact dF) | exact W.ret ⟨rfl, rfl⟩ | with_reducible refine W.ret ?_)
   refine W.mono (ih (i + 1) m m2 (by omega) o2 ((os.but h2 k1).but h3 k2) (w1.but (Ne.symm h1) k2) ((ox.but h4 k1).but h5 k2)) ?_
   rintro v m3 ⟨rfl, k3⟩
   exact ⟨rfl, (k1.keeps n1).trans ((k2.keeps n2).trans k3)⟩
theorem aSE {E : aQ} (hN : fK E 82 aAT) (hS : fK E 79 aAo) (hR : fK E 118 wL) (hE : fK E 53 rO) (hD : fK E 85 tJ) : aAk (S87 E) := by
 obtain ⟨BN, bN, sN'⟩ := hN.call; obtain ⟨BS, bS, sS'⟩ := hS.call; intro c q k a b x y z h ok; show W (aQN E (.str _) h) _; unfold aQN; refine sA rfl λ m1 z1 q1 o1 => ?_
 obtain ⟨m2, e2, w2, q2⟩ := sN' (nP (lL c q k a b x y z)) m1; refine sC bN e2 ?_
 repeat' (first | (with_reducible first | refine sT ?_ | refine sF ?_ | refine g1 ?_ | refine g2 ?_ | refine g3 ?_ | refine g4 ?_) | ((with_reducible apply sV); exact dF) | exact W.ret ⟨rfl, rfl⟩ | with_reducible refine W.ret ?_)
 refine sA rfl λ m3 z3 q3 o3 => ?_
 refine sS o3 rfl rfl rfl λ m4 o4 k4 => ?_
 refine sN bS (sS' m2.size m4) ?_
 rintro _ m5 ⟨rfl, os, q5, z5⟩
 repeat' (first | (with_reducible first | refine sT ?_ | refine sF ?_ | refine g1 ?_ | refine g2 ?_ | refine g3 ?_ | refine g4 ?_) | ((with_reducible apply sV); exact dF) | exact W.ret ⟨rfl, rfl⟩ | with_reducible refine W.ret ?_)
 have s2 := q2.size; have s4 := k4.size; have lw : m1.size < m2.size := w2.1; have := aJl hR hE hD (n0 := h.size) (rb := m1.size) (bs := m4.size) (cb := m2.size) (xb := h.size) ok (by omega) (by omega) (by omega) (by omega) (by omega) (by omega) (by omega) (by omega) (by omega) (by omega) 8 0 (aK - 9) m5 rfl (o4.grown q5) os
   (((w2.grown q3).but (by omega) k4).grown q5) ((((o1.grown q2).grown q3).but (by omega) k4).grown q5)
 rw [show aK - 9 + (8 + 1) = aK from by unfold aK; omega] at this
 refine W.mono this ?_
 rintro v m6 ⟨rfl, k6⟩
 refine ⟨rfl, dE.grown ?_⟩; exact (gk q1 (Nat.le_refl _)).trans ((gk q2 (by omega)).trans ((gk q3 (by omega)).trans ((k4.keeps (by omega)).trans ((gk q5 (by omega)).trans k6))))
end Go.Proofs.YthpciaidbgjoeaaGreat
