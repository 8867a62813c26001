/- Specs. No condition beyond the theorems' own. -/
import Derived.Test.YthpciaidbgjoeaaGreatRl
set_option linter.unusedVariables false
set_option linter.unusedSimpArgs false
namespace Go.Proofs.YthpciaidbgjoeaaGreat
open Go.DI
def fT (E : bF) (f : Nat) (S : bU -> Prop) : Prop := ∃ B, E f = some B /\ S B
theorem fT.call {E : bF} {f : Nat} {S : bU -> Prop} (h : fT E f S) : ∃ B, (∀ args m, aC E f args m = B args m) /\ S B := by
 obtain ⟨B, e, s⟩ := h; exact ⟨B, λ args m => aU e args m, s⟩
def W (o : Option (DV × H)) (Q : DV -> H -> Prop) : Prop := ∃ v h, o = some (v, h) /\ Q v h
theorem gk {h h' : H} {n : Nat} (g : bM h h') (hn : n <= h.size) : dJ n h h' := ⟨g.size, λ c hc => g.get c (Nat.lt_of_lt_of_le hc hn)⟩
theorem offN {h a b : H} {F : Nat -> Prop} (g : bM h a) (k : nL F a b) (hF : ∀ c, c < h.size -> ¬ F c) : bM h b :=
 ⟨Nat.le_trans g.size k.size, λ c hc => by rw [k.get c (Nat.lt_of_lt_of_le hc g.size) (hF c hc)]; exact g.get c hc⟩
section
variable {o : Option (DV × H)} {Q Q' : DV -> H -> Prop} {f : Option DV} {x v : DV} {h h' : H} {k : DV -> Option (DV × H)} {kk : DV -> H -> Option (DV × H)} {a b : Option (DV × H)}
theorem W.ret (q : Q v h) : W (some (v, h)) Q := ⟨v, h, rfl, q⟩
theorem W.mono (w : W o Q') (q : ∀ v h, Q' v h -> Q v h) : W o Q := by
 obtain ⟨v, h, e, p⟩ := w; exact ⟨v, h, e, q v h p⟩
theorem sV (e : f = some x) (r : W (k x) Q) : W (vK f k) Q := by rw [e]; exact r
theorem sW (e : o = some (v, h)) (r : W (kk v h) Q) : W (wK o kk) Q := by rw [e]; exact r
theorem sB (w : W o Q') (r : ∀ v h, Q' v h -> W (kk v h) Q) : W (wK o kk) Q := by
 obtain ⟨v, h, e, p⟩ := w; rw [e]; exact r v h p
theorem sT (r : W a Q) : W (bK (.bool true) a b) Q := r
theorem sF (r : W b Q) : W (bK (.bool false) a b) Q := r
theorem sN {E : bF} {g : Nat} {args : List DV} {B : bU} (b : ∀ args m, aC E g args m = B args m) (w : W (B args h) Q') (r : ∀ v h, Q' v h -> W (kk v h) Q) : W (wK (aC E g args h) kk) Q := by rw [b]; exact sB w r
theorem sC {E : bF} {g : Nat} {args : List DV} {B : bU} (b : ∀ args m, aC E g args m = B args m) (e : B args h = some (v, h')) (r : W (kk v h') Q) : W (wK (aC E g args h) kk) Q := by rw [b, e]; exact r
theorem sX {cs : List DV} (r : ∀ h1, h1.size = h.size + 1 -> bM h h1 -> aB h1 h.size cs -> W (kk (.ptr h.size 0) h1) Q) : W (dN (.agg cs) h kk) Q := by
 obtain ⟨h1, e, g, o⟩ := dB h cs.length cs.length cs rfl; rw [nbx e rfl]; exact r h1 (by rw [e]; exact H.size_push _ _) g o
theorem sA {n es : Nat} {L : List DV} (hn : n = L.length) (r : ∀ h1, h1.size = h.size + 1 -> bM h h1 -> aB h1 h.size L -> W (kk (.ptr h.size 0) h1) Q) : W (jJ n es (.list L) h kk) Q := by
 obtain ⟨h1, e, g, o⟩ := dB h n es L hn; rw [aLE, <- e]; exact r h1 (by rw [e]; exact H.size_push _ _) g o
theorem sS {b n : Nat} {L cs : List DV} (o : aB h b L) (hL : L.length = n) (hn : cs.length = n) (hv : cs.all DV.one = true) (r : ∀ h1, aB h1 b cs -> rT b h h1 -> W (kk (.tup []) h1) Q) : W (wK (eU n (.ptr b 0) (.agg cs) h) kk) Q := by
 obtain ⟨h1, e, p, q⟩ := o.setAll hL hn hv; rw [e]; exact r h1 p q
theorem sS1 {b j : Nat} {L : List DV} {v : DV} (o : aB h b L) (hj : j < L.length) (hv : v.one = true) (r : ∀ h1, aB h1 b (L.set j v) -> rT b h h1 -> W (kk (.tup []) h1) Q) : W (wK (eU 1 (.ptr b j) v h) kk) Q := by
 obtain ⟨h1, e, p, q⟩ := o.set hv hj; rw [e]; exact r h1 p q
theorem sL {n es : Nat} {z cs : List DV} {ps : List (Nat × Nat × DV)} (hf : fZ (iW z n) ps = some cs) (hc : cs.length = n * es) (r : ∀ h1, h1.size = h.size + 1 -> bM h h1 -> aB h1 h.size cs -> W (kk (.slc h.size 0 n n false) h1) Q) : W (eX n es z ps h kk) Q := by
 obtain ⟨h1, e, g, o⟩ := dB h (n * es) es cs hc.symm; simp only [eX, hf, Option.bind_some, H.pushK_eq]; rw [<- e]; exact r h1 (by rw [e]; exact H.size_push _ _) g o
variable {op : (DV -> H -> Option (DV × H)) -> Option (DV × H)}
theorem g1 (r : W (op kk) Q) : W (aQ (.bool false) false op h kk) Q := r
theorem g2 (r : W (op kk) Q) : W (aQ (.bool true) true op h kk) Q := r
theorem g3 (r : W (kk (.tup []) h) Q) : W (aQ (.bool true) false op h kk) Q := r
theorem g4 (r : W (kk (.tup []) h) Q) : W (aQ (.bool false) true op h kk) Q := r
end
section
variable {k : IntKind} {a b : Nat}
theorem eG (h : a < b) : bV (.int k (.ofNat a)) (.int k (.ofNat b)) = some (.bool true) := by rw [cP, decide_eq_true h]
theorem eH (h : b <= a) : bV (.int k (.ofNat a)) (.int k (.ofNat b)) = some (.bool false) := by rw [cP, decide_eq_false (by omega)]
theorem eI (h : a <= b) : uJ (.int k (.ofNat a)) (.int k (.ofNat b)) = some (.bool true) := by rw [aEM, decide_eq_true h]
theorem eJ (h : b < a) : uJ (.int k (.ofNat a)) (.int k (.ofNat b)) = some (.bool false) := by rw [aEM, decide_eq_false (by omega)]
theorem dZ (h : a = b) : cU (.int k (.ofNat a)) (.int k (.ofNat b)) = some (.bool true) := by rw [mH, h]; simp
theorem eK (h : a ≠ b) : cU (.int k (.ofNat a)) (.int k (.ofNat b)) = some (.bool false) := by rw [mH]; simp; omega
theorem eE (h : a ≠ b) : dR (.int k (.ofNat a)) (.int k (.ofNat b)) = some (.bool true) := by rw [vU]; simp; omega
theorem eF (h : a = b) : dR (.int k (.ofNat a)) (.int k (.ofNat b)) = some (.bool false) := by rw [vU, h]; simp
theorem bT (h : a * b < 9223372036854775808) : jP (.int .i64 (.ofNat a)) (.int .i64 (.ofNat b)) = some (.int .i64 (.ofNat (a * b))) := by rw [mF, show (Int.ofNat a * Int.ofNat b) = .ofNat (a * b) from rfl, wrap_i64 h]
end
def aLg (u : Nat) : Int := if u % 2 = 0 then .ofNat (u / 2) else .negSucc (u / 2)
theorem aYP (n : Int) : aLg (zz n) = n := by
 cases n with
 | ofNat a =>
   show aLg (2 * a) = _; unfold aLg; rw [if_pos (by omega), show 2 * a / 2 = a from by omega]
 | negSucc a =>
   show aLg (2 * a + 1) = _; unfold aLg; rw [if_neg (by omega), show (2 * a + 1) / 2 = a from by omega]
theorem aSD {n : Int} (h1 : -9223372036854775808 <= n) (h2 : n < 9223372036854775808) : zz n < 18446744073709551616 := by
 cases n with
 | ofNat a => show 2 * a < _; simp only [Int.ofNat_eq_natCast] at h2; omega
 | negSucc a => show 2 * a + 1 < _; omega
def tY : Nat -> Nat -> Ln
 | 0, u => [u]
 | k + 1, u => if u < 128 then [u] else (u % 128 + 128) :: tY k (u / 128)
def grp : Nat -> Ln -> Nat -> Option (Nat × Ln)
 | _, [], _ => none
 | i, b :: s, acc => if 10 <= i \/ (i = 9 /\ 1 < b) \/ (0 < i /\ b = 0) then none else
     if b < 128 then some (acc + b * 128 ^ i, s) else grp (i + 1) s (acc + (b - 128) * 128 ^ i)
theorem aNu : ∀ (k u : Nat), u < 2 ^ (7 * k + 1) -> aW (tY k u) = true
 | 0, u, h => by simp only [tY, aW, Bool.and_true, Nat.blt_eq]; simp at h; omega
 | k + 1, u, h => by
   rw [tY]; split
   · rename_i h1; simp only [aW, Bool.and_true, Nat.blt_eq]; omega
   · simp only [aW, Bool.and_eq_true, Nat.blt_eq]; refine ⟨by omega, aNu k (u / 128) ?_⟩
     have : (2 : Nat) ^ (7 * (k + 1) + 1) = 128 * 2 ^ (7 * k + 1) := by
       rw [show 7 * (k + 1) + 1 = 7 + (7 * k + 1) from by omega, Nat.pow_add]
     rw [this] at h; exact Nat.div_lt_of_lt_mul h
theorem aIj : ∀ (k u : Nat), 1 <= (tY k u).length /\ (tY k u).length <= k + 1
 | 0, u => by simp [tY]
 | k + 1, u => by
   rw [tY]; split
   · simp
   · have := aIj k (u / 128); simp only [List.length_cons]; omega
theorem aEY (i : Nat) : 128 ^ (i + 1) = 128 * 128 ^ i := by rw [Nat.pow_succ, Nat.mul_comm]
theorem aJh (r : Ln) : ∀ (k i u acc : Nat), i + k = 9 -> u < 2 ^ (7 * k + 1) -> (0 < i -> 0 < u) -> grp i (tY k u ++ r) acc = some (acc + u * 128 ^ i, r)
 | 0, i, u, acc, hi, hu, hp => by
   have h9 : i = 9 := by omega
   subst h9; simp at hu; have := hp (by omega)
   have hu1 : u = 1 := by omega
   subst hu1; rw [tY, List.cons_append, grp, if_neg (by omega), if_pos (by omega)]; rfl
 | k + 1, i, u, acc, hi, hu, hp => by
   rw [tY]; by_cases h : u < 128
   · rw [if_pos h, List.cons_append, grp, if_neg (by
       rintro (h1 | h1 | h1)
       · omega
       · omega
       · have := hp h1.1; omega), if_pos h]; rfl
   · rw [if_neg h, List.cons_append, grp, if_neg (by omega), if_neg (by omega)]
     have h2 : (2 : Nat) ^ (7 * (k + 1) + 1) = 128 * 2 ^ (7 * k + 1) := by
       rw [show 7 * (k + 1) + 1 = 7 + (7 * k + 1) from by omega, Nat.pow_add]
     rw [h2] at hu; rw [aJh r k (i + 1) (u / 128) _ (by omega) (Nat.div_lt_of_lt_mul hu) (λ _ => by omega), aEY]
     congr 2
     rw [show u % 128 + 128 - 128 = u % 128 from by omega, Nat.add_assoc]
     congr 1
     have e : u / 128 * (128 * 128 ^ i) = 128 * (u / 128) * 128 ^ i := by rw [<- Nat.mul_assoc, Nat.mul_comm (u / 128) 128]
     rw [e, <- Nat.add_mul, Nat.mod_add_div]
theorem aJi : ∀ (k i : Nat) (s r : Ln) (acc v : Nat), i + k = 9 -> aW s = true -> grp i s acc = some (v, r) -> ∃ u, v = acc + u * 128 ^ i /\ s = tY k u ++ r /\ u < 2 ^ (7 * k + 1) /\ (0 < i -> 0 < u)
 | k, i, [], r, acc, v, _, _, h => by simp [grp] at h
 | k, i, b :: s, r, acc, v, hi, hs, h => by
   simp only [aW, Bool.and_eq_true, Nat.blt_eq] at hs; rw [grp] at h; split at h
   · cases h
   · rename_i hc; split at h
     · rename_i hb; cases h; refine ⟨b, rfl, ?_, ?_, λ h0 => ?_⟩
       · cases k with
         | zero => rfl
         | succ k => rw [tY, if_pos hb]; rfl
       · cases k with
         | zero => simp; omega
         | succ k =>
           have : (2 : Nat) ^ (7 * (k + 1) + 1) = 256 * 2 ^ (7 * k) := by
             rw [show 7 * (k + 1) + 1 = 8 + 7 * k from by omega, Nat.pow_add]
           rw [this]; have : 0 < 2 ^ (7 * k) := Nat.two_pow_pos _; omega
       · omega
     · rename_i hb; cases k with
       | zero => exact absurd (.inr (.inl ⟨by omega, by omega⟩)) hc
       | succ k =>
         obtain ⟨u, h1, h2, h3, h4⟩ := aJi k (i + 1) s r _ v (by omega) hs.2 h
         have hu := h4 (by omega)
         refine ⟨(b - 128) + 128 * u, ?_, ?_, ?_, λ _ => by omega⟩
         · rw [h1, aEY, Nat.add_assoc]
           congr 1
           rw [Nat.add_mul]
           congr 1
           rw [<- Nat.mul_assoc, Nat.mul_comm u 128]
         · rw [tY, if_neg (by omega), h2]
           rw [show (b - 128 + 128 * u) % 128 + 128 = b from by omega, show (b - 128 + 128 * u) / 128 = u from by omega]
           rfl
         · have : (2 : Nat) ^ (7 * (k + 1) + 1) = 128 * 2 ^ (7 * k + 1) := by
             rw [show 7 * (k + 1) + 1 = 7 + (7 * k + 1) from by omega, Nat.pow_add]
           rw [this]; omega
def zK (n : Int) : Ln := tY 9 (zz n)
def yR (s : Ln) : Option (Int × Ln) := (grp 0 s 0).map λ x => (aLg x.1, x.2)
def oA (n : Int) : Prop := -9223372036854775808 <= n /\ n < 9223372036854775808
theorem aZp {n : Int} (h : oA n) : aW (zK n) = true := aNu 9 _ (by have := aSD h.1 h.2; simpa using this)
theorem aJd (n : Int) : 1 <= (zK n).length /\ (zK n).length <= 10 := aIj 9 _
theorem aGj {n : Int} (h : oA n) (r : Ln) : yR (zK n ++ r) = some (n, r) := by
 unfold yR zK; rw [aJh r 9 0 (zz n) 0 rfl (by have := aSD h.1 h.2; simpa using this) (λ h => absurd h (by omega))]
 simp [aYP]
theorem aLB {E : bF} {n0 : Nat} : ∀ (k m u : Nat) (s : Ln) (v : DV) (h : H), u < 2 ^ (7 * k + 1) -> k <= 9 -> s.length + k <= 1000000 -> n0 <= h.size -> aQV n0 h v (aY s) -> (∀ b o n c op, v = .slc b o n c op -> b < h.size) ->
   ∃ v' h', aBa E (m + (k + 1)) v (.int .u64 (.ofNat u)) h = some (v', h') /\ cI n0 h' v' (aY (s ++ tY k u)) /\ dJ n0 h h' := by
 intro k
 induction k with
 | zero =>
   intro m u s v h hu hk9 hs hn ho hlt; simp at hu; show ∃ v' h', aEq E (aBa E m) _ _ h = _ /\ _; unfold aEq; have d : decide (128 <= u) = false := by simp; omega
   obtain ⟨v1, h1, g1, g2, g3⟩ := ho.push1 (x := iK (u % 256)) (z := iK 0) (bytes := 1) hlt hn rfl (by rw [cF]; unfold bP; omega) (by rw [cF]; unfold bP; omega)
   refine ⟨v1, h1, ?_, ?_, g3⟩
   · rw [oQ, aA, d, bC]; unfold aEf; rw [conv_u8, aA, show (DV.int .u8 (.ofNat (u % 256))) = iK (u % 256) from rfl, show (DV.int .u8 (.ofNat 0)) = iK 0 from rfl, g1]
   · rw [tY, jM]; have : u % 256 = u := by omega
     rw [this] at g2; exact g2
 | succ k ih =>
   intro m u s v h hu hk9 hs hn ho hlt; show ∃ v' h', aEq E (aBa E (m + (k + 1))) _ _ h = _ /\ _; unfold aEq; rw [tY]; by_cases h128 : u < 128
   · have d : decide (128 <= u) = false := by simp; omega
     obtain ⟨v1, h1, g1, g2, g3⟩ := ho.push1 (x := iK (u % 256)) (z := iK 0) (bytes := 1) hlt hn rfl (by rw [cF]; unfold bP; omega) (by rw [cF]; unfold bP; omega)
     refine ⟨v1, h1, ?_, ?_, g3⟩
     · rw [oQ, aA, d, bC]; unfold aEf; rw [conv_u8, aA, show (DV.int .u8 (.ofNat (u % 256))) = iK (u % 256) from rfl, show (DV.int .u8 (.ofNat 0)) = iK 0 from rfl, g1]
     · rw [if_pos h128, jM]; have : u % 256 = u := by omega
       rw [this] at g2; exact g2
   · have d : decide (128 <= u) = true := by simp; omega
     have h2 : (2 : Nat) ^ (7 * (k + 1) + 1) = 128 * 2 ^ (7 * k + 1) := by
       rw [show 7 * (k + 1) + 1 = 7 + (7 * k + 1) from by omega, Nat.pow_add]
     rw [h2] at hu; obtain ⟨v1, h1, g1, g2, g3⟩ := ho.push1 (x := iK (u % 128 + 128)) (z := iK 0) (bytes := 1) hlt hn rfl (by rw [cF]; unfold bP; omega) (by rw [cF]; unfold bP; omega)
     have g2' : cI n0 h1 v1 (aY (s ++ [u % 128 + 128])) := by rw [jM]; exact g2
     obtain ⟨v2, h3, k1, k2, k3⟩ := ih m (u / 128) (s ++ [u % 128 + 128]) v1 h1 (Nat.div_lt_of_lt_mul hu) (by omega) (by simp; omega) (Nat.le_trans hn g3.size) (.inl g2') g2'.lt_size
     have h64 : u < 18446744073709551616 := by
       have : (2 : Nat) ^ (7 * k + 1) <= 2 ^ 57 := Nat.pow_le_pow_right (by omega) (by omega)
       have e57 : (2 : Nat) ^ 57 = 144115188075855872 := by decide
       omega
     refine ⟨v2, h3, ?_, ?_, g3.trans k3⟩
     · rw [oQ, aA, d, cZ, conv_u8, aA, aYO (by omega), aA]
       rw [show u % 256 % 128 + 128 = u % 128 + 128 from by omega, show (DV.int .u8 (.ofNat 0)) = iK 0 from rfl, g1, aGo _ _ (by decide), aA]
       exact k1
     · rw [if_neg h128]
       simpa using k2
def aHf (B : bU) : Prop := ∀ (v : DV) (s : Ln) (n : Int) (h : H), aNq h v (aY s) -> s.length <= 100000 -> oA n -> ∃ v' h', B [v, .int .i64 n] h = some (v', h') /\ cI h.size h' v' (aY (s ++ zK n)) /\ dJ h.size h h'
theorem aTy {E : bF} : aHf (aMz E) := by
 intro v s n h hc hs hn; have hz := aSD hn.1 hn.2; obtain ⟨v', h', a1, a2, a3⟩ := aLB (E := E) (n0 := h.size) 9 (aT - 10) (zz n) s v h (by simpa using hz) (Nat.le_refl _) (by omega) (Nat.le_refl _) hc.1 hc.2
 rw [show aT - 10 + (9 + 1) = aT from by unfold aT; omega] at a1
 refine ⟨v', h', ?_, a2, a3⟩; obtain ⟨x, y, z, e1, e2, e3, w, e4, e5⟩ := bDw hn.1 hn.2; show aHG E v (.int .i64 n) h = _; unfold aHG; rw [e1, aA, e2, aA, e3, aA, e4, aA, e5, aA]; exact a1
theorem uW {n : Nat} (h : n < 9223372036854775808) : oA (.ofNat n) := ⟨by simp only [Int.ofNat_eq_natCast]; omega, by simp only [Int.ofNat_eq_natCast]; omega⟩
def aDX (h : H) (b : Nat) (s : Ln) : Prop := ∃ v, aB h b [.int .i64 (.ofNat 65536), v, .int .i64 (.ofNat 0)] /\ cI (b + 1) h v (aY s)
theorem aUX {n0 b : Nat} {h h' : H} {v : DV} {L : List DV} (o : cI n0 h v L) (hb : b < n0) (k : rT b h h') : cI n0 h' v L := by
 rcases o with o | ⟨c, hc, e, hcell⟩
 · exact .inl o
 · exact .inr ⟨c, hc, e, hcell.but (by omega) k⟩
theorem bAu {n0 : Nat} {h : H} {v : DV} {L : List DV} (o : cI n0 h v L) : ∃ c, aCx 1 v none (.int .i64 (.ofNat L.length)) (.int .i64 (.ofNat L.length)) = some c /\ aNq h c L := by
 rcases o with ⟨rfl, rfl⟩ | ⟨b, _, rfl, hb⟩
 · exact ⟨.nils, rfl, .inl (cI.nil _ _), λ b o n c op e => by cases e⟩
 · have hlt := hb.1; obtain ⟨_, pl, t, g1, g2⟩ := id hb; by_cases hL : 0 < L.length
   · refine ⟨.slc b 0 L.length L.length false, ?_, .inr ⟨b, 0, _, rfl, g1, λ j x hj => by rw [Nat.zero_add]; exact hb.rd hj⟩, λ b' o n c op e => by cases e; exact hlt⟩
     simp only [aCx, dG, dHi, dLo]; rw [Nat.ble_eq_true_of_le (Nat.le_refl _), cond_true, cond_true, Nat.ble_eq_true_of_le (Nat.zero_le _), cond_true, dP hL, cond_true]; simp [aR]
   · have h0 : L.length = 0 := by omega
     have hn : L = [] := List.eq_nil_of_length_eq_zero h0; subst hn; exact ⟨.slc b 0 0 0 false, rfl, .inr ⟨b, 0, _, rfl, g1, λ j x hj => by cases hj⟩, λ b' o n c op e => by cases e; exact hlt⟩
def bNH (E : bF) (f : DV) (h : H) (s new : Ln) : Prop := ∀ c, aNq h c (aY s) -> ∃ v' h', lY E f [c] h = some (v', h') /\ cI h.size h' v' (aY (s ++ new)) /\ dJ h.size h h'
theorem aZn {E : bF} {b : Nat} {s new : Ln} {f : DV} {h : H} (hw : aDX h b s) (hf : bNH E f h s new) (hl : s.length + new.length <= 65536) :
   ∃ h', aKt E [.ptr b 0, f] h = some (.tup [], h') /\ aDX h' b (s ++ new) /\ nL (λ c => c = b) h h' := by
 obtain ⟨v, ho, hv⟩ := hw; obtain ⟨c, hc1, hc2⟩ := bAu hv; obtain ⟨v', h1, f1, f2, f3⟩ := hf c hc2; have ho1 := ho.grown f3.grown; obtain ⟨h2, g1, g2, g3⟩ := ho1.set (v := v') (j := 1) (by rcases f2 with ⟨rfl, _⟩ | ⟨_, _, rfl, _⟩ <;> rfl) (by simp)
 have hb := ho.1; refine ⟨h2, ?_, ⟨v', g2, aUX (f2.mono (by omega)) (by omega) g3⟩, (f3.grown.off _).trans (g3.off rfl)⟩
 show aHI E (.ptr b 0) f h = _; unfold aHI; have fa : ∀ k, aP k (.ptr b 0) = some (.ptr b k) := λ k => by rw [aF, Nat.zero_add]
 have d1 : decide (65536 < (aY (s ++ new)).length) = false := by rw [cF, List.length_append]; simp; omega
 simp only [fU, aA, jX, bO, fa, ho.read (j := 2) rfl, mE, decide_true, Bool.not_true, eW]; rw [bC]; simp only [bO, aA, fa, ho.read (j := 1) rfl, hv.len, hc1, f1, aZ, f2.len, ho1.read (j := 0) rfl, fS, d1]; rw [bC]; simp only [bO, aA, fa, g1, aZ]
theorem aYK {h : H} {b : Nat} {s : Ln} (hw : aDX h b s) (o : fN) : aDX (h.push o) b s := by
 obtain ⟨v, ho, hv⟩ := hw; exact ⟨v, ho.grown (bM.push h o), hv.keep (dJ.push (Nat.le_refl _) o) (Nat.le_refl _)⟩
theorem aYL {h h' : H} {b : Nat} {s : Ln} (hw : aDX h b s) (k : dJ h.size h h') : aDX h' b s := by
 obtain ⟨v, ho, hv⟩ := hw; exact ⟨v, ho.grown k.grown, hv.keep k (Nat.le_refl _)⟩
def aAf (B : bU) : Prop := ∀ (b : Nat) (s : Ln) (n : Int) (h : H), aDX h b s -> oA n -> s.length + 10 <= 65536 -> ∃ h', B [.ptr b 0, .int .i64 n] h = some (.tup [], h') /\ aDX h' b (s ++ zK n) /\ nL (λ c => c = b) h h'
theorem aQZ {E F G : bF} (h1 : E 114 = some (aKt F)) (h2 : F 115 = some (aMA G)) (hN : fT G 116 aHf) : aAf (S80 E) := by
 obtain ⟨B, hB, sB⟩ := hN.call; intro b s n h hw hn hs; have hbox : aB (h.push (.blk ⟨1, 1, false, true, Tr.ofL [.int .i64 n]⟩)) h.size [.int .i64 n] := aB.pushed (L := [.int .i64 n]); have hl := (aJd n).2; have hb : b < h.size := by obtain ⟨v, ho, _⟩ := hw; exact ho.1
 obtain ⟨h', f1, f2, f3⟩ := aZn (E := F) (b := b) (s := s) (new := zK n) (f := .fn (.func 115) [] [.ptr h.size 0]) (aYK hw (.blk ⟨1, 1, false, true, Tr.ofL [.int .i64 n]⟩)) (by
   intro c hc; obtain ⟨v', h', a1, a2, a3⟩ := sB c s n _ hc (by omega) hn
   refine ⟨v', h', ?_, a2, a3⟩; show aC F 115 ([] ++ [c] ++ [.ptr h.size 0]) _ = _; rw [aU h2]; show aHH G c (.ptr h.size 0) _ = _; unfold aHH; rw [hbox.read (j := 0) rfl, aA, hB, a1, aZ]) (by omega)
 refine ⟨h', ?_, f2, ((bM.push h _).off _).trans f3⟩; show aPY E (.ptr b 0) (.int .i64 n) h = _; unfold aPY; rw [vZ rfl, aU h1, f1, aZ]
def wM (B : bU) : Prop := ∀ (b : Nat) (s : Ln) (h : H), aDX h b s -> aW s = true -> B [.ptr b 0] h = some (.tup [.str s, .int .i64 (.ofNat 0)], h)
theorem aLe {E : bF} : wM (S81 E) := by
 intro b s h hw hok; obtain ⟨v, ho, hv⟩ := hw; show aPX E (.ptr b 0) h = _; unfold aPX; have fa : ∀ k, aP k (.ptr b 0) = some (.ptr b k) := λ k => by rw [aF, Nat.zero_add]
 rw [fU, aA, bC]; simp only [bO, aA, fa, ho.read (j := 2) rfl, mE, decide_true, Bool.not_true]; rw [bC]; simp only [bO, aA, fa, ho.read (j := 1) rfl, hv.text hok]
def aEc (B : bU) : Prop := ∀ (h : H), ∃ h', B [.int .i64 (.ofNat 65536)] h = some (.ptr h.size 0, h') /\ aDX h' h.size [] /\ bM h h'
theorem aRz {E : bF} : aEc (S78 E) := by
 intro h; have hb : dT [(.int .i64 (.ofNat 0)), .nils, (.int .i64 (.ofNat 0))] [(0, 1, .int .i64 (.ofNat 65536))] = some (.agg [.int .i64 (.ofNat 65536), .nils, .int .i64 (.ofNat 0)]) := rfl; refine ⟨h.push (.blk ⟨3, 3, false, true, Tr.ofL [.int .i64 (.ofNat 65536), .nils, .int .i64 (.ofNat 0)]⟩), ?_, ⟨.nils, aB.pushed (L := [.int .i64 (.ofNat 65536), .nils, .int .i64 (.ofNat 0)]), cI.nil _ _⟩, bM.push h _⟩; show aQa E (.int .i64 (.ofNat 65536)) h = _; unfold aQa; rw [aI, aA, aJ, aA]; rw [show min (max 65536 0) 65536 = 65536 from rfl, hb, aA, wA]; rfl
def rdV (st : Option (Ln)) : List DV := match st with
 | some s => [.str s, .bool false]
 | none => [.str [], .bool true]
theorem xT (st : Option (Ln)) : (rdV st).length = 2 := by cases st <;> rfl
def aAn (B : bU) : Prop := ∀ (b : Nat) (st : Option (Ln)) (h : H), aB h b (rdV st) -> ∃ h', B [.ptr b 0] h = some (.tup [], h') /\ aB h' b (rdV none) /\ rT b h h'
theorem aRY {E : bF} : aAn (aMu E) := by
 intro b st h hb; obtain ⟨h1, f1, f2, f3⟩ := hb.set (v := .str []) (j := 0) rfl (by rw [xT]; omega)
 obtain ⟨h2, g1, g2, g3⟩ := f2.set (v := .bool true) (j := 1) rfl (by simp [xT])
 have e : ((rdV st).set 0 (.str [])).set 1 (.bool true) = rdV none := by cases st <;> rfl
 rw [e] at g2; refine ⟨h2, ?_, g2, f3.trans g3⟩; show aHs E (.ptr b 0) h = _; unfold aHs; have fa : ∀ k, aP k (.ptr b 0) = some (.ptr b k) := λ k => by rw [aF, Nat.zero_add]
 rw [uK, aA, cZ]; simp only [bO, aA, fa, f1, aZ, g1]
def aBj (st : Option (Ln)) (n : Int) : Ln × Bool × Option (Ln) := match st, n with
 | some s, .ofNat k => if k <= s.length then (s.take k, true, some (s.drop k)) else ([], false, none)
 | _, _ => ([], false, none)
def aDY (B : bU) : Prop := ∀ (b : Nat) (st : Option (Ln)) (n : Int) (h : H), aB h b (rdV st) -> ∃ h', B [.ptr b 0, .int .i64 n] h = some (.tup [.str (aBj st n).1, .bool (aBj st n).2.1], h') /\ aB h' b (rdV (aBj st n).2.2) /\ rT b h h'
theorem aRi {E : bF} (hF : fT E 148 aAn) : aDY (aMy E) := by
 obtain ⟨B, hB, sB⟩ := hF.call; intro b st n h hb; show ∃ h', aHF E (.ptr b 0) (.int .i64 n) h = _ /\ _; unfold aHF; have fa : ∀ k, aP k (.ptr b 0) = some (.ptr b k) := λ k => by rw [aF, Nat.zero_add]
 cases st with
 | none =>
   have e : aBj none n = ([], false, none) := rfl; obtain ⟨h', f1, f2, f3⟩ := sB b none h hb; rw [e]; refine ⟨h', ?_, f2, f3⟩; simp only [fU, aA, jX, bO, fa, hb.read (j := 1) (x := .bool true) rfl, eW, aAK, tF, iD]; rw [cZ, hB, f1, aZ]
 | some s =>
   have h0 := hb.read (j := 0) (x := .str s) rfl; simp only [fU, aA, jX, bO, fa, hb.read (j := 1) (x := .bool false) rfl, eW, iS, h0, cQ]; cases n with
   | negSucc k =>
     have e : aBj (some s) (.negSucc k) = ([], false, none) := rfl; obtain ⟨h', f1, f2, f3⟩ := sB b (some s) h hb; rw [e]; refine ⟨h', ?_, f2, f3⟩; have d : decide (Int.negSucc k < Int.ofNat 0) = true := by simp
     simp only [d, aAK, tF, iD, aA]; rw [cZ, hB, f1, aZ]
   | ofNat k =>
     have d : decide (Int.ofNat k < Int.ofNat 0) = false := by simp
     simp only [d, jX, bO, aA, fa, h0, cQ, fS, eW]; by_cases hk : s.length < k
     · have e : aBj (some s) (.ofNat k) = ([], false, none) := by show (if k <= s.length then _ else _) = _; rw [if_neg (by omega)]
       obtain ⟨h', f1, f2, f3⟩ := sB b (some s) h hb; rw [e]; refine ⟨h', ?_, f2, f3⟩; rw [decide_eq_true hk, cZ, hB, f1, aZ]
     · have e : aBj (some s) (.ofNat k) = (s.take k, true, some (s.drop k)) := by show (if k <= s.length then _ else _) = _; rw [if_pos (by omega)]
       obtain ⟨h1, f1, f2, f3⟩ := hb.set (v := .str (s.drop k)) (j := 0) rfl (by rw [xT]; omega)
       rw [e]; refine ⟨h1, ?_, f2, f3⟩; rw [decide_eq_false hk, bC]; simp only [bO, aA, fa, h0, uG (show k <= s.length by omega), xM (show k <= s.length by omega), f1, aZ]
theorem aTn (i : Nat) : 128 ^ i = 2 ^ (7 * i) := by rw [Nat.pow_mul]
def aLK (s : Ln) (r : Option (Nat × Ln)) : DV := match r with
 | some (v, q) => .tup [.int .u64 (.ofNat v), .int .i64 (.ofNat (s.length - q.length))]
 | none => .tup [.int .u64 (.ofNat 0), .int .i64 (.ofNat 0)]
theorem aEE {E : bF} (s0 : Ln) (hok : aW s0 = true) (h : H) : ∀ (s p : Ln) (acc m : Nat), s0 = p ++ s -> (p.length <= 9 -> acc < 2 ^ (7 * p.length)) -> p.length <= 10 ->
   aAZ E (.str s0) (.int .i64 (.ofNat (min s0.length 10))) (m + (s.length + 1)) (.int .u64 (.ofNat acc)) (.int .i64 (.ofNat p.length)) h = some (aLK s0 (grp p.length s acc), h) := by
 intro s
 induction s with
 | nil =>
   intro p acc m e ha hp; show aEo E _ _ (aAZ E _ _ m) _ _ h = _; unfold aEo; have d : decide (p.length < min s0.length 10) = false := by rw [e]; simp; omega
   rw [cP, aA, d, bC]; unfold aEe; simp [grp, aLK]
 | cons b s ih =>
   intro p acc m e ha hp; show aEo E _ _ (aAZ E _ _ (m + (s.length + 1))) _ _ h = _; unfold aEo; by_cases h10 : 10 <= p.length
   · have d : decide (p.length < min s0.length 10) = false := by simp; omega
     rw [cP, aA, d, bC]; unfold aEe; rw [grp, if_pos (.inl h10)]; rfl
   · have hb : b < 256 := (gZ s0).1 hok b (by rw [e]; simp)
     have hacc := ha (by omega)
     have d : decide (p.length < min s0.length 10) = true := by rw [e]; simp; omega
     have ix : oV (.str s0) (.int .i64 (.ofNat p.length)) = some (.int .u8 (.ofNat b)) := mG (by rw [e]; simp) _
     have mul : jP (.int .i64 (.ofNat 7)) (.int .i64 (.ofNat p.length)) = some (.int .i64 (.ofNat (7 * p.length))) := by
       rw [mF, show Int.ofNat 7 * Int.ofNat p.length = Int.ofNat (7 * p.length) from rfl, wrap_i64 (by omega)]
     have hacc64 : acc < 2 ^ 64 := Nat.lt_of_lt_of_le hacc (Nat.pow_le_pow_right (by omega) (by omega))
     have hmod : b % 128 * 2 ^ (7 * p.length) % 18446744073709551616 < 2 ^ 64 := Nat.mod_lt _ (by decide)
     have hor : acc ||| (b % 128 * 2 ^ (7 * p.length) % 18446744073709551616) < 18446744073709551616 := Nat.or_lt_two_pow (n := 64) hacc64 hmod; have orv : aEv (.int .u64 (.ofNat acc)) (.int .u64 (.ofNat (b % 128 * 2 ^ (7 * p.length) % 18446744073709551616))) = some (.int .u64 (.ofNat (acc ||| (b % 128 * 2 ^ (7 * p.length) % 18446744073709551616)))) := by
       rw [aIl .u64 _ _ hacc64 hmod, qX hor]
     rw [cP, aA, d, cZ, ix, aA, qO (by omega), aA, aSJ (by omega), aA, mul, aA, aAr _ (by omega), aA, orv, aA, oQ, aA]
     have plus : ∀ c : Nat, c < 128 -> (p.length = 9 -> c <= 1) -> acc ||| (c * 2 ^ (7 * p.length) % 18446744073709551616) = acc + c * 128 ^ p.length := by
       intro c hc h9; have hlt : c * 2 ^ (7 * p.length) < 18446744073709551616 := by
         rcases Nat.lt_or_ge p.length 9 with h | h
         · have h1 : (2 : Nat) ^ (7 * p.length) <= 2 ^ 56 := Nat.pow_le_pow_right (by omega) (by omega)
           have e56 : (2 : Nat) ^ 56 = 72057594037927936 := by decide
           have : c * 2 ^ (7 * p.length) <= 127 * 2 ^ 56 := Nat.mul_le_mul (by omega) h1
           omega
         · have h9' : p.length = 9 := by omega
           have := h9 h9'; rw [h9']; have e63 : (2 : Nat) ^ (7 * 9) = 9223372036854775808 := by decide
           rw [e63]; omega
       rw [Nat.mod_eq_of_lt hlt, aTn, aIO hacc]
     rw [grp]; by_cases h128 : 128 <= b
     · rw [decide_eq_true h128, cZ, lI (by omega), aA]
       by_cases h9 : p.length = 9
       · rw [if_pos (.inr (.inl ⟨h9, by omega⟩))]
         have := ih (p ++ [b]) (acc ||| (b % 128 * 2 ^ (7 * p.length) % 18446744073709551616)) m (by rw [e]; simp) (by intro h; simp at h; omega) (by simp; omega)
         rw [List.length_append] at this; refine Eq.trans this ?_
         congr 2
         cases s with
         | nil => simp [grp]
         | cons c s => rw [grp, if_pos (.inl (by simp; omega))]
       · rw [if_neg (by omega), if_neg (by omega)]
         have e128 : b % 128 = b - 128 := by omega
         have hp1 := plus (b % 128) (by omega) (by omega)
         rw [hp1, e128]; have hbd : acc + (b - 128) * 128 ^ p.length < 2 ^ (7 * (p.length + 1)) := by
           rw [aTn, show 7 * (p.length + 1) = 7 * p.length + 7 from by omega, Nat.pow_add]
           have : (b - 128) * 2 ^ (7 * p.length) <= 127 * 2 ^ (7 * p.length) := Nat.mul_le_mul_right _ (by omega)
           omega
         have := ih (p ++ [b]) (acc + (b - 128) * 128 ^ p.length) m (by rw [e]; simp) (λ _ => by simpa using hbd) (by simp; omega)
         rw [List.length_append] at this; exact this
     · have hb128 : b % 128 = b := by omega
       rw [decide_eq_false h128, bC, fS, aA, hb128]; by_cases hbad : (p.length = 9 /\ 1 < b) \/ (0 < p.length /\ b = 0)
       · have hc : 10 <= p.length \/ (p.length = 9 /\ 1 < b) \/ (0 < p.length /\ b = 0) := .inr hbad; rw [if_pos hc]; by_cases hz : 0 < p.length /\ b = 0
         · simp only [decide_eq_true hz.1, tG, kI, decide_eq_true hz.2, aA, iD, aAK, tF]; rw [cZ]; rfl
         · have h91 : p.length = 9 /\ 1 < b := hbad.resolve_right hz; have hp0 : 0 < p.length := by omega
           have hb0 : ¬ b = 0 := by omega
           simp only [decide_eq_true hp0, tG, kI, decide_eq_false hb0, aA, iD, jX, decide_eq_true h91.1, fS, decide_eq_true h91.2, eW]; rw [cZ]; rfl
       · rw [if_neg (by omega), if_pos (by omega)]
         have hp1 := plus b (by omega) (by omega)
         rw [hp1]; have fin : (some (DV.tup [DV.int .u64 (.ofNat (acc + b * 128 ^ p.length)), DV.int .i64 (.ofNat (p.length + 1))], h) : aV) = some (aLK s0 (some (acc + b * 128 ^ p.length, s)), h) := by
           show _ = some (DV.tup [DV.int .u64 (.ofNat (acc + b * 128 ^ p.length)), DV.int .i64 (.ofNat (s0.length - s.length))], h); rw [show s0.length - s.length = p.length + 1 from by rw [e]; simp; omega]
         by_cases hp0 : 0 < p.length
         · have hb0 : ¬ b = 0 := by omega
           simp only [decide_eq_true hp0, tG, kI, decide_eq_false hb0, aA, iD, jX]; by_cases h9 : p.length = 9
           · have hb1 : ¬ 1 < b := by omega
             simp only [decide_eq_true h9, tG, fS, decide_eq_false hb1, aA, iD, eW]; rw [bC, lI (by omega), aA]; exact fin
           · simp only [decide_eq_false h9, aGE, tF, aA, eW]; rw [bC, lI (by omega), aA]; exact fin
         · have h9 : ¬ p.length = 9 := by omega
           simp only [decide_eq_false hp0, aGE, tF, eW, aA, jX, kI, decide_eq_false h9]; rw [bC, lI (by omega), aA]; exact fin
def aHO (B : bU) : Prop := ∀ (s : Ln) (h : H), aW s = true -> s.length < 140737488355328 -> B [.str s] h = some (aLK s (grp 0 s 0), h)
theorem aJj {E : bF} : aHO (aMt E) := by
 intro s h hs hl; have := aEE (E := E) s hs h s [] 0 (aT - (s.length + 1)) rfl (λ _ => by simp) (by simp)
 rw [show aT - (s.length + 1) + (s.length + 1) = aT from by unfold aT; omega] at this
 show aHr E (.str s) h = _; unfold aHr; rw [cQ, aA, aJ, aA]; exact this
def aBm (st : Option (Ln)) : Int × Option (Ln) := match st with
 | some s => match yR s with
   | some (n, r) => (n, some r)
   | none => (0, none)
 | none => (0, none)
def okSt (st : Option (Ln)) (n : Nat) : Prop := ∀ s, st = some s -> aW s = true /\ s.length <= n
theorem aDh : ∀ (s : Ln) (i acc v : Nat) (r : Ln), grp i s acc = some (v, r) -> ∃ p, s = p ++ r /\ 1 <= p.length
 | [], i, acc, v, r, h => by simp [grp] at h
 | b :: s, i, acc, v, r, h => by
   rw [grp] at h; split at h
   · cases h
   · split at h
     · cases h; exact ⟨[b], rfl, Nat.le_refl _⟩
     · obtain ⟨p, e, _⟩ := aDh s _ _ v r h; exact ⟨b :: p, by rw [e]; rfl, by simp⟩
theorem bEh {s r : Ln} {v : Nat} (hs : aW s = true) (h : grp 0 s 0 = some (v, r)) : v < 18446744073709551616 := by
 obtain ⟨u, h1, h2, h3, _⟩ := aJi 9 0 s r 0 v rfl hs h; have hv : v = u := by simpa using h1
 subst hv
 simpa using h3
def wN (B : bU) : Prop := ∀ (b : Nat) (st : Option (Ln)) (h : H), aB h b (rdV st) -> okSt st 100000 -> ∃ h', B [.ptr b 0] h = some (.int .i64 (aBm st).1, h') /\ aB h' b (rdV (aBm st).2) /\ rT b h h'
theorem aLt {E : bF} (hG : fT E 149 aHO) (hF : fT E 148 aAn) (hT : fT E 117 aDY) : wN (aMx E) := by
 obtain ⟨B1, b1, s1⟩ := hG.call; obtain ⟨B2, b2, s2⟩ := hF.call; obtain ⟨B3, b3, s3⟩ := hT.call; intro b st h hb hok; have fa : ∀ k, aP k (.ptr b 0) = some (.ptr b k) := λ k => by rw [aF, Nat.zero_add]
 show ∃ h', aHE E (.ptr b 0) h = _ /\ _; unfold aHE; rw [fU, aA, bC]; cases st with
 | none =>
   obtain ⟨h', f1, f2, f3⟩ := s2 b none h hb; refine ⟨h', ?_, f2, f3⟩; simp only [bO, aA, fa, hb.read (j := 0) (x := .str []) rfl, b1, s1 [] h rfl (by simp), aZ, grp, aLK, kV, kU, kI, decide_true]
   rw [cZ, b2, f1, aZ]; rfl
 | some s =>
   obtain ⟨hs, hl⟩ := hok s rfl; simp only [bO, aA, fa, hb.read (j := 0) (x := .str s) rfl, b1, s1 s h hs (by omega), aZ]
   cases hg : grp 0 s 0 with
   | none =>
     obtain ⟨h', f1, f2, f3⟩ := s2 b (some s) h hb; have e : aBm (some s) = (0, none) := by simp [aBm, yR, hg]
     rw [e]; refine ⟨h', ?_, f2, f3⟩; simp only [aLK, kV, kU, aA, kI, decide_true]; rw [cZ, b2, f1, aZ]; rfl
   | some x =>
     obtain ⟨v, r⟩ := x; obtain ⟨p, ep, hp⟩ := aDh s 0 0 v r hg; have hlen : s.length - r.length = p.length := by rw [ep]; simp
     obtain ⟨h', f1, f2, f3⟩ := s3 b (some s) (.ofNat p.length) h hb; have et : aBj (some s) (.ofNat p.length) = (p, true, some r) := by
       show (if p.length <= s.length then (s.take p.length, true, some (s.drop p.length)) else _) = _
       rw [if_pos (by rw [ep]; simp), ep, List.take_left, List.drop_left]
     rw [et] at f1 f2; have e : aBm (some s) = (aLg v, some r) := by simp [aBm, yR, hg]
     rw [e]; refine ⟨h', ?_, f2, f3⟩; have d : decide (p.length = 0) = false := by simp; intro hp0; simp [hp0] at hp
     obtain ⟨x, y, z, w, e1, e2, e3, e4, q, e5, e6⟩ := aSK (bEh hs hg); simp only [aLK, kV, kU, aA, kI, hlen, d]; rw [bC, b3, f1, aZ, e1, aA, e2, aA, e3, aA, e4, aA, e5, aA, e6, aA]; rfl
def aSU (st : Option (Ln)) : Nat := if st = some [] then 0 else 3
def tP (B : bU) : Prop := ∀ (b : Nat) (st : Option (Ln)) (h : H), aB h b (rdV st) -> B [.ptr b 0] h = some (.int .i64 (.ofNat (aSU st)), h)
theorem aII {E : bF} : tP (S85 E) := by
 intro b st h hb; have fa : ∀ k, aP k (.ptr b 0) = some (.ptr b k) := λ k => by rw [aF, Nat.zero_add]
 show aPV E (.ptr b 0) h = _; unfold aPV; rw [fU, aA, bC]; cases st with
 | none =>
   simp only [bO, aA, fa, hb.read (j := 1) (x := .bool true) rfl, aAK, tF, iD]; rw [cZ]; rfl
 | some s =>
   simp only [bO, aA, fa, hb.read (j := 1) (x := .bool false) rfl, jX, hb.read (j := 0) (x := .str s) rfl, oO, eW]; cases s with
   | nil => rfl
   | cons c s => rfl
def aAW (B : bU) : Prop := ∀ (s : Ln) (h : H), ∃ h', B [.str s] h = some (.ptr h.size 0, h') /\ aB h' h.size (rdV (some s)) /\ bM h h'
theorem aLC {E : bF} : aAW (S82 E) := by
 intro s h; have hb : dT [(.str []), (.bool false)] [(0, 1, .str s)] = some (.agg [.str s, .bool false]) := rfl; refine ⟨h.push (.blk ⟨2, 2, false, true, Tr.ofL [.str s, .bool false]⟩), ?_, aB.pushed (L := [.str s, .bool false]), bM.push h _⟩; show aPW E (.str s) h = _; unfold aPW; rw [hb, aA, wA]; rfl
def tJ (l : List Int) : Ln := l.flatMap zK
def qD (l : List Int) : List DV := l.map λ n => .int .i64 n
def aRV (b : Nat) : List DV := (List.range 8).map λ i => .ptr b i
def aAm (B : bU) : Prop := ∀ (b : Nat) (h : H), W (B [.ptr b 0] h) λ v h' => v = .slc h.size 0 8 8 false /\ aB h' h.size (aRV b) /\ bM h h' /\ h'.size = h.size + 1
theorem aRI {E : bF} : aAm (S79 E) := by
 intro b h; show W (aPZ E (.ptr b 0) h) _; unfold aPZ
 repeat' (first | with_reducible refine sT ?_ | with_reducible refine sF ?_ | with_reducible refine g1 ?_ | with_reducible refine g2 ?_ | with_reducible refine g3 ?_ | with_reducible refine g4 ?_ | ((with_reducible apply sV); first | exact aB.read (by assumption) (by rfl) | exact aB.readN (by assumption) (Nat.le_of_ble_eq_true rfl) | exact eG (by omega) | exact eH (by omega) | exact gtT (by omega) | exact gtF (by omega) | exact eI (by omega) | exact eJ (by omega) | exact geT (by omega) | exact geF (by omega) | exact dZ (by omega) | exact eK (by omega) | exact eE (by omega) | exact eF (by omega) | exact aD (by omega) | exact bT (by omega) | exact aE (by omega) (by omega) | exact aG (by omega) _ | exact aI _ _ _ _ | exact aJ _ _ _ _ | exact aF _ _ _ | exact rfl) | exact W.ret ⟨rfl, rfl⟩ | with_reducible refine W.ret ?_)
 refine sL (cs := aRV b) rfl rfl λ h1 z1 g1 o1 => ?_
 exact W.ret ⟨rfl, o1, g1, z1⟩
theorem aJm {b i : Nat} (h : i < 8) : (aRV b)[i]? = some (.ptr b i) := by unfold aRV; rw [List.getElem?_map, List.getElem?_range h]; rfl
theorem aJf {b i n c : Nat} {op : Bool} (h : i < n) : cW 1 (.slc b 0 n c op) (.int .i64 (.ofNat i)) = some (.ptr b i) := by
 simp only [cW, nU, dP h, cond_true, aR, Nat.zero_add, Nat.mul_one]
theorem aRJ {l : List Int} {i : Nat} {n : Int} (h : l[i]? = some n) : (qD l)[i]? = some (.int .i64 n) := by unfold qD; rw [List.getElem?_map, h]; rfl
theorem aDu : ∀ l : List Int, (tJ l).length <= l.length * 10
 | [] => Nat.le_refl _
 | n :: l => by
   have h1 := (aJd n).2; have h2 := aDu l; show (zK n ++ tJ l).length <= _; rw [List.length_append, List.length_cons]; omega
theorem aGL : ∀ {l : List Int}, (∀ n ∈ l, oA n) -> aW (tJ l) = true
 | [], _ => rfl
 | n :: l, h => by
   show aW (zK n ++ tJ l) = true; exact eT (aZp (h n (by simp))) (aGL λ m hm => h m (by simp [hm]))
theorem aRZ {l : List Int} {i : Nat} {n : Int} (h : l[i]? = some n) : tJ (l.take (i + 1)) = tJ (l.take i) ++ zK n := by
 rw [List.take_add_one, h]; show tJ (l.take i ++ [n]) = _; unfold tJ; rw [List.flatMap_append]; simp
theorem aIW {E : bF} (hI : fT E 80 aAf) (hD : fT E 81 wM) {w bs cb : Nat} {l : List Int} (h8 : l.length = 8) (hl : ∀ n ∈ l, oA n) (h1 : cb ≠ w) (h2 : bs ≠ w) :
   ∀ (k i m : Nat) (h : H), i + k = 8 -> aB h cb (qD l) -> aB h bs (aRV cb) -> aDX h w (tJ (l.take i)) ->
   W (aFP E (.ptr w 0) (.slc bs 0 8 8 false) (.int .i64 (.ofNat 8)) (m + (k + 1)) (.int .i64 (.ofNat i)) h) λ v h' => v = .tup [.str (tJ l), .int .i64 (.ofNat 0)] /\ nL (λ c => c = w) h h' := by
 obtain ⟨BI, bI, sI⟩ := hI.call; obtain ⟨BD, bD, sD⟩ := hD.call; intro k
 induction k with
 | zero =>
   intro i m h hk oc os ow; have hi : i = 8 := by omega
   subst hi; rw [<- h8, List.take_length] at ow; have := sD w (tJ l) h ow (aGL hl); show W (aKP E _ _ _ (aFP E _ _ _ m) _ h) _; unfold aKP aQo
   repeat' (first | with_reducible refine sT ?_ | with_reducible refine sF ?_ | with_reducible refine g1 ?_ | with_reducible refine g2 ?_ | with_reducible refine g3 ?_ | with_reducible refine g4 ?_ | refine sC bD this ?_ | ((with_reducible apply sV); first | exact aB.read (by assumption) (by rfl) | exact aB.readN (by assumption) (Nat.le_of_ble_eq_true rfl) | exact eG (by omega) | exact eH (by omega) | exact gtT (by omega) | exact gtF (by omega) | exact eI (by omega) | exact eJ (by omega) | exact geT (by omega) | exact geF (by omega) | exact dZ (by omega) | exact eK (by omega) | exact eE (by omega) | exact eF (by omega) | exact aD (by omega) | exact bT (by omega) | exact aE (by omega) (by omega) | exact aG (by omega) _ | exact aI _ _ _ _ | exact aJ _ _ _ _ | exact aF _ _ _ | exact rfl) | exact W.ret ⟨rfl, rfl⟩ | with_reducible refine W.ret ?_)
   exact ⟨rfl, nL.refl _ _⟩
 | succ k ih =>
   intro i m h hk oc os ow; obtain ⟨n, hn⟩ : ∃ n, l[i]? = some n := ⟨l[i]'(by omega), by rw [List.getElem?_eq_getElem]⟩
   have hin : oA n := hl n (List.mem_of_getElem? hn); have hlen := aDu (l.take i); rw [List.length_take] at hlen; obtain ⟨h', e1, w1, k1⟩ := sI w _ n h ow hin (by omega)
   show W (aKP E _ _ _ (aFP E _ _ _ (m + (k + 1))) _ h) _; unfold aKP
   repeat' (first | with_reducible refine sT ?_ | with_reducible refine sF ?_ | with_reducible refine g1 ?_ | with_reducible refine g2 ?_ | with_reducible refine g3 ?_ | with_reducible refine g4 ?_ | refine sC bI e1 ?_ | ((with_reducible apply sV); first | exact aJf (by omega) | exact os.read (aJm (by omega)) | exact oc.read (aRJ hn) | exact aB.read (by assumption) (by rfl) | exact aB.readN (by assumption) (Nat.le_of_ble_eq_true rfl) | exact eG (by omega) | exact eH (by omega) | exact gtT (by omega) | exact gtF (by omega) | exact eI (by omega) | exact eJ (by omega) | exact geT (by omega) | exact geF (by omega) | exact dZ (by omega) | exact eK (by omega) | exact eE (by omega) | exact eF (by omega) | exact aD (by omega) | exact bT (by omega) | exact aE (by omega) (by omega) | exact aG (by omega) _ | exact aI _ _ _ _ | exact aJ _ _ _ _ | exact aF _ _ _ | exact rfl) | exact W.ret ⟨rfl, rfl⟩ | with_reducible refine W.ret ?_)
   refine W.mono (ih (i + 1) m h' (by omega) (oc.off k1 h1) (os.off k1 h2) (by rw [aRZ hn]; exact w1)) ?_
   rintro v h2 ⟨rfl, k2⟩
   exact ⟨rfl, k1.trans k2⟩
def rO (c q k : Nat) (a b x y z : Int) : List Int := [.ofNat c, .ofNat q, .ofNat k, a, b, x, y, z]
def aFa (c q k : Nat) (a b x y z : Int) : Prop := c < 16 /\ q < 2147483648 /\ 1 <= k /\ k <= 9 /\ oA a /\ oA b /\ oA x /\ oA y /\ oA z
theorem aFa.all {c q k : Nat} {a b x y z : Int} (h : aFa c q k a b x y z) : ∀ n ∈ rO c q k a b x y z, oA n := by
 obtain ⟨h1, h2, h3, h4, h5, h6, h7, h8, h9⟩ := h; intro n hn; simp only [rO, List.mem_cons, List.not_mem_nil, or_false] at hn; rcases hn with rfl | rfl | rfl | rfl | rfl | rfl | rfl | rfl
 · exact uW (by omega)
 · exact uW (by omega)
 · exact uW (by omega)
 all_goals assumption
def vN (B : bU) : Prop := ∀ (c q k : Nat) (a b x y z : Int) (h : H), aFa c q k a b x y z -> W (B [.agg (qD (rO c q k a b x y z))] h) λ v h' => v = .tup [.str (tJ (rO c q k a b x y z)), .int .i64 (.ofNat 0)] /\ bM h h'
theorem aRB {E : bF} (hN : fT E 78 aEc) (hS : fT E 79 aAm) (hI : fT E 80 aAf) (hD : fT E 81 wM) : vN (S53 E) := by
 obtain ⟨BN, bN, sN'⟩ := hN.call; obtain ⟨BS, bS, sS'⟩ := hS.call; intro c q k a b x y z h ok; have hal := ok.all; obtain ⟨h1, h2, h3, h4, _⟩ := ok; show W (aQp E (.agg (qD (rO c q k a b x y z))) h) _; unfold aQp; refine sX λ m1 z1 q1 o1 => ?_
 have ob : aB m1 h.size [.int .i64 (.ofNat c), .int .i64 (.ofNat q), .int .i64 (.ofNat k), .int .i64 a, .int .i64 b, .int .i64 x, .int .i64 y, .int .i64 z] := o1
 repeat' (first | with_reducible refine sT ?_ | with_reducible refine sF ?_ | with_reducible refine g1 ?_ | with_reducible refine g2 ?_ | with_reducible refine g3 ?_ | with_reducible refine g4 ?_ | ((with_reducible apply sV); first | exact aB.read (by assumption) (by rfl) | exact aB.readN (by assumption) (Nat.le_of_ble_eq_true rfl) | exact eG (by omega) | exact eH (by omega) | exact gtT (by omega) | exact gtF (by omega) | exact eI (by omega) | exact eJ (by omega) | exact geT (by omega) | exact geF (by omega) | exact dZ (by omega) | exact eK (by omega) | exact eE (by omega) | exact eF (by omega) | exact aD (by omega) | exact bT (by omega) | exact aE (by omega) (by omega) | exact aG (by omega) _ | exact aI _ _ _ _ | exact aJ _ _ _ _ | exact aF _ _ _ | exact rfl) | exact W.ret ⟨rfl, rfl⟩ | with_reducible refine W.ret ?_)
 obtain ⟨m2, e2, w2, q2⟩ := sN' m1; refine sC bN e2 ?_; refine sN bS (sS' h.size m2) ?_
 rintro _ m3 ⟨rfl, os, q3, z3⟩
 repeat' (first | with_reducible refine sT ?_ | with_reducible refine sF ?_ | with_reducible refine g1 ?_ | with_reducible refine g2 ?_ | with_reducible refine g3 ?_ | with_reducible refine g4 ?_ | ((with_reducible apply sV); first | exact aB.read (by assumption) (by rfl) | exact aB.readN (by assumption) (Nat.le_of_ble_eq_true rfl) | exact eG (by omega) | exact eH (by omega) | exact gtT (by omega) | exact gtF (by omega) | exact eI (by omega) | exact eJ (by omega) | exact geT (by omega) | exact geF (by omega) | exact dZ (by omega) | exact eK (by omega) | exact eE (by omega) | exact eF (by omega) | exact aD (by omega) | exact bT (by omega) | exact aE (by omega) (by omega) | exact aG (by omega) _ | exact aI _ _ _ _ | exact aJ _ _ _ _ | exact aF _ _ _ | exact rfl) | exact W.ret ⟨rfl, rfl⟩ | with_reducible refine W.ret ?_)
 have s2 := q2.size; have hw := w2; obtain ⟨wv, ww1, ww2⟩ := hw; have lw := ww1.1; have := aIW hI hD (w := m1.size) (bs := m2.size) (cb := h.size) rfl hal (by omega) (by omega) 8 0 (aT - 9) m3 rfl ((o1.grown q2).grown q3) os (aYL w2 (gk q3 (Nat.le_refl _)))
 rw [show aT - 9 + (8 + 1) = aT from by unfold aT; omega] at this
 refine W.mono this ?_
 rintro v m4 ⟨rfl, k4⟩
 exact ⟨rfl, q1.trans (offN (q2.trans q3) k4 λ c hc e => by omega)⟩
def aFo (l : List Int) (i : Nat) : List DV := qD (l.take i) ++ List.replicate (8 - i) (.int .i64 (.ofNat 0))
theorem aGG {l : List Int} {i : Nat} (h8 : l.length = 8) (hi : i <= 8) : (aFo l i).length = 8 := by
 unfold aFo qD; rw [List.length_append, List.length_map, List.length_take, List.length_replicate]; omega
theorem aRX {l : List Int} {i : Nat} {n : Int} (h8 : l.length = 8) (h : l[i]? = some n) : (aFo l i).set i (.int .i64 n) = aFo l (i + 1) := by
 have hi : i < 8 := by have := (List.getElem?_eq_some_iff.1 h).1; omega
 unfold aFo; have e : (qD (l.take i)).length = i := by unfold qD; rw [List.length_map, List.length_take]; omega
 rw [List.set_append, if_neg (by omega), e, Nat.sub_self, show 8 - i = (8 - (i + 1)) + 1 from by omega, List.replicate_succ, List.set_cons_zero, List.take_add_one, h]
 unfold qD; simp
theorem aRl {n : Int} (h : oA n) (r : Ln) : aBm (some (zK n ++ r)) = (n, some r) := by
 unfold aBm; simp only [aGj h r]
theorem aUE {l : List Int} {i : Nat} {n : Int} (h : l[i]? = some n) : l.drop i = n :: l.drop (i + 1) := by
 obtain ⟨h1, h2⟩ := List.getElem?_eq_some_iff.1 h; rw [<- h2]; exact List.drop_eq_getElem_cons h1
def aEd (B : bU) : Prop := ∀ (c q k : Nat) (a b x y z : Int) (h : H), aFa c q k a b x y z -> W (B [.str (tJ (rO c q k a b x y z))] h) λ v h' => v = .tup [.agg (qD (rO c q k a b x y z)), .int .i64 (.ofNat 0)] /\ bM h h'
theorem aIX {E : bF} (hR : fT E 118 wN) (hE : fT E 53 vN) (hD : fT E 85 tP) {n0 rb bs cb xb : Nat} {c q k0 : Nat} {a b x y z : Int} (ok : aFa c q k0 a b x y z) (h1 : cb ≠ rb) (h2 : bs ≠ rb) (h3 : bs ≠ cb) (h4 : xb ≠ rb) (h5 : xb ≠ cb) (h6 : bs ≠ xb) (n1 : n0 <= rb) (n2 : n0 <= cb) (n3 : n0 <= xb) (n4 : n0 <= bs) :
   ∀ (k i m : Nat) (h : H), i + k = 8 -> aB h cb (aFo (rO c q k0 a b x y z) i) -> aB h bs (aRV cb) -> aB h rb (rdV (some (tJ ((rO c q k0 a b x y z).drop i)))) -> aB h xb (List.replicate 8 (.int .i64 (.ofNat 0))) ->
   W (aFL E (.ptr xb 0) (.ptr rb 0) (.ptr cb 0) (.slc bs 0 8 8 false) (.int .i64 (.ofNat 8)) (m + (k + 1)) (.int .i64 (.ofNat i)) h) λ v h' => v = .tup [.agg (qD (rO c q k0 a b x y z)), .int .i64 (.ofNat 0)] /\ dJ n0 h h' := by
 obtain ⟨BR, bR, sR⟩ := hR.call; obtain ⟨BE, bE, sE⟩ := hE.call; obtain ⟨BD, bD, sD⟩ := hD.call; have h8 : (rO c q k0 a b x y z).length = 8 := rfl; have hal := ok.all; intro k
 induction k with
 | zero =>
   intro i m h hk oc os or' ox; have hi : i = 8 := by omega
   subst hi; have oc : aB h cb (qD (rO c q k0 a b x y z)) := oc; have or' : aB h rb (rdV (some [])) := or'; show W (aKK E _ _ _ _ _ (aFL E _ _ _ _ _ m) _ h) _; unfold aKK aPT
   repeat' (first | with_reducible refine sT ?_ | with_reducible refine sF ?_ | with_reducible refine g1 ?_ | with_reducible refine g2 ?_ | with_reducible refine g3 ?_ | with_reducible refine g4 ?_ | ((with_reducible apply sV); first | exact oc.all rfl | exact aB.read (by assumption) (by rfl) | exact aB.readN (by assumption) (Nat.le_of_ble_eq_true rfl) | exact eG (by omega) | exact eH (by omega) | exact gtT (by omega) | exact gtF (by omega) | exact eI (by omega) | exact eJ (by omega) | exact geT (by omega) | exact geF (by omega) | exact dZ (by omega) | exact eK (by omega) | exact eE (by omega) | exact eF (by omega) | exact aD (by omega) | exact bT (by omega) | exact aE (by omega) (by omega) | exact aG (by omega) _ | exact aI _ _ _ _ | exact aJ _ _ _ _ | exact aF _ _ _ | exact rfl) | exact W.ret ⟨rfl, rfl⟩ | with_reducible refine W.ret ?_)
   refine sN bE (sE c q k0 a b x y z h ok) ?_
   rintro _ m3 ⟨rfl, q3⟩
   have or3 := or'.grown q3; have := sD rb (some []) m3 or3; rw [show aSU (some []) = 0 from rfl] at this
   have oc3 := oc.grown q3; have ox3 := ox.grown q3; have lb : xb < h.size := ox.1; have lr : rb < h.size := or'.1; have lc : cb < h.size := oc.1; have ls : bs < h.size := os.1
   repeat' (first | with_reducible refine sT ?_ | with_reducible refine sF ?_ | with_reducible refine g1 ?_ | with_reducible refine g2 ?_ | with_reducible refine g3 ?_ | with_reducible refine g4 ?_ | refine sC bD this ?_ | ((with_reducible apply sV); first | exact oc3.all rfl | exact aB.read (by assumption) (by rfl) | exact aB.readN (by assumption) (Nat.le_of_ble_eq_true rfl) | exact eG (by omega) | exact eH (by omega) | exact gtT (by omega) | exact gtF (by omega) | exact eI (by omega) | exact eJ (by omega) | exact geT (by omega) | exact geF (by omega) | exact dZ (by omega) | exact eK (by omega) | exact eE (by omega) | exact eF (by omega) | exact aD (by omega) | exact bT (by omega) | exact aE (by omega) (by omega) | exact aG (by omega) _ | exact aI _ _ _ _ | exact aJ _ _ _ _ | exact aF _ _ _ | exact rfl) | exact W.ret ⟨rfl, rfl⟩ | with_reducible refine W.ret ?_)
   refine sS ox3 rfl rfl rfl λ m4 o4 k4 => ?_
   repeat' (first | with_reducible refine sT ?_ | with_reducible refine sF ?_ | with_reducible refine g1 ?_ | with_reducible refine g2 ?_ | with_reducible refine g3 ?_ | with_reducible refine g4 ?_ | ((with_reducible apply sV); first | exact o4.all rfl | exact aB.read (by assumption) (by rfl) | exact aB.readN (by assumption) (Nat.le_of_ble_eq_true rfl) | exact eG (by omega) | exact eH (by omega) | exact gtT (by omega) | exact gtF (by omega) | exact eI (by omega) | exact eJ (by omega) | exact geT (by omega) | exact geF (by omega) | exact dZ (by omega) | exact eK (by omega) | exact eE (by omega) | exact eF (by omega) | exact aD (by omega) | exact bT (by omega) | exact aE (by omega) (by omega) | exact aG (by omega) _ | exact aI _ _ _ _ | exact aJ _ _ _ _ | exact aF _ _ _ | exact rfl) | exact W.ret ⟨rfl, rfl⟩ | with_reducible refine W.ret ?_)
   have z3 := q3.size; exact ⟨rfl, (gk q3 (by omega)).trans (k4.keeps n3)⟩
 | succ k ih =>
   intro i m h hk oc os or' ox; obtain ⟨n, hn⟩ : ∃ n, (rO c q k0 a b x y z)[i]? = some n := ⟨_, List.getElem?_eq_getElem (by omega)⟩
   have hin : oA n := hal n (List.mem_of_getElem? hn); have okd : aW (tJ ((rO c q k0 a b x y z).drop i)) = true := aGL λ m hm => hal m (List.mem_of_mem_drop hm)
   have hle := aDu ((rO c q k0 a b x y z).drop i); rw [List.length_drop, h8] at hle; obtain ⟨h', e1, w1, k1⟩ := sR rb _ h or' (λ s hs => by cases hs; exact ⟨okd, by omega⟩)
   rw [aUE hn] at e1 w1; rw [show tJ (n :: (rO c q k0 a b x y z).drop (i + 1)) = zK n ++ tJ ((rO c q k0 a b x y z).drop (i + 1)) from rfl, aRl hin] at e1 w1
   show W (aKK E _ _ _ _ _ (aFL E _ _ _ _ _ (m + (k + 1))) _ h) _; unfold aKK
   repeat' (first | with_reducible refine sT ?_ | with_reducible refine sF ?_ | with_reducible refine g1 ?_ | with_reducible refine g2 ?_ | with_reducible refine g3 ?_ | with_reducible refine g4 ?_ | refine sC bR e1 ?_ | ((with_reducible apply sV); first | exact aJf (by omega) | exact os.read (aJm (by omega)) | exact aB.read (by assumption) (by rfl) | exact aB.readN (by assumption) (Nat.le_of_ble_eq_true rfl) | exact eG (by omega) | exact eH (by omega) | exact gtT (by omega) | exact gtF (by omega) | exact eI (by omega) | exact eJ (by omega) | exact geT (by omega) | exact geF (by omega) | exact dZ (by omega) | exact eK (by omega) | exact eE (by omega) | exact eF (by omega) | exact aD (by omega) | exact bT (by omega) | exact aE (by omega) (by omega) | exact aG (by omega) _ | exact aI _ _ _ _ | exact aJ _ _ _ _ | exact aF _ _ _ | exact rfl) | exact W.ret ⟨rfl, rfl⟩ | with_reducible refine W.ret ?_)
   refine sS1 (j := i) (oc.but h1 k1) (by rw [aGG h8 (by omega)]; omega) rfl λ m2 o2 k2 => ?_
   rw [aRX h8 hn] at o2
   repeat' (first | with_reducible refine sT ?_ | with_reducible refine sF ?_ | with_reducible refine g1 ?_ | with_reducible refine g2 ?_ | with_reducible refine g3 ?_ | with_reducible refine g4 ?_ | ((with_reducible apply sV); first | exact aB.read (by assumption) (by rfl) | exact aB.readN (by assumption) (Nat.le_of_ble_eq_true rfl) | exact eG (by omega) | exact eH (by omega) | exact gtT (by omega) | exact gtF (by omega) | exact eI (by omega) | exact eJ (by omega) | exact geT (by omega) | exact geF (by omega) | exact dZ (by omega) | exact eK (by omega) | exact eE (by omega) | exact eF (by omega) | exact aD (by omega) | exact bT (by omega) | exact aE (by omega) (by omega) | exact aG (by omega) _ | exact aI _ _ _ _ | exact aJ _ _ _ _ | exact aF _ _ _ | exact rfl) | exact W.ret ⟨rfl, rfl⟩ | with_reducible refine W.ret ?_)
   refine W.mono (ih (i + 1) m m2 (by omega) o2 ((os.but h2 k1).but h3 k2) (w1.but (Ne.symm h1) k2) ((ox.but h4 k1).but h5 k2)) ?_
   rintro v m3 ⟨rfl, k3⟩
   exact ⟨rfl, (k1.keeps n1).trans ((k2.keeps n2).trans k3)⟩
theorem aRC {E : bF} (hN : fT E 82 aAW) (hS : fT E 79 aAm) (hR : fT E 118 wN) (hE : fT E 53 vN) (hD : fT E 85 tP) : aEd (S87 E) := by
 obtain ⟨BN, bN, sN'⟩ := hN.call; obtain ⟨BS, bS, sS'⟩ := hS.call; intro c q k a b x y z h ok; show W (aPU E (.str _) h) _; unfold aPU; refine sA rfl λ m1 z1 q1 o1 => ?_
 obtain ⟨m2, e2, w2, q2⟩ := sN' (tJ (rO c q k a b x y z)) m1; refine sC bN e2 ?_
 repeat' (first | with_reducible refine sT ?_ | with_reducible refine sF ?_ | with_reducible refine g1 ?_ | with_reducible refine g2 ?_ | with_reducible refine g3 ?_ | with_reducible refine g4 ?_ | ((with_reducible apply sV); first | exact aB.read (by assumption) (by rfl) | exact aB.readN (by assumption) (Nat.le_of_ble_eq_true rfl) | exact eG (by omega) | exact eH (by omega) | exact gtT (by omega) | exact gtF (by omega) | exact eI (by omega) | exact eJ (by omega) | exact geT (by omega) | exact geF (by omega) | exact dZ (by omega) | exact eK (by omega) | exact eE (by omega) | exact eF (by omega) | exact aD (by omega) | exact bT (by omega) | exact aE (by omega) (by omega) | exact aG (by omega) _ | exact aI _ _ _ _ | exact aJ _ _ _ _ | exact aF _ _ _ | exact rfl) | exact W.ret ⟨rfl, rfl⟩ | with_reducible refine W.ret ?_)
 refine sA rfl λ m3 z3 q3 o3 => ?_
 refine sS o3 rfl rfl rfl λ m4 o4 k4 => ?_
 refine sN bS (sS' m2.size m4) ?_
 rintro _ m5 ⟨rfl, os, q5, z5⟩
 repeat' (first | with_reducible refine sT ?_ | with_reducible refine sF ?_ | with_reducible refine g1 ?_ | with_reducible refine g2 ?_ | with_reducible refine g3 ?_ | with_reducible refine g4 ?_ | ((with_reducible apply sV); first | exact aB.read (by assumption) (by rfl) | exact aB.readN (by assumption) (Nat.le_of_ble_eq_true rfl) | exact eG (by omega) | exact eH (by omega) | exact gtT (by omega) | exact gtF (by omega) | exact eI (by omega) | exact eJ (by omega) | exact geT (by omega) | exact geF (by omega) | exact dZ (by omega) | exact eK (by omega) | exact eE (by omega) | exact eF (by omega) | exact aD (by omega) | exact bT (by omega) | exact aE (by omega) (by omega) | exact aG (by omega) _ | exact aI _ _ _ _ | exact aJ _ _ _ _ | exact aF _ _ _ | exact rfl) | exact W.ret ⟨rfl, rfl⟩ | with_reducible refine W.ret ?_)
 have s2 := q2.size; have s4 := k4.size; have lw : m1.size < m2.size := w2.1; have := aIX hR hE hD (n0 := h.size) (rb := m1.size) (bs := m4.size) (cb := m2.size) (xb := h.size) ok (by omega) (by omega) (by omega) (by omega) (by omega) (by omega) (by omega) (by omega) (by omega) (by omega) 8 0 (aT - 9) m5 rfl (o4.grown q5) os
   (((w2.grown q3).but (by omega) k4).grown q5) ((((o1.grown q2).grown q3).but (by omega) k4).grown q5)
 rw [show aT - 9 + (8 + 1) = aT from by unfold aT; omega] at this
 refine W.mono this ?_
 rintro v m6 ⟨rfl, k6⟩
 refine ⟨rfl, dJ.grown ?_⟩; exact (gk q1 (Nat.le_refl _)).trans ((gk q2 (by omega)).trans ((gk q3 (by omega)).trans ((k4.keeps (by omega)).trans ((gk q5 (by omega)).trans k6))))
end Go.Proofs.YthpciaidbgjoeaaGreat
