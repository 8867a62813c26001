/- Specs. No condition beyond the theorems' own. -/
import Derived.Test.YthpciaidbgjoeaaGreatRl
set_option linter.unusedVariables false
set_option linter.unusedSimpArgs false
namespace Go.Proofs.YthpciaidbgjoeaaGreat
open Go.DI
def kT (E : aX) (f : Nat) (S : bB -> Prop) : Prop := ∃ B, E f = some B /\ S B
theorem kT.call {E : aX} {f : Nat} {S : bB -> Prop} (h : kT E f S) : ∃ B, (∀ args m, aB E f args m = B args m) /\ S B := by
 obtain ⟨B, e, s⟩ := h; exact ⟨B, λ args m => cF e args m, s⟩
def W (o : Option (DV × H)) (Q : DV -> H -> Prop) : Prop := ∃ v h, o = some (v, h) /\ Q v h
theorem gk {h h' : H} {n : Nat} (g : bX h h') (hn : n <= h.size) : dQ n h h' := ⟨g.size, λ c hc => g.get c (Nat.lt_of_lt_of_le hc hn)⟩
theorem offN {h a b : H} {F : Nat -> Prop} (g : bX h a) (k : sG F a b) (hF : ∀ c, c < h.size -> ¬ F c) : bX h b :=
 ⟨Nat.le_trans g.size k.size, λ c hc => by rw [k.get c (Nat.lt_of_lt_of_le hc g.size) (hF c hc)]; exact g.get c hc⟩
section
variable {o : Option (DV × H)} {Q Q' : DV -> H -> Prop} {f : Option DV} {x v : DV} {h h' : H} {k : DV -> Option (DV × H)} {kk : DV -> H -> Option (DV × H)} {a b : Option (DV × H)}
theorem W.ret (q : Q v h) : W (some (v, h)) Q := ⟨v, h, rfl, q⟩
theorem W.mono (w : W o Q') (q : ∀ v h, Q' v h -> Q v h) : W o Q := by
 obtain ⟨v, h, e, p⟩ := w; exact ⟨v, h, e, q v h p⟩
theorem sV (e : f = some x) (r : W (k x) Q) : W (vK f k) Q := by rw [e]; exact r
theorem sW (e : o = some (v, h)) (r : W (kk v h) Q) : W (wK o kk) Q := by rw [e]; exact r
theorem sB (w : W o Q') (r : ∀ v h, Q' v h -> W (kk v h) Q) : W (wK o kk) Q := by
 obtain ⟨v, h, e, p⟩ := w; rw [e]; exact r v h p
theorem sT (r : W a Q) : W (bK (.bool true) a b) Q := r
theorem sF (r : W b Q) : W (bK (.bool false) a b) Q := r
theorem sN {E : aX} {g : Nat} {args : List DV} {B : bB} (b : ∀ args m, aB E g args m = B args m) (w : W (B args h) Q') (r : ∀ v h, Q' v h -> W (kk v h) Q) : W (wK (aB E g args h) kk) Q := by rw [b]; exact sB w r
theorem sC {E : aX} {g : Nat} {args : List DV} {B : bB} (b : ∀ args m, aB E g args m = B args m) (e : B args h = some (v, h')) (r : W (kk v h') Q) : W (wK (aB E g args h) kk) Q := by rw [b, e]; exact r
theorem sX {cs : List DV} (r : ∀ h1, h1.size = h.size + 1 -> bX h h1 -> aD h1 h.size cs -> W (kk (.ptr h.size 0) h1) Q) : W (cL (.agg cs) h kk) Q := by
 obtain ⟨h1, e, g, o⟩ := kG h cs.length cs.length cs rfl; rw [nbx e rfl]; exact r h1 (by rw [e]; exact H.size_push _ _) g o
theorem sA {n es : Nat} {L : List DV} (hn : n = L.length) (r : ∀ h1, h1.size = h.size + 1 -> bX h h1 -> aD h1 h.size L -> W (kk (.ptr h.size 0) h1) Q) : W (fC n es (.list L) h kk) Q := by
 obtain ⟨h1, e, g, o⟩ := kG h n es L hn; rw [aGV, <- e]; exact r h1 (by rw [e]; exact H.size_push _ _) g o
theorem sS {b n : Nat} {L cs : List DV} (o : aD h b L) (hL : L.length = n) (hn : cs.length = n) (hv : cs.all DV.one = true) (r : ∀ h1, aD h1 b cs -> yR b h h1 -> W (kk (.tup []) h1) Q) : W (wK (cQ n (.ptr b 0) (.agg cs) h) kk) Q := by
 obtain ⟨h1, e, p, q⟩ := o.setAll hL hn hv; rw [e]; exact r h1 p q
theorem sS1 {b j : Nat} {L : List DV} {v : DV} (o : aD h b L) (hj : j < L.length) (hv : v.one = true) (r : ∀ h1, aD h1 b (L.set j v) -> yR b h h1 -> W (kk (.tup []) h1) Q) : W (wK (cQ 1 (.ptr b j) v h) kk) Q := by
 obtain ⟨h1, e, p, q⟩ := o.set hv hj; rw [e]; exact r h1 p q
theorem sL {n es : Nat} {z cs : List DV} {ps : List (Nat × Nat × DV)} (hf : eM (gI z n) ps = some cs) (hc : cs.length = n * es) (r : ∀ h1, h1.size = h.size + 1 -> bX h h1 -> aD h1 h.size cs -> W (kk (.slc h.size 0 n n false) h1) Q) : W (dB n es z ps h kk) Q := by
 obtain ⟨h1, e, g, o⟩ := kG h (n * es) es cs hc.symm; simp only [dB, hf, Option.bind_some, H.pushK_eq]; rw [<- e]; exact r h1 (by rw [e]; exact H.size_push _ _) g o
variable {op : (DV -> H -> Option (DV × H)) -> Option (DV × H)}
theorem g1 (r : W (op kk) Q) : W (aP (.bool false) false op h kk) Q := r
theorem g2 (r : W (op kk) Q) : W (aP (.bool true) true op h kk) Q := r
theorem g3 (r : W (kk (.tup []) h) Q) : W (aP (.bool true) false op h kk) Q := r
theorem g4 (r : W (kk (.tup []) h) Q) : W (aP (.bool false) true op h kk) Q := r
end
section
variable {k : IntKind} {a b : Nat}
theorem fZ (h : a < b) : bF (.int k (.ofNat a)) (.int k (.ofNat b)) = some (.bool true) := by rw [iP, decide_eq_true h]
theorem gE (h : b <= a) : bF (.int k (.ofNat a)) (.int k (.ofNat b)) = some (.bool false) := by rw [iP, decide_eq_false (by omega)]
theorem gF (h : b < a) : rT (.int k (.ofNat a)) (.int k (.ofNat b)) = some (.bool false) := by rw [aLT, decide_eq_false (by omega)]
theorem gG (h : a = b) : bV (.int k (.ofNat a)) (.int k (.ofNat b)) = some (.bool true) := by rw [jN, h]; simp
theorem gH (h : a ≠ b) : bV (.int k (.ofNat a)) (.int k (.ofNat b)) = some (.bool false) := by rw [jN]; simp; omega
theorem fS (h : a ≠ b) : cW (.int k (.ofNat a)) (.int k (.ofNat b)) = some (.bool true) := by rw [nO]; simp; omega
theorem fY (h : a = b) : cW (.int k (.ofNat a)) (.int k (.ofNat b)) = some (.bool false) := by rw [nO, h]; simp
theorem cS (h : a * b < 9223372036854775808) : mR (.int .i64 (.ofNat a)) (.int .i64 (.ofNat b)) = some (.int .i64 (.ofNat (a * b))) := by rw [vQ, show (Int.ofNat a * Int.ofNat b) = .ofNat (a * b) from rfl, wrap_i64 h]
end
def aGB (u : Nat) : Int := if u % 2 = 0 then .ofNat (u / 2) else .negSucc (u / 2)
theorem aUt (n : Int) : aGB (zz n) = n := by
 cases n with
 | ofNat a =>
   show aGB (2 * a) = _; unfold aGB; rw [if_pos (by omega), show 2 * a / 2 = a from by omega]
 | negSucc a =>
   show aGB (2 * a + 1) = _; unfold aGB; rw [if_neg (by omega), show (2 * a + 1) / 2 = a from by omega]
theorem aNc {n : Int} (h1 : -9223372036854775808 <= n) (h2 : n < 9223372036854775808) : zz n < 18446744073709551616 := by
 cases n with
 | ofNat a => show 2 * a < _; simp only [Int.ofNat_eq_natCast] at h2; omega
 | negSucc a => show 2 * a + 1 < _; omega
def pH : Nat -> Nat -> Ln
 | 0, u => [u]
 | k + 1, u => if u < 128 then [u] else (u % 128 + 128) :: pH k (u / 128)
def grp : Nat -> Ln -> Nat -> Option (Nat × Ln)
 | _, [], _ => none
 | i, b :: s, acc => if 10 <= i \/ (i = 9 /\ 1 < b) \/ (0 < i /\ b = 0) then none else
     if b < 128 then some (acc + b * 128 ^ i, s) else grp (i + 1) s (acc + (b - 128) * 128 ^ i)
theorem aIL : ∀ (k u : Nat), u < 2 ^ (7 * k + 1) -> bO (pH k u) = true
 | 0, u, h => by simp only [pH, bO, Bool.and_true, Nat.blt_eq]; simp at h; omega
 | k + 1, u, h => by
   rw [pH]; split
   · rename_i h1; simp only [bO, Bool.and_true, Nat.blt_eq]; omega
   · simp only [bO, Bool.and_eq_true, Nat.blt_eq]; refine ⟨by omega, aIL k (u / 128) ?_⟩
     have : (2 : Nat) ^ (7 * (k + 1) + 1) = 128 * 2 ^ (7 * k + 1) := by
       rw [show 7 * (k + 1) + 1 = 7 + (7 * k + 1) from by omega, Nat.pow_add]
     rw [this] at h; exact Nat.div_lt_of_lt_mul h
theorem aEr : ∀ (k u : Nat), 1 <= (pH k u).length /\ (pH k u).length <= k + 1
 | 0, u => by simp [pH]
 | k + 1, u => by
   rw [pH]; split
   · simp
   · have := aEr k (u / 128); simp only [List.length_cons]; omega
theorem aBM (i : Nat) : 128 ^ (i + 1) = 128 * 128 ^ i := by rw [Nat.pow_succ, Nat.mul_comm]
theorem aFb (r : Ln) : ∀ (k i u acc : Nat), i + k = 9 -> u < 2 ^ (7 * k + 1) -> (0 < i -> 0 < u) -> grp i (pH k u ++ r) acc = some (acc + u * 128 ^ i, r)
 | 0, i, u, acc, hi, hu, hp => by
   have h9 : i = 9 := by omega
   subst h9; simp at hu; have := hp (by omega)
   have hu1 : u = 1 := by omega
   subst hu1; rw [pH, List.cons_append, grp, if_neg (by omega), if_pos (by omega)]; rfl
 | k + 1, i, u, acc, hi, hu, hp => by
   rw [pH]; by_cases h : u < 128
   · rw [if_pos h, List.cons_append, grp, if_neg (by
       rintro (h1 | h1 | h1)
       · omega
       · omega
       · have := hp h1.1; omega), if_pos h]; rfl
   · rw [if_neg h, List.cons_append, grp, if_neg (by omega), if_neg (by omega)]
     have h2 : (2 : Nat) ^ (7 * (k + 1) + 1) = 128 * 2 ^ (7 * k + 1) := by
       rw [show 7 * (k + 1) + 1 = 7 + (7 * k + 1) from by omega, Nat.pow_add]
     rw [h2] at hu; rw [aFb r k (i + 1) (u / 128) _ (by omega) (Nat.div_lt_of_lt_mul hu) (λ _ => by omega), aBM]
     congr 2
     rw [show u % 128 + 128 - 128 = u % 128 from by omega, Nat.add_assoc]
     congr 1
     have e : u / 128 * (128 * 128 ^ i) = 128 * (u / 128) * 128 ^ i := by rw [<- Nat.mul_assoc, Nat.mul_comm (u / 128) 128]
     rw [e, <- Nat.add_mul, Nat.mod_add_div]
theorem aFc : ∀ (k i : Nat) (s r : Ln) (acc v : Nat), i + k = 9 -> bO s = true -> grp i s acc = some (v, r) -> ∃ u, v = acc + u * 128 ^ i /\ s = pH k u ++ r /\ u < 2 ^ (7 * k + 1) /\ (0 < i -> 0 < u)
 | k, i, [], r, acc, v, _, _, h => by simp [grp] at h
 | k, i, b :: s, r, acc, v, hi, hs, h => by
   simp only [bO, Bool.and_eq_true, Nat.blt_eq] at hs; rw [grp] at h; split at h
   · cases h
   · rename_i hc; split at h
     · rename_i hb; cases h; refine ⟨b, rfl, ?_, ?_, λ h0 => ?_⟩
       · cases k with
         | zero => rfl
         | succ k => rw [pH, if_pos hb]; rfl
       · cases k with
         | zero => simp; omega
         | succ k =>
           have : (2 : Nat) ^ (7 * (k + 1) + 1) = 256 * 2 ^ (7 * k) := by
             rw [show 7 * (k + 1) + 1 = 8 + 7 * k from by omega, Nat.pow_add]
           rw [this]; have : 0 < 2 ^ (7 * k) := Nat.two_pow_pos _; omega
       · omega
     · rename_i hb; cases k with
       | zero => exact absurd (.inr (.inl ⟨by omega, by omega⟩)) hc
       | succ k =>
         obtain ⟨u, h1, h2, h3, h4⟩ := aFc k (i + 1) s r _ v (by omega) hs.2 h
         have hu := h4 (by omega)
         refine ⟨(b - 128) + 128 * u, ?_, ?_, ?_, λ _ => by omega⟩
         · rw [h1, aBM, Nat.add_assoc]
           congr 1
           rw [Nat.add_mul]
           congr 1
           rw [<- Nat.mul_assoc, Nat.mul_comm u 128]
         · rw [pH, if_neg (by omega), h2]
           rw [show (b - 128 + 128 * u) % 128 + 128 = b from by omega, show (b - 128 + 128 * u) / 128 = u from by omega]
           rfl
         · have : (2 : Nat) ^ (7 * (k + 1) + 1) = 128 * 2 ^ (7 * k + 1) := by
             rw [show 7 * (k + 1) + 1 = 7 + (7 * k + 1) from by omega, Nat.pow_add]
           rw [this]; omega
def uN (n : Int) : Ln := pH 9 (zz n)
def uA (s : Ln) : Option (Int × Ln) := (grp 0 s 0).map λ x => (aGB x.1, x.2)
def eS (n : Int) : Prop := -9223372036854775808 <= n /\ n < 9223372036854775808
theorem aUY {n : Int} (h : eS n) : bO (uN n) = true := aIL 9 _ (by have := aNc h.1 h.2; simpa using this)
theorem aEZ (n : Int) : 1 <= (uN n).length /\ (uN n).length <= 10 := aEr 9 _
theorem aCG {n : Int} (h : eS n) (r : Ln) : uA (uN n ++ r) = some (n, r) := by
 unfold uA uN; rw [aFb r 9 0 (zz n) 0 rfl (by have := aNc h.1 h.2; simpa using this) (λ h => absurd h (by omega))]
 simp [aUt]
theorem aGS {E : aX} {n0 : Nat} : ∀ (k m u : Nat) (s : Ln) (v : DV) (h : H), u < 2 ^ (7 * k + 1) -> k <= 9 -> s.length + k <= 1000000 -> n0 <= h.size -> aLN n0 h v (cT s) -> (∀ b o n c op, v = .slc b o n c op -> b < h.size) ->
   ∃ v' h', wT E (m + (k + 1)) v (.int .u64 (.ofNat u)) h = some (v', h') /\ dI n0 h' v' (cT (s ++ pH k u)) /\ dQ n0 h h' := by
 intro k
 induction k with
 | zero =>
   intro m u s v h hu hk9 hs hn ho hlt; simp at hu; show ∃ v' h', aBg E (wT E m) _ _ h = _ /\ _; unfold aBg; have d : decide (128 <= u) = false := by simp; omega
   obtain ⟨v1, h1, g1, g2, g3⟩ := ho.push1 (x := kZ (u % 256)) (z := kZ 0) (bytes := 1) hlt hn rfl (by rw [fO]; unfold bU; omega) (by rw [fO]; unfold bU; omega)
   refine ⟨v1, h1, ?_, ?_, g3⟩
   · rw [nQ, aE, d, dE]; unfold aBa; rw [conv_u8, aE, show (DV.int .u8 (.ofNat (u % 256))) = kZ (u % 256) from rfl, show (DV.int .u8 (.ofNat 0)) = kZ 0 from rfl, g1]
   · rw [pH, nH]; have : u % 256 = u := by omega
     rw [this] at g2; exact g2
 | succ k ih =>
   intro m u s v h hu hk9 hs hn ho hlt; show ∃ v' h', aBg E (wT E (m + (k + 1))) _ _ h = _ /\ _; unfold aBg; rw [pH]; by_cases h128 : u < 128
   · have d : decide (128 <= u) = false := by simp; omega
     obtain ⟨v1, h1, g1, g2, g3⟩ := ho.push1 (x := kZ (u % 256)) (z := kZ 0) (bytes := 1) hlt hn rfl (by rw [fO]; unfold bU; omega) (by rw [fO]; unfold bU; omega)
     refine ⟨v1, h1, ?_, ?_, g3⟩
     · rw [nQ, aE, d, dE]; unfold aBa; rw [conv_u8, aE, show (DV.int .u8 (.ofNat (u % 256))) = kZ (u % 256) from rfl, show (DV.int .u8 (.ofNat 0)) = kZ 0 from rfl, g1]
     · rw [if_pos h128, nH]; have : u % 256 = u := by omega
       rw [this] at g2; exact g2
   · have d : decide (128 <= u) = true := by simp; omega
     have h2 : (2 : Nat) ^ (7 * (k + 1) + 1) = 128 * 2 ^ (7 * k + 1) := by
       rw [show 7 * (k + 1) + 1 = 7 + (7 * k + 1) from by omega, Nat.pow_add]
     rw [h2] at hu; obtain ⟨v1, h1, g1, g2, g3⟩ := ho.push1 (x := kZ (u % 128 + 128)) (z := kZ 0) (bytes := 1) hlt hn rfl (by rw [fO]; unfold bU; omega) (by rw [fO]; unfold bU; omega)
     have g2' : dI n0 h1 v1 (cT (s ++ [u % 128 + 128])) := by rw [nH]; exact g2
     obtain ⟨v2, h3, k1, k2, k3⟩ := ih m (u / 128) (s ++ [u % 128 + 128]) v1 h1 (Nat.div_lt_of_lt_mul hu) (by omega) (by simp; omega) (Nat.le_trans hn g3.size) (.inl g2') g2'.lt_size
     have h64 : u < 18446744073709551616 := by
       have : (2 : Nat) ^ (7 * k + 1) <= 2 ^ 57 := Nat.pow_le_pow_right (by omega) (by omega)
       have e57 : (2 : Nat) ^ 57 = 144115188075855872 := by decide
       omega
     refine ⟨v2, h3, ?_, ?_, g3.trans k3⟩
     · rw [nQ, aE, d, fA, conv_u8, aE, aUs (by omega), aE]
       rw [show u % 256 % 128 + 128 = u % 128 + 128 from by omega, show (DV.int .u8 (.ofNat 0)) = kZ 0 from rfl, g1, aCL _ _ (by decide), aE]
       exact k1
     · rw [if_neg h128]
       simpa using k2
def aDx (B : bB) : Prop := ∀ (v : DV) (s : Ln) (n : Int) (h : H), aIH h v (cT s) -> s.length <= 100000 -> eS n -> ∃ v' h', B [v, .int .i64 n] h = some (v', h') /\ dI h.size h' v' (cT (s ++ uN n)) /\ dQ h.size h h'
theorem aNS {E : aX} : aDx (aHE E) := by
 intro v s n h hc hs hn; have hz := aNc hn.1 hn.2; obtain ⟨v', h', a1, a2, a3⟩ := aGS (E := E) (n0 := h.size) 9 (aY - 10) (zz n) s v h (by simpa using hz) (Nat.le_refl _) (by omega) (Nat.le_refl _) hc.1 hc.2
 rw [show aY - 10 + (9 + 1) = aY from by unfold aY; omega] at a1
 refine ⟨v', h', ?_, a2, a3⟩; obtain ⟨x, y, z, e1, e2, e3, w, e4, e5⟩ := aZo hn.1 hn.2; show aDJ E v (.int .i64 n) h = _; unfold aDJ; rw [e1, aE, e2, aE, e3, aE, e4, aE, e5, aE]; exact a1
theorem kH {n : Nat} (h : n < 9223372036854775808) : eS (.ofNat n) := ⟨by simp only [Int.ofNat_eq_natCast]; omega, by simp only [Int.ofNat_eq_natCast]; omega⟩
def aAU (h : H) (b : Nat) (s : Ln) : Prop := ∃ v, aD h b [.int .i64 (.ofNat 65536), v, .int .i64 (.ofNat 0)] /\ dI (b + 1) h v (cT s)
theorem aPv {n0 b : Nat} {h h' : H} {v : DV} {L : List DV} (o : dI n0 h v L) (hb : b < n0) (k : yR b h h') : dI n0 h' v L := by
 rcases o with o | ⟨c, hc, e, hcell⟩
 · exact .inl o
 · exact .inr ⟨c, hc, e, hcell.but (by omega) k⟩
theorem aVY {n0 : Nat} {h : H} {v : DV} {L : List DV} (o : dI n0 h v L) : ∃ c, yW 1 v none (.int .i64 (.ofNat L.length)) (.int .i64 (.ofNat L.length)) = some c /\ aIH h c L := by
 rcases o with ⟨rfl, rfl⟩ | ⟨b, _, rfl, hb⟩
 · exact ⟨.nils, rfl, .inl (dI.nil _ _), λ b o n c op e => by cases e⟩
 · have hlt := hb.1; obtain ⟨_, pl, t, g1, g2⟩ := id hb; by_cases hL : 0 < L.length
   · refine ⟨.slc b 0 L.length L.length false, ?_, .inr ⟨b, 0, _, rfl, g1, λ j x hj => by rw [Nat.zero_add]; exact hb.rd hj⟩, λ b' o n c op e => by cases e; exact hlt⟩
     simp only [yW, cU, dHi, dLo]; rw [Nat.ble_eq_true_of_le (Nat.le_refl _), cond_true, cond_true, Nat.ble_eq_true_of_le (Nat.zero_le _), cond_true, dP hL, cond_true]; simp [aR]
   · have h0 : L.length = 0 := by omega
     have hn : L = [] := List.eq_nil_of_length_eq_zero h0; subst hn; exact ⟨.slc b 0 0 0 false, rfl, .inr ⟨b, 0, _, rfl, g1, λ j x hj => by cases hj⟩, λ b' o n c op e => by cases e; exact hlt⟩
def bKp (E : aX) (f : DV) (h : H) (s new : Ln) : Prop := ∀ c, aIH h c (cT s) -> ∃ v' h', mJ E f [c] h = some (v', h') /\ dI h.size h' v' (cT (s ++ new)) /\ dQ h.size h h'
theorem aUW {E : aX} {b : Nat} {s new : Ln} {f : DV} {h : H} (hw : aAU h b s) (hf : bKp E f h s new) (hl : s.length + new.length <= 65536) :
   ∃ h', aGc E [.ptr b 0, f] h = some (.tup [], h') /\ aAU h' b (s ++ new) /\ sG (λ c => c = b) h h' := by
 obtain ⟨v, ho, hv⟩ := hw; obtain ⟨c, hc1, hc2⟩ := aVY hv; obtain ⟨v', h1, f1, f2, f3⟩ := hf c hc2; have ho1 := ho.grown f3.grown; obtain ⟨h2, g1, g2, g3⟩ := ho1.set (v := v') (j := 1) (by rcases f2 with ⟨rfl, _⟩ | ⟨_, _, rfl, _⟩ <;> rfl) (by simp)
 have hb := ho.1; refine ⟨h2, ?_, ⟨v', g2, aPv (f2.mono (by omega)) (by omega) g3⟩, (f3.grown.off _).trans (g3.off rfl)⟩
 show aDL E (.ptr b 0) f h = _; unfold aDL; have fa : ∀ k, aG k (.ptr b 0) = some (.ptr b k) := λ k => by rw [aM, Nat.zero_add]
 have d1 : decide (65536 < (cT (s ++ new)).length) = false := by rw [fO, List.length_append]; simp; omega
 simp only [gX, aE, nC, cP, fa, ho.read (j := 2) rfl, aBD, decide_true, Bool.not_true, iC]; rw [dE]; simp only [cP, aE, fa, ho.read (j := 1) rfl, hv.len, hc1, f1, cY, f2.len, ho1.read (j := 0) rfl, lR, d1]; rw [dE]; simp only [cP, aE, fa, g1, cY]
theorem aUp {h : H} {b : Nat} {s : Ln} (hw : aAU h b s) (o : eH) : aAU (h.push o) b s := by
 obtain ⟨v, ho, hv⟩ := hw; exact ⟨v, ho.grown (bX.push h o), hv.keep (dQ.push (Nat.le_refl _) o) (Nat.le_refl _)⟩
theorem aUq {h h' : H} {b : Nat} {s : Ln} (hw : aAU h b s) (k : dQ h.size h h') : aAU h' b s := by
 obtain ⟨v, ho, hv⟩ := hw; exact ⟨v, ho.grown k.grown, hv.keep k (Nat.le_refl _)⟩
def vH (B : bB) : Prop := ∀ (b : Nat) (s : Ln) (n : Int) (h : H), aAU h b s -> eS n -> s.length + 10 <= 65536 -> ∃ h', B [.ptr b 0, .int .i64 n] h = some (.tup [], h') /\ aAU h' b (s ++ uN n) /\ sG (λ c => c = b) h h'
theorem aLP {E F G : aX} (h1 : E 114 = some (aGc F)) (h2 : F 115 = some (aHF G)) (hN : kT G 116 aDx) : vH (S80 E) := by
 obtain ⟨B, hB, sB⟩ := hN.call; intro b s n h hw hn hs; have hbox : aD (h.push (.blk ⟨1, 1, false, true, Tr.ofL [.int .i64 n]⟩)) h.size [.int .i64 n] := aD.pushed (L := [.int .i64 n]); have hl := (aEZ n).2; have hb : b < h.size := by obtain ⟨v, ho, _⟩ := hw; exact ho.1
 obtain ⟨h', f1, f2, f3⟩ := aUW (E := F) (b := b) (s := s) (new := uN n) (f := .fn (.func 115) [] [.ptr h.size 0]) (aUp hw (.blk ⟨1, 1, false, true, Tr.ofL [.int .i64 n]⟩)) (by
   intro c hc; obtain ⟨v', h', a1, a2, a3⟩ := sB c s n _ hc (by omega) hn
   refine ⟨v', h', ?_, a2, a3⟩; show aB F 115 ([] ++ [c] ++ [.ptr h.size 0]) _ = _; rw [cF h2]; show aDK G c (.ptr h.size 0) _ = _; unfold aDK; rw [hbox.read (j := 0) rfl, aE, hB, a1, cY]) (by omega)
 refine ⟨h', ?_, f2, ((bX.push h _).off _).trans f3⟩; show aLo E (.ptr b 0) (.int .i64 n) h = _; unfold aLo; rw [aMl rfl, cF h1, f1, cY]
def rG (B : bB) : Prop := ∀ (b : Nat) (s : Ln) (h : H), aAU h b s -> bO s = true -> B [.ptr b 0] h = some (.tup [.str s, .int .i64 (.ofNat 0)], h)
theorem aGz {E : aX} : rG (S81 E) := by
 intro b s h hw hok; obtain ⟨v, ho, hv⟩ := hw; show aLn E (.ptr b 0) h = _; unfold aLn; have fa : ∀ k, aG k (.ptr b 0) = some (.ptr b k) := λ k => by rw [aM, Nat.zero_add]
 rw [gX, aE, dE]; simp only [cP, aE, fa, ho.read (j := 2) rfl, aBD, decide_true, Bool.not_true]; rw [dE]; simp only [cP, aE, fa, ho.read (j := 1) rfl, hv.text hok]
def aAX (B : bB) : Prop := ∀ (h : H), ∃ h', B [.int .i64 (.ofNat 65536)] h = some (.ptr h.size 0, h') /\ aAU h' h.size [] /\ bX h h'
theorem aMk {E : aX} : aAX (S78 E) := by
 intro h; have hb : dF [(.int .i64 (.ofNat 0)), .nils, (.int .i64 (.ofNat 0))] [(0, 1, .int .i64 (.ofNat 65536))] = some (.agg [.int .i64 (.ofNat 65536), .nils, .int .i64 (.ofNat 0)]) := rfl; refine ⟨h.push (.blk ⟨3, 3, false, true, Tr.ofL [.int .i64 (.ofNat 65536), .nils, .int .i64 (.ofNat 0)]⟩), ?_, ⟨.nils, aD.pushed (L := [.int .i64 (.ofNat 65536), .nils, .int .i64 (.ofNat 0)]), dI.nil _ _⟩, bX.push h _⟩; show aLq E (.int .i64 (.ofNat 65536)) h = _; unfold aLq; rw [aO, aE, aN, aE]; rw [show min (max 65536 0) 65536 = 65536 from rfl, hb, aE, wE]; rfl
def rdV (st : Option (Ln)) : List DV := match st with
 | some s => [.str s, .bool false]
 | none => [.str [], .bool true]
theorem tC (st : Option (Ln)) : (rdV st).length = 2 := by cases st <;> rfl
def vM (B : bB) : Prop := ∀ (b : Nat) (st : Option (Ln)) (h : H), aD h b (rdV st) -> ∃ h', B [.ptr b 0] h = some (.tup [], h') /\ aD h' b (rdV none) /\ yR b h h'
theorem aME {E : aX} : vM (aHA E) := by
 intro b st h hb; obtain ⟨h1, f1, f2, f3⟩ := hb.set (v := .str []) (j := 0) rfl (by rw [tC]; omega)
 obtain ⟨h2, g1, g2, g3⟩ := f2.set (v := .bool true) (j := 1) rfl (by simp [tC])
 have e : ((rdV st).set 0 (.str [])).set 1 (.bool true) = rdV none := by cases st <;> rfl
 rw [e] at g2; refine ⟨h2, ?_, g2, f3.trans g3⟩; show aDD E (.ptr b 0) h = _; unfold aDD; have fa : ∀ k, aG k (.ptr b 0) = some (.ptr b k) := λ k => by rw [aM, Nat.zero_add]
 rw [yX, aE, fA]; simp only [cP, aE, fa, f1, cY, g1]
def xA (st : Option (Ln)) (n : Int) : Ln × Bool × Option (Ln) := match st, n with
 | some s, .ofNat k => if k <= s.length then (s.take k, true, some (s.drop k)) else ([], false, none)
 | _, _ => ([], false, none)
def aAV (B : bB) : Prop := ∀ (b : Nat) (st : Option (Ln)) (n : Int) (h : H), aD h b (rdV st) -> ∃ h', B [.ptr b 0, .int .i64 n] h = some (.tup [.str (xA st n).1, .bool (xA st n).2.1], h') /\ aD h' b (rdV (xA st n).2.2) /\ yR b h h'
theorem aLW {E : aX} (hF : kT E 148 vM) : aAV (aHD E) := by
 obtain ⟨B, hB, sB⟩ := hF.call; intro b st n h hb; show ∃ h', aDI E (.ptr b 0) (.int .i64 n) h = _ /\ _; unfold aDI; have fa : ∀ k, aG k (.ptr b 0) = some (.ptr b k) := λ k => by rw [aM, Nat.zero_add]
 cases st with
 | none =>
   have e : xA none n = ([], false, none) := rfl; obtain ⟨h', f1, f2, f3⟩ := sB b none h hb; rw [e]; refine ⟨h', ?_, f2, f3⟩; simp only [gX, aE, nC, cP, fa, hb.read (j := 1) (x := .bool true) rfl, iC, aAj, qZ, jQ]; rw [fA, hB, f1, cY]
 | some s =>
   have h0 := hb.read (j := 0) (x := .str s) rfl; simp only [gX, aE, nC, cP, fa, hb.read (j := 1) (x := .bool false) rfl, iC, gW, h0, kE]; cases n with
   | negSucc k =>
     have e : xA (some s) (.negSucc k) = ([], false, none) := rfl; obtain ⟨h', f1, f2, f3⟩ := sB b (some s) h hb; rw [e]; refine ⟨h', ?_, f2, f3⟩; have d : decide (Int.negSucc k < Int.ofNat 0) = true := by simp
     simp only [d, aAj, qZ, jQ, aE]; rw [fA, hB, f1, cY]
   | ofNat k =>
     have d : decide (Int.ofNat k < Int.ofNat 0) = false := by simp
     simp only [d, nC, cP, aE, fa, h0, kE, lR, iC]; by_cases hk : s.length < k
     · have e : xA (some s) (.ofNat k) = ([], false, none) := by show (if k <= s.length then _ else _) = _; rw [if_neg (by omega)]
       obtain ⟨h', f1, f2, f3⟩ := sB b (some s) h hb; rw [e]; refine ⟨h', ?_, f2, f3⟩; rw [decide_eq_true hk, fA, hB, f1, cY]
     · have e : xA (some s) (.ofNat k) = (s.take k, true, some (s.drop k)) := by show (if k <= s.length then _ else _) = _; rw [if_pos (by omega)]
       obtain ⟨h1, f1, f2, f3⟩ := hb.set (v := .str (s.drop k)) (j := 0) rfl (by rw [tC]; omega)
       rw [e]; refine ⟨h1, ?_, f2, f3⟩; rw [decide_eq_false hk, dE]; simp only [cP, aE, fa, h0, yU (show k <= s.length by omega), yV (show k <= s.length by omega), f1, cY]
theorem aNJ (i : Nat) : 128 ^ i = 2 ^ (7 * i) := by rw [Nat.pow_mul]
def aHb (s : Ln) (r : Option (Nat × Ln)) : DV := match r with
 | some (v, q) => .tup [.int .u64 (.ofNat v), .int .i64 (.ofNat (s.length - q.length))]
 | none => .tup [.int .u64 (.ofNat 0), .int .i64 (.ofNat 0)]
theorem aBs {E : aX} (s0 : Ln) (hok : bO s0 = true) (h : H) : ∀ (s p : Ln) (acc m : Nat), s0 = p ++ s -> (p.length <= 9 -> acc < 2 ^ (7 * p.length)) -> p.length <= 10 ->
   wS E (.str s0) (.int .i64 (.ofNat (min s0.length 10))) (m + (s.length + 1)) (.int .u64 (.ofNat acc)) (.int .i64 (.ofNat p.length)) h = some (aHb s0 (grp p.length s acc), h) := by
 intro s
 induction s with
 | nil =>
   intro p acc m e ha hp; show aBf E _ _ (wS E _ _ m) _ _ h = _; unfold aBf; have d : decide (p.length < min s0.length 10) = false := by rw [e]; simp; omega
   rw [iP, aE, d, dE]; unfold aAZ; simp [grp, aHb]
 | cons b s ih =>
   intro p acc m e ha hp; show aBf E _ _ (wS E _ _ (m + (s.length + 1))) _ _ h = _; unfold aBf; by_cases h10 : 10 <= p.length
   · have d : decide (p.length < min s0.length 10) = false := by simp; omega
     rw [iP, aE, d, dE]; unfold aAZ; rw [grp, if_pos (.inl h10)]; rfl
   · have hb : b < 256 := (iR s0).1 hok b (by rw [e]; simp)
     have hacc := ha (by omega)
     have d : decide (p.length < min s0.length 10) = true := by rw [e]; simp; omega
     have ix : lU (.str s0) (.int .i64 (.ofNat p.length)) = some (.int .u8 (.ofNat b)) := lQ (by rw [e]; simp) _
     have mul : mR (.int .i64 (.ofNat 7)) (.int .i64 (.ofNat p.length)) = some (.int .i64 (.ofNat (7 * p.length))) := by
       rw [vQ, show Int.ofNat 7 * Int.ofNat p.length = Int.ofNat (7 * p.length) from rfl, wrap_i64 (by omega)]
     have hacc64 : acc < 2 ^ 64 := Nat.lt_of_lt_of_le hacc (Nat.pow_le_pow_right (by omega) (by omega))
     have hmod : b % 128 * 2 ^ (7 * p.length) % 18446744073709551616 < 2 ^ 64 := Nat.mod_lt _ (by decide)
     have hor : acc ||| (b % 128 * 2 ^ (7 * p.length) % 18446744073709551616) < 18446744073709551616 := Nat.or_lt_two_pow (n := 64) hacc64 hmod; have orv : aBm (.int .u64 (.ofNat acc)) (.int .u64 (.ofNat (b % 128 * 2 ^ (7 * p.length) % 18446744073709551616))) = some (.int .u64 (.ofNat (acc ||| (b % 128 * 2 ^ (7 * p.length) % 18446744073709551616)))) := by
       rw [aEu .u64 _ _ hacc64 hmod, nL hor]
     rw [iP, aE, d, fA, ix, aE, nF (by omega), aE, aNi (by omega), aE, mul, aE, vP _ (by omega), aE, orv, aE, nQ, aE]
     have plus : ∀ c : Nat, c < 128 -> (p.length = 9 -> c <= 1) -> acc ||| (c * 2 ^ (7 * p.length) % 18446744073709551616) = acc + c * 128 ^ p.length := by
       intro c hc h9; have hlt : c * 2 ^ (7 * p.length) < 18446744073709551616 := by
         rcases Nat.lt_or_ge p.length 9 with h | h
         · have h1 : (2 : Nat) ^ (7 * p.length) <= 2 ^ 56 := Nat.pow_le_pow_right (by omega) (by omega)
           have e56 : (2 : Nat) ^ 56 = 72057594037927936 := by decide
           have : c * 2 ^ (7 * p.length) <= 127 * 2 ^ 56 := Nat.mul_le_mul (by omega) h1
           omega
         · have h9' : p.length = 9 := by omega
           have := h9 h9'; rw [h9']; have e63 : (2 : Nat) ^ (7 * 9) = 9223372036854775808 := by decide
           rw [e63]; omega
       rw [Nat.mod_eq_of_lt hlt, aNJ, aEP hacc]
     rw [grp]; by_cases h128 : 128 <= b
     · rw [decide_eq_true h128, fA, qS (by omega), aE]
       by_cases h9 : p.length = 9
       · rw [if_pos (.inr (.inl ⟨h9, by omega⟩))]
         have := ih (p ++ [b]) (acc ||| (b % 128 * 2 ^ (7 * p.length) % 18446744073709551616)) m (by rw [e]; simp) (by intro h; simp at h; omega) (by simp; omega)
         rw [List.length_append] at this; refine Eq.trans this ?_
         congr 2
         cases s with
         | nil => simp [grp]
         | cons c s => rw [grp, if_pos (.inl (by simp; omega))]
       · rw [if_neg (by omega), if_neg (by omega)]
         have e128 : b % 128 = b - 128 := by omega
         have hp1 := plus (b % 128) (by omega) (by omega)
         rw [hp1, e128]; have hbd : acc + (b - 128) * 128 ^ p.length < 2 ^ (7 * (p.length + 1)) := by
           rw [aNJ, show 7 * (p.length + 1) = 7 * p.length + 7 from by omega, Nat.pow_add]
           have : (b - 128) * 2 ^ (7 * p.length) <= 127 * 2 ^ (7 * p.length) := Nat.mul_le_mul_right _ (by omega)
           omega
         have := ih (p ++ [b]) (acc + (b - 128) * 128 ^ p.length) m (by rw [e]; simp) (λ _ => by simpa using hbd) (by simp; omega)
         rw [List.length_append] at this; exact this
     · have hb128 : b % 128 = b := by omega
       rw [decide_eq_false h128, dE, lR, aE, hb128]; by_cases hbad : (p.length = 9 /\ 1 < b) \/ (0 < p.length /\ b = 0)
       · have hc : 10 <= p.length \/ (p.length = 9 /\ 1 < b) \/ (0 < p.length /\ b = 0) := .inr hbad; rw [if_pos hc]; by_cases hz : 0 < p.length /\ b = 0
         · simp only [decide_eq_true hz.1, aAi, kF, decide_eq_true hz.2, aE, jQ, aAj, qZ]; rw [fA]; rfl
         · have h91 : p.length = 9 /\ 1 < b := hbad.resolve_right hz; have hp0 : 0 < p.length := by omega
           have hb0 : ¬ b = 0 := by omega
           simp only [decide_eq_true hp0, aAi, kF, decide_eq_false hb0, aE, jQ, nC, decide_eq_true h91.1, lR, decide_eq_true h91.2, iC]; rw [fA]; rfl
       · rw [if_neg (by omega), if_pos (by omega)]
         have hp1 := plus b (by omega) (by omega)
         rw [hp1]; have fin : (some (DV.tup [DV.int .u64 (.ofNat (acc + b * 128 ^ p.length)), DV.int .i64 (.ofNat (p.length + 1))], h) : aQ) = some (aHb s0 (some (acc + b * 128 ^ p.length, s)), h) := by
           show _ = some (DV.tup [DV.int .u64 (.ofNat (acc + b * 128 ^ p.length)), DV.int .i64 (.ofNat (s0.length - s.length))], h); rw [show s0.length - s.length = p.length + 1 from by rw [e]; simp; omega]
         by_cases hp0 : 0 < p.length
         · have hb0 : ¬ b = 0 := by omega
           simp only [decide_eq_true hp0, aAi, kF, decide_eq_false hb0, aE, jQ, nC]; by_cases h9 : p.length = 9
           · have hb1 : ¬ 1 < b := by omega
             simp only [decide_eq_true h9, aAi, lR, decide_eq_false hb1, aE, jQ, iC]; rw [dE, qS (by omega), aE]; exact fin
           · simp only [decide_eq_false h9, aOh, qZ, aE, iC]; rw [dE, qS (by omega), aE]; exact fin
         · have h9 : ¬ p.length = 9 := by omega
           simp only [decide_eq_false hp0, aOh, qZ, iC, aE, nC, kF, decide_eq_false h9]; rw [dE, qS (by omega), aE]; exact fin
def aDT (B : bB) : Prop := ∀ (s : Ln) (h : H), bO s = true -> s.length < 140737488355328 -> B [.str s] h = some (aHb s (grp 0 s 0), h)
theorem aFd {E : aX} : aDT (aHz E) := by
 intro s h hs hl; have := aBs (E := E) s hs h s [] 0 (aY - (s.length + 1)) rfl (λ _ => by simp) (by simp)
 rw [show aY - (s.length + 1) + (s.length + 1) = aY from by unfold aY; omega] at this
 show aDC E (.str s) h = _; unfold aDC; rw [kE, aE, aN, aE]; exact this
def xD (st : Option (Ln)) : Int × Option (Ln) := match st with
 | some s => match uA s with
   | some (n, r) => (n, some r)
   | none => (0, none)
 | none => (0, none)
def okSt (st : Option (Ln)) (n : Nat) : Prop := ∀ s, st = some s -> bO s = true /\ s.length <= n
theorem aAf : ∀ (s : Ln) (i acc v : Nat) (r : Ln), grp i s acc = some (v, r) -> ∃ p, s = p ++ r /\ 1 <= p.length
 | [], i, acc, v, r, h => by simp [grp] at h
 | b :: s, i, acc, v, r, h => by
   rw [grp] at h; split at h
   · cases h
   · split at h
     · cases h; exact ⟨[b], rfl, Nat.le_refl _⟩
     · obtain ⟨p, e, _⟩ := aAf s _ _ v r h; exact ⟨b :: p, by rw [e]; rfl, by simp⟩
theorem aZY {s r : Ln} {v : Nat} (hs : bO s = true) (h : grp 0 s 0 = some (v, r)) : v < 18446744073709551616 := by
 obtain ⟨u, h1, h2, h3, _⟩ := aFc 9 0 s r 0 v rfl hs h; have hv : v = u := by simpa using h1
 subst hv
 simpa using h3
def rI (B : bB) : Prop := ∀ (b : Nat) (st : Option (Ln)) (h : H), aD h b (rdV st) -> okSt st 100000 -> ∃ h', B [.ptr b 0] h = some (.int .i64 (xD st).1, h') /\ aD h' b (rdV (xD st).2) /\ yR b h h'
theorem aGM {E : aX} (hG : kT E 149 aDT) (hF : kT E 148 vM) (hT : kT E 117 aAV) : rI (aHC E) := by
 obtain ⟨B1, b1, s1⟩ := hG.call; obtain ⟨B2, b2, s2⟩ := hF.call; obtain ⟨B3, b3, s3⟩ := hT.call; intro b st h hb hok; have fa : ∀ k, aG k (.ptr b 0) = some (.ptr b k) := λ k => by rw [aM, Nat.zero_add]
 show ∃ h', aDH E (.ptr b 0) h = _ /\ _; unfold aDH; rw [gX, aE, dE]; cases st with
 | none =>
   obtain ⟨h', f1, f2, f3⟩ := s2 b none h hb; refine ⟨h', ?_, f2, f3⟩; simp only [cP, aE, fa, hb.read (j := 0) (x := .str []) rfl, b1, s1 [] h rfl (by simp), cY, grp, aHb, yC, yB, kF, decide_true]
   rw [fA, b2, f1, cY]; rfl
 | some s =>
   obtain ⟨hs, hl⟩ := hok s rfl; simp only [cP, aE, fa, hb.read (j := 0) (x := .str s) rfl, b1, s1 s h hs (by omega), cY]
   cases hg : grp 0 s 0 with
   | none =>
     obtain ⟨h', f1, f2, f3⟩ := s2 b (some s) h hb; have e : xD (some s) = (0, none) := by simp [xD, uA, hg]
     rw [e]; refine ⟨h', ?_, f2, f3⟩; simp only [aHb, yC, yB, aE, kF, decide_true]; rw [fA, b2, f1, cY]; rfl
   | some x =>
     obtain ⟨v, r⟩ := x; obtain ⟨p, ep, hp⟩ := aAf s 0 0 v r hg; have hlen : s.length - r.length = p.length := by rw [ep]; simp
     obtain ⟨h', f1, f2, f3⟩ := s3 b (some s) (.ofNat p.length) h hb; have et : xA (some s) (.ofNat p.length) = (p, true, some r) := by
       show (if p.length <= s.length then (s.take p.length, true, some (s.drop p.length)) else _) = _
       rw [if_pos (by rw [ep]; simp), ep, List.take_left, List.drop_left]
     rw [et] at f1 f2; have e : xD (some s) = (aGB v, some r) := by simp [xD, uA, hg]
     rw [e]; refine ⟨h', ?_, f2, f3⟩; have d : decide (p.length = 0) = false := by simp; intro hp0; simp [hp0] at hp
     obtain ⟨x, y, z, w, e1, e2, e3, e4, q, e5, e6⟩ := aNj (aZY hs hg); simp only [aHb, yC, yB, aE, kF, hlen, d]; rw [dE, b3, f1, cY, e1, aE, e2, aE, e3, aE, e4, aE, e5, aE, e6, aE]; rfl
def aNs (st : Option (Ln)) : Nat := if st = some [] then 0 else 3
def pD (B : bB) : Prop := ∀ (b : Nat) (st : Option (Ln)) (h : H), aD h b (rdV st) -> B [.ptr b 0] h = some (.int .i64 (.ofNat (aNs st)), h)
theorem aEL {E : aX} : pD (S85 E) := by
 intro b st h hb; have fa : ∀ k, aG k (.ptr b 0) = some (.ptr b k) := λ k => by rw [aM, Nat.zero_add]
 show aLl E (.ptr b 0) h = _; unfold aLl; rw [gX, aE, dE]; cases st with
 | none =>
   simp only [cP, aE, fa, hb.read (j := 1) (x := .bool true) rfl, aAj, qZ, jQ]; rw [fA]; rfl
 | some s =>
   simp only [cP, aE, fa, hb.read (j := 1) (x := .bool false) rfl, nC, hb.read (j := 0) (x := .str s) rfl, aBC, iC]; cases s with
   | nil => rfl
   | cons c s => rfl
def wP (B : bB) : Prop := ∀ (s : Ln) (h : H), ∃ h', B [.str s] h = some (.ptr h.size 0, h') /\ aD h' h.size (rdV (some s)) /\ bX h h'
theorem aGT {E : aX} : wP (S82 E) := by
 intro s h; have hb : dF [(.str []), (.bool false)] [(0, 1, .str s)] = some (.agg [.str s, .bool false]) := rfl; refine ⟨h.push (.blk ⟨2, 2, false, true, Tr.ofL [.str s, .bool false]⟩), ?_, aD.pushed (L := [.str s, .bool false]), bX.push h _⟩; show aLm E (.str s) h = _; unfold aLm; rw [hb, aE, wE]; rfl
def kW (l : List Int) : Ln := l.flatMap uN
def iU (l : List Int) : List DV := l.map λ n => .int .i64 n
def aMB (b : Nat) : List DV := (List.range 8).map λ i => .ptr b i
def vL (B : bB) : Prop := ∀ (b : Nat) (h : H), W (B [.ptr b 0] h) λ v h' => v = .slc h.size 0 8 8 false /\ aD h' h.size (aMB b) /\ bX h h' /\ h'.size = h.size + 1
theorem aMt {E : aX} : vL (S79 E) := by
 intro b h; show W (aLp E (.ptr b 0) h) _; unfold aLp
 repeat' (first | with_reducible refine sT ?_ | with_reducible refine sF ?_ | with_reducible refine g1 ?_ | with_reducible refine g2 ?_ | with_reducible refine g3 ?_ | with_reducible refine g4 ?_ | ((with_reducible apply sV); first | exact aD.read (by assumption) (by rfl) | exact aD.readN (by assumption) (Nat.le_of_ble_eq_true rfl) | exact fZ (by omega) | exact gE (by omega) | exact gtT (by omega) | exact gtF (by omega) | exact leT (by omega) | exact gF (by omega) | exact geT (by omega) | exact geF (by omega) | exact gG (by omega) | exact gH (by omega) | exact fS (by omega) | exact fY (by omega) | exact aJ (by omega) | exact cS (by omega) | exact aH (by omega) (by omega) | exact aI (by omega) _ | exact aO _ _ _ _ | exact aN _ _ _ _ | exact aM _ _ _ | exact rfl) | exact W.ret ⟨rfl, rfl⟩ | with_reducible refine W.ret ?_)
 refine sL (cs := aMB b) rfl rfl λ h1 z1 g1 o1 => ?_
 exact W.ret ⟨rfl, o1, g1, z1⟩
theorem aFg {b i : Nat} (h : i < 8) : (aMB b)[i]? = some (.ptr b i) := by unfold aMB; rw [List.getElem?_map, List.getElem?_range h]; rfl
theorem aUZ {b i n c : Nat} {op : Bool} (h : i < n) : cH 1 (.slc b 0 n c op) (.int .i64 (.ofNat i)) = some (.ptr b i) := by
 simp only [cH, mQ, dP h, cond_true, aR, Nat.zero_add, Nat.mul_one]
theorem aMu {l : List Int} {i : Nat} {n : Int} (h : l[i]? = some n) : (iU l)[i]? = some (.int .i64 n) := by unfold iU; rw [List.getElem?_map, h]; rfl
theorem aAt : ∀ l : List Int, (kW l).length <= l.length * 10
 | [] => Nat.le_refl _
 | n :: l => by
   have h1 := (aEZ n).2; have h2 := aAt l; show (uN n ++ kW l).length <= _; rw [List.length_append, List.length_cons]; omega
theorem aDg : ∀ {l : List Int}, (∀ n ∈ l, eS n) -> bO (kW l) = true
 | [], _ => rfl
 | n :: l, h => by
   show bO (uN n ++ kW l) = true; exact eG (aUY (h n (by simp))) (aDg λ m hm => h m (by simp [hm]))
theorem aMG {l : List Int} {i : Nat} {n : Int} (h : l[i]? = some n) : kW (l.take (i + 1)) = kW (l.take i) ++ uN n := by
 rw [List.take_add_one, h]; show kW (l.take i ++ [n]) = _; unfold kW; rw [List.flatMap_append]; simp
theorem aET {E : aX} (hI : kT E 80 vH) (hD : kT E 81 rG) {w bs cb : Nat} {l : List Int} (h8 : l.length = 8) (hl : ∀ n ∈ l, eS n) (h1 : cb ≠ w) (h2 : bs ≠ w) :
   ∀ (k i m : Nat) (h : H), i + k = 8 -> aD h cb (iU l) -> aD h bs (aMB cb) -> aAU h w (kW (l.take i)) ->
   W (aCs E (.ptr w 0) (.slc bs 0 8 8 false) (.int .i64 (.ofNat 8)) (m + (k + 1)) (.int .i64 (.ofNat i)) h) λ v h' => v = .tup [.str (kW l), .int .i64 (.ofNat 0)] /\ sG (λ c => c = w) h h' := by
 obtain ⟨BI, bI, sI⟩ := hI.call; obtain ⟨BD, bD, sD⟩ := hD.call; intro k
 induction k with
 | zero =>
   intro i m h hk oc os ow; have hi : i = 8 := by omega
   subst hi; rw [<- h8, List.take_length] at ow; have := sD w (kW l) h ow (aDg hl); show W (aGq E _ _ _ (aCs E _ _ _ m) _ h) _; unfold aGq aLt
   repeat' (first | with_reducible refine sT ?_ | with_reducible refine sF ?_ | with_reducible refine g1 ?_ | with_reducible refine g2 ?_ | with_reducible refine g3 ?_ | with_reducible refine g4 ?_ | refine sC bD this ?_ | ((with_reducible apply sV); first | exact aD.read (by assumption) (by rfl) | exact aD.readN (by assumption) (Nat.le_of_ble_eq_true rfl) | exact fZ (by omega) | exact gE (by omega) | exact gtT (by omega) | exact gtF (by omega) | exact leT (by omega) | exact gF (by omega) | exact geT (by omega) | exact geF (by omega) | exact gG (by omega) | exact gH (by omega) | exact fS (by omega) | exact fY (by omega) | exact aJ (by omega) | exact cS (by omega) | exact aH (by omega) (by omega) | exact aI (by omega) _ | exact aO _ _ _ _ | exact aN _ _ _ _ | exact aM _ _ _ | exact rfl) | exact W.ret ⟨rfl, rfl⟩ | with_reducible refine W.ret ?_)
   exact ⟨rfl, sG.refl _ _⟩
 | succ k ih =>
   intro i m h hk oc os ow; obtain ⟨n, hn⟩ : ∃ n, l[i]? = some n := ⟨l[i]'(by omega), by rw [List.getElem?_eq_getElem]⟩
   have hin : eS n := hl n (List.mem_of_getElem? hn); have hlen := aAt (l.take i); rw [List.length_take] at hlen; obtain ⟨h', e1, w1, k1⟩ := sI w _ n h ow hin (by omega)
   show W (aGq E _ _ _ (aCs E _ _ _ (m + (k + 1))) _ h) _; unfold aGq
   repeat' (first | with_reducible refine sT ?_ | with_reducible refine sF ?_ | with_reducible refine g1 ?_ | with_reducible refine g2 ?_ | with_reducible refine g3 ?_ | with_reducible refine g4 ?_ | refine sC bI e1 ?_ | ((with_reducible apply sV); first | exact aUZ (by omega) | exact os.read (aFg (by omega)) | exact oc.read (aMu hn) | exact aD.read (by assumption) (by rfl) | exact aD.readN (by assumption) (Nat.le_of_ble_eq_true rfl) | exact fZ (by omega) | exact gE (by omega) | exact gtT (by omega) | exact gtF (by omega) | exact leT (by omega) | exact gF (by omega) | exact geT (by omega) | exact geF (by omega) | exact gG (by omega) | exact gH (by omega) | exact fS (by omega) | exact fY (by omega) | exact aJ (by omega) | exact cS (by omega) | exact aH (by omega) (by omega) | exact aI (by omega) _ | exact aO _ _ _ _ | exact aN _ _ _ _ | exact aM _ _ _ | exact rfl) | exact W.ret ⟨rfl, rfl⟩ | with_reducible refine W.ret ?_)
   refine W.mono (ih (i + 1) m h' (by omega) (oc.off k1 h1) (os.off k1 h2) (by rw [aMG hn]; exact w1)) ?_
   rintro v h2 ⟨rfl, k2⟩
   exact ⟨rfl, k1.trans k2⟩
def kX (c q k : Nat) (a b x y z : Int) : List Int := [.ofNat c, .ofNat q, .ofNat k, a, b, x, y, z]
def rV (c q k : Nat) (a b x y z : Int) : Prop := c < 16 /\ q < 2147483648 /\ 1 <= k /\ k <= 9 /\ eS a /\ eS b /\ eS x /\ eS y /\ eS z
theorem rV.all {c q k : Nat} {a b x y z : Int} (h : rV c q k a b x y z) : ∀ n ∈ kX c q k a b x y z, eS n := by
 obtain ⟨h1, h2, h3, h4, h5, h6, h7, h8, h9⟩ := h; intro n hn; simp only [kX, List.mem_cons, List.not_mem_nil, or_false] at hn; rcases hn with rfl | rfl | rfl | rfl | rfl | rfl | rfl | rfl
 · exact kH (by omega)
 · exact kH (by omega)
 · exact kH (by omega)
 all_goals assumption
def oH (B : bB) : Prop := ∀ (c q k : Nat) (a b x y z : Int) (h : H), rV c q k a b x y z -> W (B [.agg (iU (kX c q k a b x y z))] h) λ v h' => v = .tup [.str (kW (kX c q k a b x y z)), .int .i64 (.ofNat 0)] /\ bX h h'
theorem aMn {E : aX} (hN : kT E 78 aAX) (hS : kT E 79 vL) (hI : kT E 80 vH) (hD : kT E 81 rG) : oH (S53 E) := by
 obtain ⟨BN, bN, sN'⟩ := hN.call; obtain ⟨BS, bS, sS'⟩ := hS.call; intro c q k a b x y z h ok; have hal := ok.all; obtain ⟨h1, h2, h3, h4, _⟩ := ok; show W (aLu E (.agg (iU (kX c q k a b x y z))) h) _; unfold aLu; refine sX λ m1 z1 q1 o1 => ?_
 have ob : aD m1 h.size [.int .i64 (.ofNat c), .int .i64 (.ofNat q), .int .i64 (.ofNat k), .int .i64 a, .int .i64 b, .int .i64 x, .int .i64 y, .int .i64 z] := o1
 repeat' (first | with_reducible refine sT ?_ | with_reducible refine sF ?_ | with_reducible refine g1 ?_ | with_reducible refine g2 ?_ | with_reducible refine g3 ?_ | with_reducible refine g4 ?_ | ((with_reducible apply sV); first | exact aD.read (by assumption) (by rfl) | exact aD.readN (by assumption) (Nat.le_of_ble_eq_true rfl) | exact fZ (by omega) | exact gE (by omega) | exact gtT (by omega) | exact gtF (by omega) | exact leT (by omega) | exact gF (by omega) | exact geT (by omega) | exact geF (by omega) | exact gG (by omega) | exact gH (by omega) | exact fS (by omega) | exact fY (by omega) | exact aJ (by omega) | exact cS (by omega) | exact aH (by omega) (by omega) | exact aI (by omega) _ | exact aO _ _ _ _ | exact aN _ _ _ _ | exact aM _ _ _ | exact rfl) | exact W.ret ⟨rfl, rfl⟩ | with_reducible refine W.ret ?_)
 obtain ⟨m2, e2, w2, q2⟩ := sN' m1; refine sC bN e2 ?_; refine sN bS (sS' h.size m2) ?_
 rintro _ m3 ⟨rfl, os, q3, z3⟩
 repeat' (first | with_reducible refine sT ?_ | with_reducible refine sF ?_ | with_reducible refine g1 ?_ | with_reducible refine g2 ?_ | with_reducible refine g3 ?_ | with_reducible refine g4 ?_ | ((with_reducible apply sV); first | exact aD.read (by assumption) (by rfl) | exact aD.readN (by assumption) (Nat.le_of_ble_eq_true rfl) | exact fZ (by omega) | exact gE (by omega) | exact gtT (by omega) | exact gtF (by omega) | exact leT (by omega) | exact gF (by omega) | exact geT (by omega) | exact geF (by omega) | exact gG (by omega) | exact gH (by omega) | exact fS (by omega) | exact fY (by omega) | exact aJ (by omega) | exact cS (by omega) | exact aH (by omega) (by omega) | exact aI (by omega) _ | exact aO _ _ _ _ | exact aN _ _ _ _ | exact aM _ _ _ | exact rfl) | exact W.ret ⟨rfl, rfl⟩ | with_reducible refine W.ret ?_)
 have s2 := q2.size; have hw := w2; obtain ⟨wv, ww1, ww2⟩ := hw; have lw := ww1.1; have := aET hI hD (w := m1.size) (bs := m2.size) (cb := h.size) rfl hal (by omega) (by omega) 8 0 (aY - 9) m3 rfl ((o1.grown q2).grown q3) os (aUq w2 (gk q3 (Nat.le_refl _)))
 rw [show aY - 9 + (8 + 1) = aY from by unfold aY; omega] at this
 refine W.mono this ?_
 rintro v m4 ⟨rfl, k4⟩
 exact ⟨rfl, q1.trans (offN (q2.trans q3) k4 λ c hc e => by omega)⟩
def aBZ (l : List Int) (i : Nat) : List DV := iU (l.take i) ++ List.replicate (8 - i) (.int .i64 (.ofNat 0))
theorem aDe {l : List Int} {i : Nat} (h8 : l.length = 8) (hi : i <= 8) : (aBZ l i).length = 8 := by
 unfold aBZ iU; rw [List.length_append, List.length_map, List.length_take, List.length_replicate]; omega
theorem aMD {l : List Int} {i : Nat} {n : Int} (h8 : l.length = 8) (h : l[i]? = some n) : (aBZ l i).set i (.int .i64 n) = aBZ l (i + 1) := by
 have hi : i < 8 := by have := (List.getElem?_eq_some_iff.1 h).1; omega
 unfold aBZ; have e : (iU (l.take i)).length = i := by unfold iU; rw [List.length_map, List.length_take]; omega
 rw [List.set_append, if_neg (by omega), e, Nat.sub_self, show 8 - i = (8 - (i + 1)) + 1 from by omega, List.replicate_succ, List.set_cons_zero, List.take_add_one, h]
 unfold iU; simp
theorem aLZ {n : Int} (h : eS n) (r : Ln) : xD (some (uN n ++ r)) = (n, some r) := by
 unfold xD; simp only [aCG h r]
theorem aOZ {l : List Int} {i : Nat} {n : Int} (h : l[i]? = some n) : l.drop i = n :: l.drop (i + 1) := by
 obtain ⟨h1, h2⟩ := List.getElem?_eq_some_iff.1 h; rw [<- h2]; exact List.drop_eq_getElem_cons h1
def vI (B : bB) : Prop := ∀ (c q k : Nat) (a b x y z : Int) (h : H), rV c q k a b x y z -> W (B [.str (kW (kX c q k a b x y z))] h) λ v h' => v = .tup [.agg (iU (kX c q k a b x y z)), .int .i64 (.ofNat 0)] /\ bX h h'
theorem aEU {E : aX} (hR : kT E 118 rI) (hE : kT E 53 oH) (hD : kT E 85 pD) {n0 rb bs cb xb : Nat} {c q k0 : Nat} {a b x y z : Int} (ok : rV c q k0 a b x y z) (h1 : cb ≠ rb) (h2 : bs ≠ rb) (h3 : bs ≠ cb) (h4 : xb ≠ rb) (h5 : xb ≠ cb) (h6 : bs ≠ xb) (n1 : n0 <= rb) (n2 : n0 <= cb) (n3 : n0 <= xb) (n4 : n0 <= bs) :
   ∀ (k i m : Nat) (h : H), i + k = 8 -> aD h cb (aBZ (kX c q k0 a b x y z) i) -> aD h bs (aMB cb) -> aD h rb (rdV (some (kW ((kX c q k0 a b x y z).drop i)))) -> aD h xb (List.replicate 8 (.int .i64 (.ofNat 0))) ->
   W (aCq E (.ptr xb 0) (.ptr rb 0) (.ptr cb 0) (.slc bs 0 8 8 false) (.int .i64 (.ofNat 8)) (m + (k + 1)) (.int .i64 (.ofNat i)) h) λ v h' => v = .tup [.agg (iU (kX c q k0 a b x y z)), .int .i64 (.ofNat 0)] /\ dQ n0 h h' := by
 obtain ⟨BR, bR, sR⟩ := hR.call; obtain ⟨BE, bE, sE⟩ := hE.call; obtain ⟨BD, bD, sD⟩ := hD.call; have h8 : (kX c q k0 a b x y z).length = 8 := rfl; have hal := ok.all; intro k
 induction k with
 | zero =>
   intro i m h hk oc os or' ox; have hi : i = 8 := by omega
   subst hi; have oc : aD h cb (iU (kX c q k0 a b x y z)) := oc; have or' : aD h rb (rdV (some [])) := or'; show W (aGo E _ _ _ _ _ (aCq E _ _ _ _ _ m) _ h) _; unfold aGo aLj
   repeat' (first | with_reducible refine sT ?_ | with_reducible refine sF ?_ | with_reducible refine g1 ?_ | with_reducible refine g2 ?_ | with_reducible refine g3 ?_ | with_reducible refine g4 ?_ | ((with_reducible apply sV); first | exact oc.all rfl | exact aD.read (by assumption) (by rfl) | exact aD.readN (by assumption) (Nat.le_of_ble_eq_true rfl) | exact fZ (by omega) | exact gE (by omega) | exact gtT (by omega) | exact gtF (by omega) | exact leT (by omega) | exact gF (by omega) | exact geT (by omega) | exact geF (by omega) | exact gG (by omega) | exact gH (by omega) | exact fS (by omega) | exact fY (by omega) | exact aJ (by omega) | exact cS (by omega) | exact aH (by omega) (by omega) | exact aI (by omega) _ | exact aO _ _ _ _ | exact aN _ _ _ _ | exact aM _ _ _ | exact rfl) | exact W.ret ⟨rfl, rfl⟩ | with_reducible refine W.ret ?_)
   refine sN bE (sE c q k0 a b x y z h ok) ?_
   rintro _ m3 ⟨rfl, q3⟩
   have or3 := or'.grown q3; have := sD rb (some []) m3 or3; rw [show aNs (some []) = 0 from rfl] at this
   have oc3 := oc.grown q3; have ox3 := ox.grown q3; have lb : xb < h.size := ox.1; have lr : rb < h.size := or'.1; have lc : cb < h.size := oc.1; have ls : bs < h.size := os.1
   repeat' (first | with_reducible refine sT ?_ | with_reducible refine sF ?_ | with_reducible refine g1 ?_ | with_reducible refine g2 ?_ | with_reducible refine g3 ?_ | with_reducible refine g4 ?_ | refine sC bD this ?_ | ((with_reducible apply sV); first | exact oc3.all rfl | exact aD.read (by assumption) (by rfl) | exact aD.readN (by assumption) (Nat.le_of_ble_eq_true rfl) | exact fZ (by omega) | exact gE (by omega) | exact gtT (by omega) | exact gtF (by omega) | exact leT (by omega) | exact gF (by omega) | exact geT (by omega) | exact geF (by omega) | exact gG (by omega) | exact gH (by omega) | exact fS (by omega) | exact fY (by omega) | exact aJ (by omega) | exact cS (by omega) | exact aH (by omega) (by omega) | exact aI (by omega) _ | exact aO _ _ _ _ | exact aN _ _ _ _ | exact aM _ _ _ | exact rfl) | exact W.ret ⟨rfl, rfl⟩ | with_reducible refine W.ret ?_)
   refine sS ox3 rfl rfl rfl λ m4 o4 k4 => ?_
   repeat' (first | with_reducible refine sT ?_ | with_reducible refine sF ?_ | with_reducible refine g1 ?_ | with_reducible refine g2 ?_ | with_reducible refine g3 ?_ | with_reducible refine g4 ?_ | ((with_reducible apply sV); first | exact o4.all rfl | exact aD.read (by assumption) (by rfl) | exact aD.readN (by assumption) (Nat.le_of_ble_eq_true rfl) | exact fZ (by omega) | exact gE (by omega) | exact gtT (by omega) | exact gtF (by omega) | exact leT (by omega) | exact gF (by omega) | exact geT (by omega) | exact geF (by omega) | exact gG (by omega) | exact gH (by omega) | exact fS (by omega) | exact fY (by omega) | exact aJ (by omega) | exact cS (by omega) | exact aH (by omega) (by omega) | exact aI (by omega) _ | exact aO _ _ _ _ | exact aN _ _ _ _ | exact aM _ _ _ | exact rfl) | exact W.ret ⟨rfl, rfl⟩ | with_reducible refine W.ret ?_)
   have z3 := q3.size; exact ⟨rfl, (gk q3 (by omega)).trans (k4.keeps n3)⟩
 | succ k ih =>
   intro i m h hk oc os or' ox; obtain ⟨n, hn⟩ : ∃ n, (kX c q k0 a b x y z)[i]? = some n := ⟨_, List.getElem?_eq_getElem (by omega)⟩
   have hin : eS n := hal n (List.mem_of_getElem? hn); have okd : bO (kW ((kX c q k0 a b x y z).drop i)) = true := aDg λ m hm => hal m (List.mem_of_mem_drop hm)
   have hle := aAt ((kX c q k0 a b x y z).drop i); rw [List.length_drop, h8] at hle; obtain ⟨h', e1, w1, k1⟩ := sR rb _ h or' (λ s hs => by cases hs; exact ⟨okd, by omega⟩)
   rw [aOZ hn] at e1 w1; rw [show kW (n :: (kX c q k0 a b x y z).drop (i + 1)) = uN n ++ kW ((kX c q k0 a b x y z).drop (i + 1)) from rfl, aLZ hin] at e1 w1
   show W (aGo E _ _ _ _ _ (aCq E _ _ _ _ _ (m + (k + 1))) _ h) _; unfold aGo
   repeat' (first | with_reducible refine sT ?_ | with_reducible refine sF ?_ | with_reducible refine g1 ?_ | with_reducible refine g2 ?_ | with_reducible refine g3 ?_ | with_reducible refine g4 ?_ | refine sC bR e1 ?_ | ((with_reducible apply sV); first | exact aUZ (by omega) | exact os.read (aFg (by omega)) | exact aD.read (by assumption) (by rfl) | exact aD.readN (by assumption) (Nat.le_of_ble_eq_true rfl) | exact fZ (by omega) | exact gE (by omega) | exact gtT (by omega) | exact gtF (by omega) | exact leT (by omega) | exact gF (by omega) | exact geT (by omega) | exact geF (by omega) | exact gG (by omega) | exact gH (by omega) | exact fS (by omega) | exact fY (by omega) | exact aJ (by omega) | exact cS (by omega) | exact aH (by omega) (by omega) | exact aI (by omega) _ | exact aO _ _ _ _ | exact aN _ _ _ _ | exact aM _ _ _ | exact rfl) | exact W.ret ⟨rfl, rfl⟩ | with_reducible refine W.ret ?_)
   refine sS1 (j := i) (oc.but h1 k1) (by rw [aDe h8 (by omega)]; omega) rfl λ m2 o2 k2 => ?_
   rw [aMD h8 hn] at o2
   repeat' (first | with_reducible refine sT ?_ | with_reducible refine sF ?_ | with_reducible refine g1 ?_ | with_reducible refine g2 ?_ | with_reducible refine g3 ?_ | with_reducible refine g4 ?_ | ((with_reducible apply sV); first | exact aD.read (by assumption) (by rfl) | exact aD.readN (by assumption) (Nat.le_of_ble_eq_true rfl) | exact fZ (by omega) | exact gE (by omega) | exact gtT (by omega) | exact gtF (by omega) | exact leT (by omega) | exact gF (by omega) | exact geT (by omega) | exact geF (by omega) | exact gG (by omega) | exact gH (by omega) | exact fS (by omega) | exact fY (by omega) | exact aJ (by omega) | exact cS (by omega) | exact aH (by omega) (by omega) | exact aI (by omega) _ | exact aO _ _ _ _ | exact aN _ _ _ _ | exact aM _ _ _ | exact rfl) | exact W.ret ⟨rfl, rfl⟩ | with_reducible refine W.ret ?_)
   refine W.mono (ih (i + 1) m m2 (by omega) o2 ((os.but h2 k1).but h3 k2) (w1.but (Ne.symm h1) k2) ((ox.but h4 k1).but h5 k2)) ?_
   rintro v m3 ⟨rfl, k3⟩
   exact ⟨rfl, (k1.keeps n1).trans ((k2.keeps n2).trans k3)⟩
theorem aMo {E : aX} (hN : kT E 82 wP) (hS : kT E 79 vL) (hR : kT E 118 rI) (hE : kT E 53 oH) (hD : kT E 85 pD) : vI (S87 E) := by
 obtain ⟨BN, bN, sN'⟩ := hN.call; obtain ⟨BS, bS, sS'⟩ := hS.call; intro c q k a b x y z h ok; show W (aLk E (.str _) h) _; unfold aLk; refine sA rfl λ m1 z1 q1 o1 => ?_
 obtain ⟨m2, e2, w2, q2⟩ := sN' (kW (kX c q k a b x y z)) m1; refine sC bN e2 ?_
 repeat' (first | with_reducible refine sT ?_ | with_reducible refine sF ?_ | with_reducible refine g1 ?_ | with_reducible refine g2 ?_ | with_reducible refine g3 ?_ | with_reducible refine g4 ?_ | ((with_reducible apply sV); first | exact aD.read (by assumption) (by rfl) | exact aD.readN (by assumption) (Nat.le_of_ble_eq_true rfl) | exact fZ (by omega) | exact gE (by omega) | exact gtT (by omega) | exact gtF (by omega) | exact leT (by omega) | exact gF (by omega) | exact geT (by omega) | exact geF (by omega) | exact gG (by omega) | exact gH (by omega) | exact fS (by omega) | exact fY (by omega) | exact aJ (by omega) | exact cS (by omega) | exact aH (by omega) (by omega) | exact aI (by omega) _ | exact aO _ _ _ _ | exact aN _ _ _ _ | exact aM _ _ _ | exact rfl) | exact W.ret ⟨rfl, rfl⟩ | with_reducible refine W.ret ?_)
 refine sA rfl λ m3 z3 q3 o3 => ?_
 refine sS o3 rfl rfl rfl λ m4 o4 k4 => ?_
 refine sN bS (sS' m2.size m4) ?_
 rintro _ m5 ⟨rfl, os, q5, z5⟩
 repeat' (first | with_reducible refine sT ?_ | with_reducible refine sF ?_ | with_reducible refine g1 ?_ | with_reducible refine g2 ?_ | with_reducible refine g3 ?_ | with_reducible refine g4 ?_ | ((with_reducible apply sV); first | exact aD.read (by assumption) (by rfl) | exact aD.readN (by assumption) (Nat.le_of_ble_eq_true rfl) | exact fZ (by omega) | exact gE (by omega) | exact gtT (by omega) | exact gtF (by omega) | exact leT (by omega) | exact gF (by omega) | exact geT (by omega) | exact geF (by omega) | exact gG (by omega) | exact gH (by omega) | exact fS (by omega) | exact fY (by omega) | exact aJ (by omega) | exact cS (by omega) | exact aH (by omega) (by omega) | exact aI (by omega) _ | exact aO _ _ _ _ | exact aN _ _ _ _ | exact aM _ _ _ | exact rfl) | exact W.ret ⟨rfl, rfl⟩ | with_reducible refine W.ret ?_)
 have s2 := q2.size; have s4 := k4.size; have lw : m1.size < m2.size := w2.1; have := aEU hR hE hD (n0 := h.size) (rb := m1.size) (bs := m4.size) (cb := m2.size) (xb := h.size) ok (by omega) (by omega) (by omega) (by omega) (by omega) (by omega) (by omega) (by omega) (by omega) (by omega) 8 0 (aY - 9) m5 rfl (o4.grown q5) os
   (((w2.grown q3).but (by omega) k4).grown q5) ((((o1.grown q2).grown q3).but (by omega) k4).grown q5)
 rw [show aY - 9 + (8 + 1) = aY from by unfold aY; omega] at this
 refine W.mono this ?_
 rintro v m6 ⟨rfl, k6⟩
 refine ⟨rfl, dQ.grown ?_⟩; exact (gk q1 (Nat.le_refl _)).trans ((gk q2 (by omega)).trans ((gk q3 (by omega)).trans ((k4.keeps (by omega)).trans ((gk q5 (by omega)).trans k6))))
end Go.Proofs.YthpciaidbgjoeaaGreat
