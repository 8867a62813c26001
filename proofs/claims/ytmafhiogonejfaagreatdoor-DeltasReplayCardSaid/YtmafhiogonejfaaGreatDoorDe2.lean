/- What was written is read back; both Replays; what is replayed, less what was refused or asks, gives the same tree; the run. No condition. -/
import Derived.Test.YtmafhiogonejfaaGreatDoorDe1
import Derived.KernelRfl
set_option linter.unusedVariables false
set_option linter.unusedSimpArgs false
noncomputable section
namespace Go.Proofs.YtmafhiogonejfaaGreatDoor
open Go.DI
def rdV (st : Option (Ln)) : List DV := match st with
 | some s => [.str s, .bool false]
 | none => [.str [], .bool true]
theorem zY (st : Option (Ln)) : (rdV st).length = 2 := by cases st <;> rfl
def aBM (B : cF) : Prop := ∀ (b : Nat) (st : Option (Ln)) (h : H), aX h b (rdV st) -> ∃ h', B [.ptr b 0] h = some (.tup [], h') /\ aX h' b (rdV none) /\ zD b h h'
theorem aWz {E : bJ} : aBM (bAB E) := by
 intro b st h hb; obtain ⟨h1, f1, f2, f3⟩ := hb.set (v := .str []) (j := 0) rfl (by rw [zY]; omega)
 obtain ⟨h2, g1, g2, g3⟩ := f2.set (v := .bool true) (j := 1) rfl (by simp [zY])
 have e : ((rdV st).set 0 (.str [])).set 1 (.bool true) = rdV none := by cases st <;> rfl
 rw [e] at g2; refine ⟨h2, ?_, g2, f3.trans g3⟩; show aLJ E (.ptr b 0) h = _; unfold aLJ; have fa : ∀ k, aI k (.ptr b 0) = some (.ptr b k) := λ k => by rw [aJ, Nat.zero_add]
 rw [mR, aA, aD]; simp only [bA, aA, fa, f1, aB, g1]
def lR (st : Option (Ln)) (n : Int) : Ln × Bool × Option (Ln) := match st, n with
 | some s, .ofNat k => if k <= s.length then (s.take k, true, some (s.drop k)) else ([], false, none)
 | _, _ => ([], false, none)
def xD (B : cF) : Prop := ∀ (b : Nat) (st : Option (Ln)) (n : Int) (h : H), aX h b (rdV st) -> ∃ h', B [.ptr b 0, .int .i64 n] h = some (.tup [.str (lR st n).1, .bool (lR st n).2.1], h') /\ aX h' b (rdV (lR st n).2.2) /\ zD b h h'
theorem aVN {E : bJ} (hF : bL E 111 aBM) : xD (bAD E) := by
 obtain ⟨B, hB, sB⟩ := hF.call; intro b st n h hb; show ∃ h', aLL E (.ptr b 0) (.int .i64 n) h = _ /\ _; unfold aLL; have fa : ∀ k, aI k (.ptr b 0) = some (.ptr b k) := λ k => by rw [aJ, Nat.zero_add]
 cases st with
 | none =>
   have e : lR none n = ([], false, none) := rfl; obtain ⟨h', f1, f2, f3⟩ := sB b none h hb; rw [e]; refine ⟨h', ?_, f2, f3⟩; simp only [cO, aA, dQ, bA, fa, hb.read (j := 1) (x := .bool true) rfl, bT, fL, eD, bZ]; rw [aD, hB, f1, aB]
 | some s =>
   have h0 := hb.read (j := 0) (x := .str s) rfl; simp only [cO, aA, dQ, bA, fa, hb.read (j := 1) (x := .bool false) rfl, bT, eY, h0, aY]; cases n with
   | negSucc k =>
     have e : lR (some s) (.negSucc k) = ([], false, none) := rfl; obtain ⟨h', f1, f2, f3⟩ := sB b (some s) h hb; rw [e]; refine ⟨h', ?_, f2, f3⟩; have d : decide (Int.negSucc k < Int.ofNat 0) = true := by simp
     simp only [d, fL, eD, bZ, aA]; rw [aD, hB, f1, aB]
   | ofNat k =>
     have d : decide (Int.ofNat k < Int.ofNat 0) = false := by simp
     simp only [d, dQ, bA, aA, fa, h0, aY, cW, bT]; by_cases hk : s.length < k
     · have e : lR (some s) (.ofNat k) = ([], false, none) := by show (if k <= s.length then _ else _) = _; rw [if_neg (by omega)]
       obtain ⟨h', f1, f2, f3⟩ := sB b (some s) h hb; rw [e]; refine ⟨h', ?_, f2, f3⟩; rw [decide_eq_true hk, aD, hB, f1, aB]
     · have e : lR (some s) (.ofNat k) = (s.take k, true, some (s.drop k)) := by show (if k <= s.length then _ else _) = _; rw [if_pos (by omega)]
       obtain ⟨h1, f1, f2, f3⟩ := hb.set (v := .str (s.drop k)) (j := 0) rfl (by rw [zY]; omega)
       rw [e]; refine ⟨h1, ?_, f2, f3⟩; rw [decide_eq_false hk, aC]; simp only [bA, aA, fa, h0, vN (show k <= s.length by omega), tP (show k <= s.length by omega), f1, aB]
theorem aXY (i : Nat) : 128 ^ i = 2 ^ (7 * i) := by rw [Nat.pow_mul]
def aQT (s : Ln) (r : Option (Nat × Ln)) : DV := match r with
 | some (v, q) => .tup [.int .u64 (.ofNat v), ii ((s.length - q.length))]
 | none => .tup [.int .u64 (.ofNat 0), ii 0]
theorem aHz {E : bJ} (s0 : Ln) (hok : bB s0 = true) (h : H) : ∀ (s p : Ln) (acc m : Nat), s0 = p ++ s -> (p.length <= 9 -> acc < 2 ^ (7 * p.length)) -> p.length <= 10 ->
   aDf E (.str s0) (.int .i64 (.ofNat (min s0.length 10))) (m + (s.length + 1)) (.int .u64 (.ofNat acc)) (.int .i64 (.ofNat p.length)) h = some (aQT s0 (grp p.length s acc), h) := by
 intro s
 induction s with
 | nil =>
   intro p acc m e ha hp; show aGS E _ _ (aDf E _ _ m) _ _ h = _; unfold aGS; have d : decide (p.length < min s0.length 10) = false := by rw [e]; simp; omega
   rw [aP, aA, d, aC]; unfold aGo; simp [grp, aQT]
 | cons b s ih =>
   intro p acc m e ha hp; show aGS E _ _ (aDf E _ _ (m + (s.length + 1))) _ _ h = _; unfold aGS; by_cases h10 : 10 <= p.length
   · have d : decide (p.length < min s0.length 10) = false := by simp; omega
     rw [aP, aA, d, aC]; unfold aGo; rw [grp, if_pos (.inl h10)]; rfl
   · have hb : b < 256 := (fS s0).1 hok b (by rw [e]; simp)
     have hacc := ha (by omega)
     have d : decide (p.length < min s0.length 10) = true := by rw [e]; simp; omega
     have ix : gY (.str s0) (.int .i64 (.ofNat p.length)) = some (.int .u8 (.ofNat b)) := mG (by rw [e]; simp) _
     have mul : zM (.int .i64 (.ofNat 7)) (.int .i64 (.ofNat p.length)) = some (.int .i64 (.ofNat (7 * p.length))) := by
       rw [aVH, show Int.ofNat 7 * Int.ofNat p.length = Int.ofNat (7 * p.length) from rfl, wrap_i64 (by omega)]
     have hacc64 : acc < 2 ^ 64 := Nat.lt_of_lt_of_le hacc (Nat.pow_le_pow_right (by omega) (by omega))
     have hmod : b % 128 * 2 ^ (7 * p.length) % 18446744073709551616 < 2 ^ 64 := Nat.mod_lt _ (by decide)
     have hor : acc ||| (b % 128 * 2 ^ (7 * p.length) % 18446744073709551616) < 18446744073709551616 := Nat.or_lt_two_pow (n := 64) hacc64 hmod; have orv : aPE (.int .u64 (.ofNat acc)) (.int .u64 (.ofNat (b % 128 * 2 ^ (7 * p.length) % 18446744073709551616))) = some (.int .u64 (.ofNat (acc ||| (b % 128 * 2 ^ (7 * p.length) % 18446744073709551616)))) := by
       rw [aMo .u64 _ _ hacc64 hmod, pX hor]
     rw [aP, aA, d, aD, ix, aA, nZ (by omega), aA, aMp (by omega), aA, mul, aA, sL _ (by omega), aA, orv, aA, fZ, aA]
     have plus : ∀ c : Nat, c < 128 -> (p.length = 9 -> c <= 1) -> acc ||| (c * 2 ^ (7 * p.length) % 18446744073709551616) = acc + c * 128 ^ p.length := by
       intro c hc h9; have hlt : c * 2 ^ (7 * p.length) < 18446744073709551616 := by
         rcases Nat.lt_or_ge p.length 9 with h | h
         · have h1 : (2 : Nat) ^ (7 * p.length) <= 2 ^ 56 := Nat.pow_le_pow_right (by omega) (by omega)
           have e56 : (2 : Nat) ^ 56 = 72057594037927936 := by decide
           have : c * 2 ^ (7 * p.length) <= 127 * 2 ^ 56 := Nat.mul_le_mul (by omega) h1
           omega
         · have h9' : p.length = 9 := by omega
           have := h9 h9'; rw [h9']; have e63 : (2 : Nat) ^ (7 * 9) = 9223372036854775808 := by decide
           rw [e63]; omega
       rw [Nat.mod_eq_of_lt hlt, aXY, aNr hacc]
     rw [grp]; by_cases h128 : 128 <= b
     · rw [decide_eq_true h128, aD, eZ (by omega), aA]
       by_cases h9 : p.length = 9
       · rw [if_pos (.inr (.inl ⟨h9, by omega⟩))]
         have := ih (p ++ [b]) (acc ||| (b % 128 * 2 ^ (7 * p.length) % 18446744073709551616)) m (by rw [e]; simp) (by intro h; simp at h; omega) (by simp; omega)
         rw [List.length_append] at this; refine Eq.trans this ?_
         congr 2
         cases s with
         | nil => simp [grp]
         | cons c s => rw [grp, if_pos (.inl (by simp; omega))]
       · rw [if_neg (by omega), if_neg (by omega)]
         have e128 : b % 128 = b - 128 := by omega
         have hp1 := plus (b % 128) (by omega) (by omega)
         rw [hp1, e128]; have hbd : acc + (b - 128) * 128 ^ p.length < 2 ^ (7 * (p.length + 1)) := by
           rw [aXY, show 7 * (p.length + 1) = 7 * p.length + 7 from by omega, Nat.pow_add]
           have : (b - 128) * 2 ^ (7 * p.length) <= 127 * 2 ^ (7 * p.length) := Nat.mul_le_mul_right _ (by omega)
           omega
         have := ih (p ++ [b]) (acc + (b - 128) * 128 ^ p.length) m (by rw [e]; simp) (λ _ => by simpa using hbd) (by simp; omega)
         rw [List.length_append] at this; exact this
     · have hb128 : b % 128 = b := by omega
       rw [decide_eq_false h128, aC, cW, aA, hb128]; by_cases hbad : (p.length = 9 /\ 1 < b) \/ (0 < p.length /\ b = 0)
       · have hc : 10 <= p.length \/ (p.length = 9 /\ 1 < b) \/ (0 < p.length /\ b = 0) := .inr hbad; rw [if_pos hc]; by_cases hz : 0 < p.length /\ b = 0
         · simp only [decide_eq_true hz.1, gT, cB, decide_eq_true hz.2, aA, bZ, fL, eD]; rw [aD]; rfl
         · have h91 : p.length = 9 /\ 1 < b := hbad.resolve_right hz; have hp0 : 0 < p.length := by omega
           have hb0 : ¬ b = 0 := by omega
           simp only [decide_eq_true hp0, gT, cB, decide_eq_false hb0, aA, bZ, dQ, decide_eq_true h91.1, cW, decide_eq_true h91.2, bT]; rw [aD]; rfl
       · rw [if_neg (by omega), if_pos (by omega)]
         have hp1 := plus b (by omega) (by omega)
         rw [hp1]; have fin : (some (DV.tup [DV.int .u64 (.ofNat (acc + b * 128 ^ p.length)), DV.int .i64 (.ofNat (p.length + 1))], h) : aV) = some (aQT s0 (some (acc + b * 128 ^ p.length, s)), h) := by
           show _ = some (DV.tup [DV.int .u64 (.ofNat (acc + b * 128 ^ p.length)), DV.int .i64 (.ofNat (s0.length - s.length))], h); rw [show s0.length - s.length = p.length + 1 from by rw [e]; simp; omega]
         by_cases hp0 : 0 < p.length
         · have hb0 : ¬ b = 0 := by omega
           simp only [decide_eq_true hp0, gT, cB, decide_eq_false hb0, aA, bZ, dQ]; by_cases h9 : p.length = 9
           · have hb1 : ¬ 1 < b := by omega
             simp only [decide_eq_true h9, gT, cW, decide_eq_false hb1, aA, bZ, bT]; rw [aC, eZ (by omega), aA]; exact fin
           · simp only [decide_eq_false h9, wJ, eD, aA, bT]; rw [aC, eZ (by omega), aA]; exact fin
         · have h9 : ¬ p.length = 9 := by omega
           simp only [decide_eq_false hp0, wJ, eD, bT, aA, dQ, cB, decide_eq_false h9]; rw [aC, eZ (by omega), aA]; exact fin
def aLS (B : cF) : Prop := ∀ (s : Ln) (h : H), bB s = true -> s.length < 140737488355328 -> B [.str s] h = some (aQT s (grp 0 s 0), h)
theorem aNJ {E : bJ} : aLS (bAC E) := by
 intro s h hs hl; have := aHz (E := E) s hs h s [] 0 (aQ - (s.length + 1)) rfl (λ _ => by simp) (by simp)
 rw [show aQ - (s.length + 1) + (s.length + 1) = aQ from by unfold aQ; omega] at this
 show aLK E (.str s) h = _; unfold aLK; rw [aY, aA, oF, aA]; exact this
def qF (st : Option (Ln)) : Nat × Option (Ln) := match st with
 | some (b :: s) => (b, some s)
 | _ => (0, none)
def fX (st : Option (Ln)) : Int × Option (Ln) := match st with
 | some s => match kG s with
   | some (n, r) => (n, some r)
   | none => (0, none)
 | none => (0, none)
def fT (st : Option (Ln)) : Ln × Option (Ln) := match st with
 | some s => match gD s with
   | some (t, r) => (t, some r)
   | none => ([], none)
 | none => ([], none)
def aCl (st : Option (Ln)) (n : Nat) : Prop := ∀ s, st = some s -> bB s = true /\ s.length <= n
theorem aAi : ∀ (s : Ln) (i acc v : Nat) (r : Ln), grp i s acc = some (v, r) -> ∃ p, s = p ++ r /\ 1 <= p.length
 | [], i, acc, v, r, h => by simp [grp] at h
 | b :: s, i, acc, v, r, h => by
   rw [grp] at h; split at h
   · cases h
   · split at h
     · cases h; exact ⟨[b], rfl, Nat.le_refl _⟩
     · obtain ⟨p, e, _⟩ := aAi s _ _ v r h; exact ⟨b :: p, by rw [e]; rfl, by simp⟩
theorem vW {s r : Ln} {n : Int} (h : kG s = some (n, r)) : ∃ p, s = p ++ r := by
 unfold kG at h; cases hg : grp 0 s 0 with
 | none => rw [hg] at h; cases h
 | some x =>
   obtain ⟨v, r'⟩ := x; rw [hg] at h; simp only [Option.map_some, Option.some.injEq, Prod.mk.injEq] at h; obtain ⟨_, rfl⟩ := h; obtain ⟨p, e, _⟩ := aAi s 0 0 v _ hg; exact ⟨p, e⟩
theorem wG {s r p : Ln} {n : Nat} (h : aCl (some s) n) (e : s = p ++ r) : aCl (some r) n := by
 obtain ⟨h1, h2⟩ := h s rfl; intro t ht; cases ht; rw [e] at h1 h2; exact ⟨aNv h1, by simp at h2; omega⟩
theorem pS (n : Nat) : aCl none n := λ s h => by cases h
theorem sT {st : Option (Ln)} {n : Nat} (h : aCl st n) : aCl (qF st).2 n := by
 match st, h with
 | none, h => exact pS n
 | some [], h => exact pS n
 | some (b :: s), h => exact wG (p := [b]) h rfl
theorem qH {st : Option (Ln)} {n : Nat} (h : aCl st n) : aCl (fX st).2 n := by
 cases st with
 | none => exact pS n
 | some s =>
   unfold fX; cases ht : kG s with
   | none => simp only [ht]; exact pS n
   | some x =>
     obtain ⟨a, r⟩ := x; obtain ⟨p, e⟩ := vW ht; simp only [ht]; exact wG h e
theorem aCk {st : Option (Ln)} {n : Nat} (h : aCl st n) : aCl (fT st).2 n := by
 cases st with
 | none => exact pS n
 | some s =>
   unfold fT; cases ht : gD s with
   | none => simp only [ht]; exact pS n
   | some x =>
     obtain ⟨a, r⟩ := x; simp only [ht]; unfold gD at ht; split at ht
     · rename_i k q hq; obtain ⟨p, e⟩ := vW hq; split at ht
       · cases ht; refine wG (p := p ++ q.take k) h ?_; rw [List.append_assoc, List.take_append_drop]; exact e
       · cases ht
     · cases ht
theorem bGL {s r : Ln} {v : Nat} (hs : bB s = true) (h : grp 0 s 0 = some (v, r)) : v < 18446744073709551616 := by
 obtain ⟨u, h1, h2, h3, _⟩ := aNI 9 0 s r 0 v rfl hs h; have hv : v = u := by simpa using h1
 subst hv
 simpa using h3
theorem bFd (c : Nat) (s : Ln) : lR (some (c :: s)) (.ofNat 1) = ([c], true, some s) := by
 show (if 1 <= (c :: s).length then ((c :: s).take 1, true, some ((c :: s).drop 1)) else ([], false, none)) = _
 rw [if_pos (by simp)]; rfl
def aCM (B : cF) : Prop := ∀ (b : Nat) (st : Option (Ln)) (h : H), aX h b (rdV st) -> aCl st 100000 -> ∃ h', B [.ptr b 0] h = some (ii ((qF st).1), h') /\ aX h' b (rdV (qF st).2) /\ zD b h h'
theorem aQC {E : bJ} (hT : bL E 109 xD) : aCM (S56 E) := by
 obtain ⟨B, hB, sB⟩ := hT.call; intro b st h hb hok; obtain ⟨h', f1, f2, f3⟩ := sB b st (.ofNat 1) h hb; refine ⟨h', ?_, ?_, f3⟩
 · show aUM E (.ptr b 0) h = _; unfold aUM; rw [hB, f1, aB, aL, aA, aK, aA]
   match st, hok with
   | none, _ => rfl
   | some [], _ => rfl
   | some (c :: s), hok =>
     have hc : c < 256 := (fS _).1 (hok _ rfl).1 c (by simp)
     have e : lR (some (c :: s)) (.ofNat 1) = ([c], true, some s) := bFd c s; rw [e, aD, mG (b := c) rfl, aA, kM, wrap_i64 (by omega), aA]; rfl
 · match st with
   | none => exact f2
   | some [] => exact f2
   | some (c :: s) =>
     have e : lR (some (c :: s)) (.ofNat 1) = ([c], true, some s) := bFd c s; rw [e] at f2; exact f2
def yY (B : cF) : Prop := ∀ (b : Nat) (st : Option (Ln)) (h : H), aX h b (rdV st) -> aCl st 100000 -> ∃ h', B [.ptr b 0] h = some (.int .i64 (fX st).1, h') /\ aX h' b (rdV (fX st).2) /\ zD b h h'
theorem aQA {E : bJ} (hG : bL E 110 aLS) (hF : bL E 111 aBM) (hT : bL E 109 xD) : yY (S57 E) := by
 obtain ⟨B1, b1, s1⟩ := hG.call; obtain ⟨B2, b2, s2⟩ := hF.call; obtain ⟨B3, b3, s3⟩ := hT.call; intro b st h hb hok; have fa : ∀ k, aI k (.ptr b 0) = some (.ptr b k) := λ k => by rw [aJ, Nat.zero_add]
 show ∃ h', aUL E (.ptr b 0) h = _ /\ _; unfold aUL; rw [cO, aA, aC]; cases st with
 | none =>
   obtain ⟨h', f1, f2, f3⟩ := s2 b none h hb; refine ⟨h', ?_, f2, f3⟩; simp only [bA, aA, fa, hb.read (j := 0) (x := .str []) rfl, b1, s1 [] h rfl (by simp), aB, grp, aQT, aL, aK, cB, decide_true]
   rw [aD, b2, f1, aB]; rfl
 | some s =>
   obtain ⟨hs, hl⟩ := hok s rfl; simp only [bA, aA, fa, hb.read (j := 0) (x := .str s) rfl, b1, s1 s h hs (by omega), aB]
   cases hg : grp 0 s 0 with
   | none =>
     obtain ⟨h', f1, f2, f3⟩ := s2 b (some s) h hb; have e : fX (some s) = (0, none) := by simp [fX, kG, hg]
     rw [e]; refine ⟨h', ?_, f2, f3⟩; simp only [aQT, aL, aK, aA, cB, decide_true]; rw [aD, b2, f1, aB]; rfl
   | some x =>
     obtain ⟨v, r⟩ := x; obtain ⟨p, ep, hp⟩ := aAi s 0 0 v r hg; have hlen : s.length - r.length = p.length := by rw [ep]; simp
     obtain ⟨h', f1, f2, f3⟩ := s3 b (some s) (.ofNat p.length) h hb; have et : lR (some s) (.ofNat p.length) = (p, true, some r) := by
       show (if p.length <= s.length then (s.take p.length, true, some (s.drop p.length)) else _) = _
       rw [if_pos (by rw [ep]; simp), ep, List.take_left, List.drop_left]
     rw [et] at f1 f2; have e : fX (some s) = (aPH v, some r) := by simp [fX, kG, hg]
     rw [e]; refine ⟨h', ?_, f2, f3⟩; have d : decide (p.length = 0) = false := by simp; intro hp0; simp [hp0] at hp
     obtain ⟨x, y, z, w, e1, e2, e3, e4, q, e5, e6⟩ := aXt (bGL hs hg); simp only [aQT, aL, aK, aA, cB, hlen, d]; rw [aC, b3, f1, aB, e1, aA, e2, aA, e3, aA, e4, aA, e5, aA, e6, aA]; rfl
def aAv (B : cF) : Prop := ∀ (b : Nat) (st : Option (Ln)) (h : H), aX h b (rdV st) -> aCl st 100000 -> ∃ h', B [.ptr b 0] h = some (.str (fT st).1, h') /\ aX h' b (rdV (fT st).2) /\ zD b h h'
theorem aME (st : Option (Ln)) : fT st = ((lR (fX st).2 (fX st).1).1, (lR (fX st).2 (fX st).1).2.2) := by
 cases st with
 | none => rfl
 | some s =>
   cases ht : kG s with
   | none => simp [fT, fX, gD, ht, lR]
   | some x =>
     obtain ⟨n, r⟩ := x; cases n with
     | negSucc k => simp [fT, fX, gD, ht, lR]
     | ofNat k =>
       by_cases hk : k <= r.length
       · have e : gD s = some (r.take k, r.drop k) := by simp [gD, ht, hk]
         have e2 : fX (some s) = (.ofNat k, some r) := by simp [fX, ht]
         have e3 : lR (some r) (.ofNat k) = (r.take k, true, some (r.drop k)) := by
           show (if k <= r.length then (r.take k, true, some (r.drop k)) else ([], false, none)) = _
           rw [if_pos hk]
         rw [e2]; show _ = ((lR (some r) (.ofNat k)).1, (lR (some r) (.ofNat k)).2.2); rw [e3]; simp [fT, e]
       · have e : gD s = none := by simp [gD, ht, hk]
         have e2 : fX (some s) = (.ofNat k, some r) := by simp [fX, ht]
         have e3 : lR (some r) (.ofNat k) = ([], false, none) := by
           show (if k <= r.length then (r.take k, true, some (r.drop k)) else ([], false, none)) = _
           rw [if_neg hk]
         rw [e2]; show _ = ((lR (some r) (.ofNat k)).1, (lR (some r) (.ofNat k)).2.2); rw [e3]; simp [fT, e]
theorem aNg {E : bJ} (hI : bL E 57 yY) (hT : bL E 109 xD) : aAv (S58 E) := by
 obtain ⟨B1, b1, s1⟩ := hI.call; obtain ⟨B2, b2, s2⟩ := hT.call; intro b st h hb hok; obtain ⟨h1, f1, f2, f3⟩ := s1 b st h hb hok; obtain ⟨h2, g1, g2, g3⟩ := s2 b _ (fX st).1 h1 f2; rw [aME]; refine ⟨h2, ?_, g2, f3.trans g3⟩; show aUK E (.ptr b 0) h = _; unfold aUK; rw [b1, f1, aB, b2, g1, aB, aL, aA, aK, aA]
def pB (st : Option (Ln)) : Nat := if st = some [] then 0 else 3
def aAw (B : cF) : Prop := ∀ (b : Nat) (st : Option (Ln)) (h : H), aX h b (rdV st) -> B [.ptr b 0] h = some (ii ((pB st)), h)
theorem aNh {E : bJ} : aAw (S59 E) := by
 intro b st h hb; have fa : ∀ k, aI k (.ptr b 0) = some (.ptr b k) := λ k => by rw [aJ, Nat.zero_add]
 show aUJ E (.ptr b 0) h = _; unfold aUJ; rw [cO, aA, aC]; cases st with
 | none =>
   simp only [bA, aA, fa, hb.read (j := 1) (x := .bool true) rfl, fL, eD, bZ]; rw [aD]; rfl
 | some s =>
   simp only [bA, aA, fa, hb.read (j := 1) (x := .bool false) rfl, dQ, hb.read (j := 0) (x := .str s) rfl, lF, bT]; cases s with
   | nil => rfl
   | cons c s => rfl
def aCN (B : cF) : Prop := ∀ (s : Ln) (h : H), ∃ h', B [.str s] h = some (.ptr h.size 0, h') /\ aX h' h.size (rdV (some s)) /\ aH h h'
theorem aQO {E : bJ} : aCN (S55 E) := by
 intro s h; have hb : dO [(.str []), (.bool false)] [(0, 1, .str s)] = some (.agg [.str s, .bool false]) := rfl; refine ⟨h.push (.blk ⟨2, 2, false, true, Tr.ofL [.str s, .bool false]⟩), ?_, aX.pushed (L := [.str s, .bool false]), aH.push h _⟩; show aUN E (.str s) h = _; unfold aUN; rw [hb, aA, hU]; rfl
def sF (s : Ln) : lV × Option (Ln) :=
 (⟨.ofNat (qF (some s)).1, (fX (qF (some s)).2).1, (fX (fX (qF (some s)).2).2).1, (fT (fX (fX (qF (some s)).2).2).2).1,
   (fT (fT (fX (fX (qF (some s)).2).2).2).2).1, (fT (fT (fT (fX (fX (qF (some s)).2).2).2).2).2).1⟩,
   (fT (fT (fT (fX (fX (qF (some s)).2).2).2).2).2).2)
theorem aIC (s : Ln) : aWI s = if pB (sF s).2 = 0 then some (sF s).1 else none := by
 have tN : fT none = ([], none) := rfl; have iN : fX none = (0, none) := rfl; have dN : pB none = 3 := rfl; unfold aWI sF; cases s with
 | nil => rfl
 | cons b s =>
   simp only [qF, aEO, Option.bind_eq_bind, Option.bind_some]; cases h2 : kG s with
   | none => simp [fX, h2, tN, dN]
   | some x2 =>
     obtain ⟨a, s2⟩ := x2; have e2 : fX (some s) = (a, some s2) := by simp [fX, h2]
     simp only [e2, Option.bind_some]; cases h3 : kG s2 with
     | none => simp [fX, h3, tN, dN]
     | some x3 =>
       obtain ⟨n, s3⟩ := x3; have e3 : fX (some s2) = (n, some s3) := by simp [fX, h3]
       simp only [e3, Option.bind_some]; cases h4 : gD s3 with
       | none => simp [fT, h4, dN]
       | some x4 =>
         obtain ⟨p, s4⟩ := x4; have e4 : fT (some s3) = (p, some s4) := by simp [fT, h4]
         simp only [e4, Option.bind_some]; cases h5 : gD s4 with
         | none => simp [fT, h5, dN]
         | some x5 =>
           obtain ⟨q, s5⟩ := x5; have e5 : fT (some s4) = (q, some s5) := by simp [fT, h5]
           simp only [e5, Option.bind_some]; cases h6 : gD s5 with
           | none => simp [fT, h6, dN]
           | some x6 =>
             obtain ⟨t, s6⟩ := x6; have e6 : fT (some s5) = (t, some s6) := by simp [fT, h6]
             simp only [e6, Option.bind_some]; cases s6 with
             | nil => simp [pB]
             | cons c s6 => simp [pB]
theorem aWJ (s : Ln) : aZh s = if pB (sF s).2 = 0 /\ gZ (sF s).1 = 0 then (sF s).1 else op0 := by
 unfold aZh; rw [aIC]; by_cases h : pB (sF s).2 = 0
 · rw [if_pos h]; by_cases c : gZ (sF s).1 = 0
   · simp [h, c]
   · simp [h, c]
 · rw [if_neg h]; simp [h]
theorem aWK (s : Ln) : aZi s = if pB (sF s).2 = 0 /\ gZ (sF s).1 = 0 then 0 else 3 := by
 unfold aZi; rw [aIC]; by_cases h : pB (sF s).2 = 0
 · rw [if_pos h]; by_cases c : gZ (sF s).1 = 0
   · simp [h, c]
   · simp [h, c]
 · rw [if_neg h]; simp [h]
theorem pR {s : Ln} {n : Nat} (h1 : bB s = true) (h2 : s.length <= n) : aCl (some s) n := λ t ht => by cases ht; exact ⟨h1, h2⟩
def aLW (B : cF) : Prop := ∀ (s : Ln) (h : H), bB s = true -> s.length <= 100000 -> ∃ h', B [.str s] h = some (.tup [.agg (kD (aZh s)), ii ((aZi s))], h') /\ aH h h'
theorem aTp : dO [(ii 0), (ii 0), (ii 0), (.str []), (.str []), (.str [])] [] = some (.agg (kD op0)) := rfl
theorem bGx (a : Nat) (b c : Int) (d e f : Ln) : dO [(ii 0), (ii 0), (ii 0), (.str []), (.str []), (.str [])] [(0, 1, ii a), (1, 1, .int .i64 b), (2, 1, .int .i64 c), (3, 1, .str d), (4, 1, .str e), (5, 1, .str f)] = some (.agg (kD ⟨.ofNat a, b, c, d, e, f⟩)) := rfl
theorem aOh {E : bJ} (hN : bL E 55 aCN) (hB : bL E 56 aCM) (hI : bL E 57 yY) (hT : bL E 58 aAv) (hD : bL E 59 aAw) (hC : bL E 17 rX) : aLW (S15 E) := by
 obtain ⟨B1, b1, s1⟩ := hN.call; obtain ⟨B2, b2, s2⟩ := hB.call; obtain ⟨B3, b3, s3⟩ := hI.call; obtain ⟨B4, b4, s4⟩ := hT.call; obtain ⟨B5, b5, s5⟩ := hD.call; obtain ⟨B6, b6, s6⟩ := hC.call; intro s h hs hl; obtain ⟨h2, e2, g2, o2⟩ : ∃ x, x = h.push (.blk ⟨6, 6, false, true, Tr.ofL (kD op0)⟩) /\ aH h x /\ aX x h.size (kD op0) := ⟨_, rfl, aH.push h _, aCo _ _ rfl⟩; have hsz2 : h2.size = h.size + 1 := by rw [e2]; exact H.size_push _ _
 obtain ⟨h4, f4, r4, g4⟩ := s1 s h2; have o4 := o2.grown g4; have lt4 := r4.1; obtain ⟨h6, f6, r6, k6⟩ := s2 _ _ h4 r4 (pR hs hl); obtain ⟨h8, f8, r8, k8⟩ := s3 _ _ h6 r6 (sT (pR hs hl)); obtain ⟨h10, f10, r10, k10⟩ := s3 _ _ h8 r8 (qH (sT (pR hs hl))); obtain ⟨h12, f12, r12, k12⟩ := s4 _ _ h10 r10 (qH (qH (sT (pR hs hl)))); obtain ⟨h14, f14, r14, k14⟩ := s4 _ _ h12 r12 (aCk (qH (qH (sT (pR hs hl))))); obtain ⟨h16, f16, r16, k16⟩ := s4 _ _ h14 r14 (aCk (aCk (qH (qH (sT (pR hs hl)))))); have k416 := k6.trans (k8.trans (k10.trans (k12.trans (k14.trans k16)))); have o16 := o4.but (by omega) k416
 obtain ⟨h19, e19, g19, o19⟩ := aO h16 6 6 (kD op0) rfl; have r19 := r16.grown g19; have hb16 : h2.size < h16.size := r16.1; obtain ⟨h21, f21, o21, k21⟩ := o19.setAll (n := 6) (cs := kD (sF s).1) rfl rfl rfl; have r21 := r19.but (by omega) k21
 have a21 : aX h21 h.size (kD op0) := (o16.grown g19).but (by omega) k21
 have f22 : B5 [.ptr h2.size 0] h21 = some (ii ((pB (sF s).2)), h21) := s5 _ _ h21 r21; have h16le : h.size <= h16.size := by omega
 have gG : aH h h21 := k21.grown ((k416.grown (g2.trans g4) (by omega)).trans g19) h16le
 have n1 : h.size ≠ h16.size := by omega
 show ∃ h', aVu E (.str s) h = _ /\ _; unfold aVu; rw [bG, show h.push (.blk ⟨6, 6, false, true, Tr.ofL [(ii 0), (ii 0), (ii 0), (.str []), (.str []), (.str [])]⟩) = h2 from e2.symm,
   b1, f4, aB, b2, f6, aB, b3, f8, aB, b3, f10, aB, b4, f12, aB, b4, f14, aB, b4, f16, aB, bGx, aA,
   bG, show h16.push (.blk ⟨6, 6, false, true, Tr.ofL [(ii 0), (ii 0), (ii 0), (.str []), (.str []), (.str [])]⟩) = h19 from e19.symm]
 have f21' := f21; unfold sF at f21'; simp only at f21'; rw [f21', aB, b5, f22, aB, bC, aA, aWJ, aWK]; by_cases hd : pB (sF s).2 = 0
 · obtain ⟨h27, f27, g27⟩ := s6 (sF s).1 h21; simp only [hd, decide_true, Bool.not_true, dQ, o21.all (n := 6) rfl, aA, b6, f27, aB, bC, bT, true_and]; have o27 := o21.grown g27; have a27 := a21.grown g27; by_cases hc : gZ (sF s).1 = 0
   · obtain ⟨h38, f38, o38, k38⟩ := a27.setAll (n := 6) (cs := kD (sF s).1) rfl rfl rfl; refine ⟨h38, ?_, k38.grown (gG.trans g27) (Nat.le_refl _)⟩; simp only [hc, decide_true, Bool.not_true]; rw [aC, o27.all (n := 6) rfl, aA, f38, aB, o38.all (n := 6) rfl, aA, if_pos True.intro, if_pos True.intro]
   · obtain ⟨h38, f38, o38, k38⟩ := a27.setAll (n := 6) (cs := kD op0) rfl rfl rfl; refine ⟨h38, ?_, k38.grown (gG.trans g27) (Nat.le_refl _)⟩; have d : (!decide (gZ (sF s).1 = 0)) = true := by simp [hc]
     rw [d, aD, aTp, aA, f38, aB, o38.all (n := 6) rfl, aA, if_neg hc, if_neg hc]
 · obtain ⟨h38, f38, o38, k38⟩ := a21.setAll (n := 6) (cs := kD op0) rfl rfl rfl; refine ⟨h38, ?_, k38.grown gG (Nat.le_refl _)⟩; have d : (!decide (pB (sF s).2 = 0)) = true := by simp [hd]
   simp only [d, fL, eD, bZ, aA]; rw [aD, aTp, aA, f38, aB, o38.all (n := 6) rfl, aA, if_neg (λ x => hd x.1), if_neg (λ x => hd x.1)]
def nK : TreeP -> List lV -> TreeP × Ln
 | T, [] => (T, [])
 | T, o :: l => ((nK (iG T o).1 l).1, (iG T o).2.1 :: (nK (iG T o).1 l).2)
theorem aNa : ∀ (T : TreeP) (l : List lV), (nK T l).2.length = l.length
 | _, [] => rfl
 | T, o :: l => by
   show ((iG T o).2.1 :: (nK (iG T o).1 l).2).length = _; rw [List.length_cons, List.length_cons, aNa _ l]
def aJZ (X : Ln) (n : Nat) : List DV := cX X ++ List.replicate (n - X.length) (ii 0)
theorem iO (X : Ln) : (cX X).length = X.length := by unfold cX; rw [List.length_map]
theorem aNU {X : Ln} {n : Nat} (h : X.length <= n) : (aJZ X n).length = n := by
 unfold aJZ; rw [List.length_append, iO, List.length_replicate]; omega
theorem aYQ {X : Ln} {n e : Nat} (h : X.length < n) : (aJZ X n).set X.length (ii e) = aJZ (X ++ [e]) n := by
 unfold aJZ; have h1 : n - X.length = (n - (X ++ [e]).length) + 1 := by rw [List.length_append, List.length_singleton]; omega
 rw [List.set_append_right _ _ (by rw [iO]; exact Nat.le_refl _), iO, Nat.sub_self, h1, List.replicate_succ, List.set_cons_zero]
 unfold cX; rw [List.map_append, List.append_assoc]; rfl
theorem aWB {X : Ln} {n : Nat} (h : X.length = n) : aJZ X n = cX X := by
 unfold aJZ; rw [h, Nat.sub_self]; exact List.append_nil _
theorem aCz {F : Nat -> Prop} {h h' : H} {b : Nat} {L : List DV} (c : bW h b L) (k : kJ F h h') (hb : ¬ F b) : bW h' b L := by
 obtain ⟨a1, pl, t, a2, a3⟩ := c; exact ⟨Nat.lt_of_lt_of_le a1 k.size, pl, t, by rw [k.get b a1 hb]; exact a2, a3⟩
theorem aKm {E : bJ} (hD : bL E 19 aBN) {l : List lV} {w : DV} {n0 t b : Nat} (hok : ∀ o ∈ l, o.ok) (hl : l.length <= 60) (hb : n0 <= b) :
   ∀ (k i m : Nat) (hh : H) (T : TreeP) (C : List DV) (FN : Nat -> Ln) (X : Ln), l.length - i = k -> i <= l.length -> RowE (λ c => c < n0) 6 hh w (oO l) -> cY hh t T C FN -> Inv i T -> ¬ Fp t FN b -> (∀ c, Fp t FN c -> n0 <= c) -> bW hh b (aJZ X l.length) -> X.length = i ->
   ∃ h' C' FN', aIT E (.ptr t 0) (.slc b 0 l.length l.length false) w (.int .i64 (.ofNat l.length)) (m + (k + 1)) (.int .i64 (.ofNat i)) hh = some (.tup [.ptr t 0, .slc b 0 l.length l.length false], h') /\ cY h' t (nK T (l.drop i)).1 C' FN' /\ bW h' b (cX (X ++ (nK T (l.drop i)).2)) /\ ¬ Fp t FN' b /\ (∀ c, Fp t FN' c -> n0 <= c) /\ kJ (λ c => n0 <= c) hh h' := by
 obtain ⟨B1, b1, s1⟩ := hD.call; intro k
 induction k with
 | zero =>
   intro i m hh T C FN X hk hi r hT hI nb lo hc hX; have : i = l.length := by omega
   refine ⟨hh, C, FN, ?_, by rw [this, List.drop_length]; exact hT, by rw [this, List.drop_length]; show bW hh b (cX (X ++ [])); rw [List.append_nil, <- aWB (n := l.length) (by omega)]; exact hc, nb, lo, kJ.refl _ _⟩
   show aPn E _ _ w _ (aIT E _ _ w _ m) _ hh = _; unfold aPn; rw [this, aP, aA, decide_eq_false (Nat.lt_irrefl _), aC]; rfl
 | succ k ih =>
   intro i m hh T C FN X hk hi r hT hI nb lo hc hX; have hlt : i < l.length := by omega
   obtain ⟨o, ho⟩ : ∃ o, l[i]? = some o := ⟨_, List.getElem?_eq_getElem hlt⟩; have hoo := hok o (List.mem_of_getElem? ho); obtain ⟨rb, ro, q1, q2, q3, q4, q5, q6, q7, q8, q9⟩ := aTn r ho .i64; obtain ⟨h5, eh5, g5, o5⟩ := aO hh 6 6 [.int .i64 (.ofNat 0), .int .i64 (.ofNat 0), .int .i64 (.ofNat 0), .str [], .str [], .str []] rfl; obtain ⟨h7, f7, o7, k7⟩ := o5.setAll (n := 6) (cs := kD o) rfl rfl rfl; have G7 : aH hh h7 := k7.grown g5 (Nat.le_refl _); have hN : n0 <= hh.size := Nat.le_trans hb (Nat.le_of_lt hc.1); obtain ⟨h10, C', FN', f10, t10, s10⟩ := s1 t T C FN i o h7 (hT.grown G7) hI (by omega) hoo
   have c7 := aCz hc (G7.off λ _ => False) (λ x => x)
   have c10 := aCz c7 s10.off nb; have zz := G7.size; have hbl : b < hh.size := hc.1; have nb' : ¬ Fp t FN' b := λ x => (s10.fp b x).elim nb λ y => by omega
   have lo' : ∀ c, Fp t FN' c -> n0 <= c := λ c hc => (s10.fp c hc).elim (lo c) λ y => by omega
   obtain ⟨h15, f15, c15, k15⟩ := c10.set (j := i) (v := .int .i64 (.ofNat (iG T o).2.1)) rfl (by rw [aNU (by omega)]; exact hlt)
   rw [<- hX, aYQ (by omega)] at c15
   have offr : kJ (λ c => n0 <= c) hh h15 := ((G7.off _).trans (s10.off.weak λ c _ hc => lo c hc)).trans (k15.off hb)
   have ed : l.drop i = o :: l.drop (i + 1) := by
     rw [List.drop_eq_getElem_cons hlt]; congr 1; rw [List.getElem?_eq_getElem hlt] at ho; exact Option.some.inj ho
   obtain ⟨h', C2, FN2, y1, y2, y3, y4, y5, y6⟩ := ih (i + 1) m h15 (iG T o).1 C' FN' (X ++ [(iG T o).2.1]) (by omega) (by omega) (aTe r offr) (t10.off (k15.off (F := λ c => c = b) rfl) (λ c hc e => nb' (e ▸ hc))) (aFK hI hoo) nb' lo' c15 (by rw [List.length_append, hX]; rfl)
   refine ⟨h', C2, FN2, ?_, by rw [ed]; exact y2, by rw [ed]; rw [List.append_assoc] at y3; exact y3, y4, y5, offr.trans y6⟩
   show aPn E _ _ w _ (aIT E _ _ w _ (m + (k + 1))) _ hh = _; unfold aPn; have ia : cD 1 (.slc b 0 l.length l.length false) (.int .i64 (.ofNat i)) = some (.ptr b i) := by
     simp only [cD, qR, dS hlt, cond_true, bD, Nat.mul_one, Nat.zero_add]
   rw [aP, aA, decide_eq_true hlt, aD, q1, aA, q9, aA, bG, <- eh5, f7, aB, o7.all (n := 6) rfl, aA, b1, f10, aB, aL, aA, aK, aA, ia, aA, f15, aB, bO (by omega), aA]
   exact y1
def xQ (B : cF) : Prop := ∀ (A : Nat -> Prop) (w : DV) (l : List lV) (h : H), RowE A 6 h w (oO l) -> (∀ o ∈ l, o.ok) -> l.length <= 60 ->
 ∃ t b h' C FN, B [w] h = some (.tup [.ptr t 0, .slc b 0 l.length l.length false], h') /\ cY h' t (nK jR l).1 C FN /\ bW h' b (cX (nK jR l).2) /\ ¬ Fp t FN b /\ (∀ c, Fp t FN c -> h.size <= c) /\ h.size <= b /\ aH h h'
theorem aRo {E : bJ} (hN : bL E 21 aBI) (hD : bL E 19 aBN) : xQ (S26 E) := by
 obtain ⟨B0, b0, s0⟩ := hN.call; intro A w l h r hok hl; obtain ⟨t, h2, C, FN, f2, t2, g2, lo⟩ := s0 h; have r2 := (yX r).grown g2; have z2 := g2.size; obtain ⟨h5, eh5⟩ : ∃ x, x = h2.push (.blk ⟨l.length, 1, false, true, Tr.full (ii 0) 48⟩) := ⟨_, rfl⟩; have g5 : aH h2 h5 := eh5 ▸ aH.push _ _; have c5 : bW h5 h2.size (List.replicate l.length (ii 0)) := eh5 ▸ bW.made (by omega)
 have hlt : ∀ c, Fp t FN c -> c < h2.size := λ c hc => t2.lt hc
 obtain ⟨h', C', FN', y1, y2, y3, y4, y5, y6⟩ := aKm (E := E) hD (n0 := h.size) hok hl z2 l.length 0 (aQ - (l.length + 1)) h5 jR C FN [] (by omega) (by omega) (r2.grown g5) (t2.grown g5) aBZ (λ x => by have := hlt _ x; omega) lo (by simpa [aJZ, cX] using c5) rfl
 rw [show aQ - (l.length + 1) + (l.length + 1) = aQ from by unfold aQ; omega] at y1
 have z5 := g5.size; refine ⟨t, h2.size, h', C', FN', ?_, by simpa using y2, by simpa using y3, y4, y5, z2, ⟨by have := y6.size; omega, λ c hc => by rw [y6.get c (by omega) (by omega), g5.get c (by omega), g2.get c hc]⟩⟩
 show aVl E w h = _; unfold aVl; rw [b0, f2, aB, yB r2, aA, aFp (by omega) (by omega), <- eh5, aA]
 exact y1
theorem aWi {h : H} {v x z : DV} {L : List DV} {bytes : Nat} (o : bS 0 h v L) (h1 : x.one = true) (hs : (L.length + 1) * bytes < aR) (hs2 : L.length + 1 < aR) :
   ∃ b' h', (∀ (R : Type) (k : DV -> H -> Option R), (fG 1 1 [z] [(0, 1, x)] h λ y h' => wK (cE 1 bytes v y h') k) = k (.slc b' 0 (L ++ [x]).length (L ++ [x]).length true) h') /\ bW h' b' (L ++ [x]) /\ h.size <= b' /\ h.size <= h'.size /\ ∀ c, c < h.size -> (∀ n, v ≠ .slc c 0 n n true) -> h'.get c = h.get c := by
 obtain ⟨h2, eh2⟩ : ∃ y, y = h.push (.blk ⟨1 * 1, 1, false, true, Tr.ofL [x]⟩) := ⟨_, rfl⟩; have z2 : h2.size = h.size + 1 := by rw [eh2]; exact H.size_push _ _
 have hp : bW h2 h.size [x] := by rw [eh2]; exact bW.pushed (h := h) (L := [x]) (pl := true)
 have hc : dR 1 h2.get (.slc h.size 0 1 1 false) = some [x] := by simpa [dR] using hp.cells_all
 have hf : gP (gM [z] 1) [(0, 1, x)] = some [x] := by
   have hc : x.cells = [x] := by cases x <;> first | rfl | cases h1
   simp [gP, gM, hc, vD]; rfl
 have step : ∀ (R : Type) (k : DV -> H -> Option R), (fG 1 1 [z] [(0, 1, x)] h λ y h' => wK (cE 1 bytes v y h') k) = wK (cE 1 bytes v (.slc h.size 0 1 1 false) h2) k := λ R k => by
   simp only [fG, hf, Option.bind_some, H.pushK_eq]; rw [eh2]
 have all1 : ([x]).all DV.one = true := by simp [h1]
 have up : ∀ o, ∀ c, c < h2.size -> (h2.push o).get c = h2.get c := λ o c hc => by rw [H.get_push, if_neg (by omega)]
 have keep : ∀ c, c < h.size -> h2.get c = h.get c := λ c hc => by rw [eh2, H.get_push, if_neg (by omega)]
 rcases o with ⟨rfl, rfl⟩ | ⟨b, hb0, rfl, hb⟩
 · refine ⟨h2.size, h2.push (.blk ⟨1, 1, false, true, Tr.ofL [x]⟩), λ R k => ?_, by simpa using bW.pushed (h := h2) (L := [x]) (pl := true), by omega, by rw [H.size_push]; omega, λ c hc _ => (up _ c (by omega)).trans (keep c hc)⟩
   rw [step, eN]; simp only [fR, hc, Option.bind_some, srcLen]; simp only [List.length_nil, Nat.zero_add] at hs hs2; rw [aAg (show 1 ≠ 0 by omega), dS hs, dS hs2]
   simp only [cond_false, Bool.and_self, cond_true, H.pushK_eq, Nat.mul_one]
   rfl
 · obtain ⟨hlt, pl, t, g1, g2⟩ := hb; have g1' : h2.get b = some (.blk ⟨L.length, 1, false, pl, t⟩) := by rw [keep b hlt]; exact g1
   refine ⟨h2.size, (h2.push (.blk ⟨(L.length + 1) * 1, 1, false, false, Tr.ofF [x] (L.length * 1) t⟩)).put b .dead, λ R k => ?_, ?_, by omega, by rw [H.size_put, H.size_push]; omega, λ c hc hn => ?_⟩
   · rw [step, eN]; simp only [fR, hc, Option.bind_some, bD, srcLen]; rw [jC (show ¬ L.length + 1 <= L.length by omega), dS hs, dS hs2]
     simp only [cond_false, Bool.and_self, cond_true, g1', all1, Nat.zero_add, Nat.mul_one, Nat.beq_refl, Bool.not_false, Nat.ble_eq_true_of_le (Nat.le_refl _), aBm, Option.bind_some, H.pushK_eq, H.putK_eq, List.length_append, List.length_singleton]
     rfl
   · refine ⟨by rw [H.size_put, H.size_push]; omega, false, Tr.ofF [x] (L.length * 1) t, ?_, λ j y hj => ?_⟩
     · rw [H.get_put, if_neg (by omega), H.get_push, if_pos rfl, List.length_append, Nat.mul_one]; rfl
     · rw [Tr.at_ofF, Nat.mul_one]; rcases Nat.lt_or_ge j L.length with hj1 | hj1
       · rw [if_neg (by omega)]
         rw [List.getElem?_append_left hj1] at hj; exact g2 j y hj
       · rw [List.getElem?_append_right hj1] at hj; have : j - L.length < 1 := by
           rcases Nat.lt_or_ge (j - L.length) 1 with h3 | h3
           · exact h3
           · rw [List.getElem?_eq_none (by simpa using h3)] at hj; cases hj
         rw [if_pos ⟨hj1, by simp; omega⟩]; exact hj
   · rw [H.get_put, if_neg (λ e => hn L.length (by rw [e])), up _ c (by omega), keep c hc]
def EA (bx b1 : Nat) (e : DV) : Nat -> Prop := λ c => c ≠ bx /\ c ≠ b1 /\ ∀ n, e ≠ .slc c 0 n n true
theorem aNt {h : H} {v : DV} {L : List DV} (o : bS 0 h v L) {c n : Nat} (e : v = .slc c 0 n n true) : c < h.size := by
 rcases o with ⟨rfl, _⟩ | ⟨b, _, rfl, hb⟩
 · cases e
 · cases e; exact hb.1
theorem aNu {h h' : H} {v : DV} {L : List DV} (o : bS 0 h v L) (hs : h.size <= h'.size) (hg : ∀ c n, v = .slc c 0 n n true -> h'.get c = h.get c) : bS 0 h' v L := by
 rcases o with o | ⟨b, b0, rfl, a1, pl, t, a2, a3⟩
 · exact .inl o
 · exact .inr ⟨b, b0, rfl, Nat.lt_of_lt_of_le a1 hs, pl, t, by rw [hg b _ rfl]; exact a2, a3⟩
theorem aJE {E : bJ} (hR : bL E 23 aEu) {l : List lV} {w : DV} {n0 b1 bx : Nat} {L1 : List DV} (hok : ∀ o ∈ l, o.ok) (hl : l.length <= 60) (hL : L1.length = 2) (hne : bx ≠ b1) (hbx : n0 <= bx) (hb1 : n0 <= b1) :
   ∀ (k i m : Nat) (hh : H) (T : TreeP) (v er : DV) (X : Ln), l.length - i = k -> i <= l.length -> RowE (λ c => c < n0) 6 hh w (oO l) -> eF (EA bx b1 er) hh v T -> Inv i T -> (∃ s, v = .agg [s, .int .i64 (.ofNat T.gen)] /\ s.one = true /\ aX hh bx [s, .int .i64 (.ofNat T.gen)]) -> aX hh b1 L1 -> bS 0 hh er (cX X) -> (∀ c n, er = .slc c 0 n n true -> c ≠ bx /\ c ≠ b1 /\ n0 <= c) -> X.length = i ->
   ∃ v' er' h', aIS E w (.ptr b1 0) (.ptr bx 0) (m + (k + 1)) er (.int .i64 (.ofNat i)) hh = some (.tup [v', er'], h') /\ eF (λ _ => True) h' v' (nK T (l.drop i)).1 /\ bS 0 h' er' (cX (X ++ (nK T (l.drop i)).2)) /\ kJ (λ c => n0 <= c) hh h' := by
 obtain ⟨B0, f0, s0⟩ := hR.call; intro k
 induction k with
 | zero =>
   intro i m hh T v er X hk hi r hR hI hv o1 oe own hX; have : i = l.length := by omega
   obtain ⟨s, ev, hs, ox⟩ := hv; have one2 : ([s, DV.int .i64 (.ofNat T.gen)]).all DV.one = true := by simp only [List.all_cons, List.all_nil, hs]; rfl
   obtain ⟨h3, f3, o3, k3⟩ := o1.setAll (n := 2) (cs := [s, .int .i64 (.ofNat T.gen)]) hL rfl one2; refine ⟨v, er, h3, ?_, by rw [this, List.drop_length]; exact (hR.move (Nat.le_of_eq k3.size.symm) (λ c hc _ => k3.get c hc.2.1) λ _ _ _ => trivial), by rw [this, List.drop_length]; show bS 0 h3 er (cX (X ++ [])); rw [List.append_nil]; exact aNu oe (Nat.le_of_eq k3.size.symm) λ c n e => k3.get c (own c n e).2.1, k3.off hb1⟩
   show aPm E w _ _ (aIS E w _ _ m) _ _ hh = _; unfold aPm; rw [this, yB r, aA, aP, aA, decide_eq_false (Nat.lt_irrefl _), aC]; unfold aVj; rw [ev, ox.all (n := 2) rfl, aA, f3, aB, o3.all (n := 2) rfl, aA]
 | succ k ih =>
   intro i m hh T v er X hk hi r hR hI hv o1 oe own hX; have hlt : i < l.length := by omega
   obtain ⟨o, ho⟩ : ∃ o, l[i]? = some o := ⟨_, List.getElem?_eq_getElem hlt⟩; have hoo := hok o (List.mem_of_getElem? ho); obtain ⟨rb, ro, q1, q2, q3, q4, q5, q6, q7, q8, q9⟩ := aTn r ho .i64; obtain ⟨s, ev, hs, ox⟩ := hv; have hxl : bx < hh.size := ox.1; have h1l : b1 < hh.size := o1.1; obtain ⟨h7, eh7, g7, o7⟩ := aO hh 2 2 [.nils, .int .i64 (.ofNat 0)] rfl; have z7 : h7.size = hh.size + 1 := by rw [eh7]; exact H.size_push _ _
   obtain ⟨A7, hA7⟩ : ∃ A7 : Nat -> Prop, A7 = λ c => (EA bx b1 er c /\ c < hh.size) \/ h7.size <= c := ⟨_, rfl⟩
   have r7 : eF A7 h7 v T := hR.move g7.size (λ c _ hc => g7.get c hc) λ c hc hl => by rw [hA7]; exact .inl ⟨hc, hl⟩
   obtain ⟨v', h9, f9, r9, g9⟩ := s0 A7 v T i o h7 r7 hI (by omega) hoo λ c hc => by rw [hA7]; exact .inr hc
   obtain ⟨s', ev', hs'⟩ := r9.agg; have one2 : ([s', DV.int .i64 (.ofNat (iG T o).1.gen)]).all DV.one = true := by simp only [List.all_cons, List.all_nil, hs']; rfl
   obtain ⟨h14, f14, o14, k14⟩ := (o7.grown g9).setAll (n := 2) (cs := [s', .int .i64 (.ofNat (iG T o).1.gen)]) rfl rfl one2; have G9 : aH hh h9 := g7.trans g9; obtain ⟨h17, f17, o17, k17⟩ := ((ox.grown G9).but (by omega) k14).setAll (n := 2) (cs := [s', .int .i64 (.ofNat (iG T o).1.gen)]) rfl rfl one2
   have z9 := g9.size; have z14 : h14.size = h9.size := k14.size; have z17 : h17.size = h14.size := k17.size; have r17 : eF A7 h17 v' (iG T o).1 := (r9.move (A' := A7) (Nat.le_of_eq z14.symm) (λ c hc _ => k14.get c λ e => by rw [hA7] at hc; rcases hc with ⟨_, x⟩ | x <;> omega) λ _ x _ => x).move (Nat.le_of_eq z17.symm) (λ c hc _ => k17.get c λ e => by rw [hA7] at hc; rcases hc with ⟨x, _⟩ | x; exact x.1 e; omega) λ _ x _ => x
   have oe17 : bS 0 h17 er (cX X) := aNu oe (by have := G9.size; omega) λ c n e => by
     have hc := aNt oe e; rw [k17.get c (own c n e).1, k14.get c (by omega), G9.get c hc]
   have o1' : aX h17 b1 L1 := (((o1.grown G9).but (by omega) k14).but (λ e => hne e.symm) k17)
   obtain ⟨b', h21, f21, c21, zb, z21, k21⟩ := aWi (x := .int .i64 (.ofNat (iG T o).2.1)) (z := .int .i64 (.ofNat 0)) (bytes := 8) oe17 rfl (by rw [iO]; unfold aR; omega) (by rw [iO]; unfold aR; omega)
   have es : cX X ++ [.int .i64 (.ofNat (iG T o).2.1)] = cX (X ++ [(iG T o).2.1]) := by unfold cX; rw [List.map_append]; rfl
   rw [es] at f21 c21; have nx : ∀ n, er ≠ .slc bx 0 n n true := λ n e => (own _ _ e).1 rfl
   have n1 : ∀ n, er ≠ .slc b1 0 n n true := λ n e => (own _ _ e).2.1 rfl
   have off21 : kJ (λ c => n0 <= c) hh h21 := ⟨by have := G9.size; omega, λ c hc hn => by
     rw [k21 c (by have := G9.size; omega) (λ n e => hn (own c n e).2.2), k17.get c (by omega), k14.get c (by omega), G9.get c hc]⟩
   have ed : l.drop i = o :: l.drop (i + 1) := by
     rw [List.drop_eq_getElem_cons hlt]; congr 1; rw [List.getElem?_eq_getElem hlt] at ho; exact Option.some.inj ho
   have lift : ∀ {b : Nat} {L : List DV}, aX h17 b L -> (∀ n, er ≠ .slc b 0 n n true) -> aX h21 b L := λ {b L} q hn => by
     obtain ⟨a1, es, t, a2, a3⟩ := q; exact ⟨by omega, es, t, by rw [k21 b a1 hn]; exact a2, a3⟩
   obtain ⟨v2, er2, h', y1, y2, y3, y4⟩ := ih (i + 1) m h21 (iG T o).1 v' (.slc b' 0 (cX (X ++ [(iG T o).2.1])).length (cX (X ++ [(iG T o).2.1])).length true) (X ++ [(iG T o).2.1]) (by omega) (by omega) (aTe r off21)
     (r17.move z21 (λ c hc hl => k21 c hl λ n e => by
       rw [hA7] at hc; rcases hc with ⟨x, _⟩ | x
       · exact x.2.2 n e
       · have := aNt oe e; omega) λ c hc hl => by
       rw [hA7] at hc; refine ⟨λ e => ?_, λ e => ?_, λ n e => by cases e; omega⟩
       · rcases hc with ⟨x, _⟩ | x
         · exact x.1 e
         · omega
       · rcases hc with ⟨x, _⟩ | x
         · exact x.2.1 e
         · omega) (aFK hI hoo) ⟨s', ev', hs', lift o17 nx⟩ (lift o1' n1) (.inr ⟨b', Nat.zero_le _, rfl, c21⟩) (λ c n e => by cases e; have := G9.size; omega) (by rw [List.length_append, hX]; rfl)
   refine ⟨v2, er2, h', ?_, by rw [ed]; exact y2, by rw [ed]; rw [List.append_assoc] at y3; exact y3, off21.trans y4⟩
   show aPm E w _ _ (aIS E w _ _ (m + (k + 1))) _ _ hh = _; unfold aPm; subst ev'; rw [yB r, aA, aP, aA, decide_eq_true hlt, aD, ox.all (n := 2) rfl, aA, q1, aA, q9, aA, bG, <- eh7, f0, <- ev, f9, aB, aL, aA, aK, aA, nR, aA, f14, aB, o14.all (n := 2) rfl, aA, f17, aB, f21, bO (by omega), aA]
   exact y1
def xE (B : cF) : Prop := ∀ (A : Nat -> Prop) (w : DV) (l : List lV) (h : H), RowE A 6 h w (oO l) -> (∀ o ∈ l, o.ok) -> l.length <= 60 ->
 ∃ v er h', B [w] h = some (.tup [v, er], h') /\ eF (λ _ => True) h' v (nK jR l).1 /\ bS 0 h' er (cX (nK jR l).2) /\ aH h h'
theorem aQy {E : bJ} (hN : bL E 22 aGb) (hR : bL E 23 aEu) : xE (S27 E) := by
 obtain ⟨B0, b0, s0⟩ := hN.call; intro A w l h r hok hl; obtain ⟨h2, eh2, g2, o2⟩ := aO h 2 2 [.nils, ii 0] rfl; have z2 : h2.size = h.size + 1 := by rw [eh2]; exact H.size_push _ _
 obtain ⟨v, h4, f4, r4, g4⟩ := s0 (λ c => h2.size <= c) h2 λ c hc => hc
 obtain ⟨s, ev, hs⟩ := r4.agg; have z4 := g4.size; obtain ⟨h6, eh6, g6, o6⟩ := aO h4 2 2 [.nils, ii 0] rfl; have one2 : ([s, ii jR.gen]).all DV.one = true := by simp only [List.all_cons, List.all_nil, hs]; rfl
 obtain ⟨h8, f8, o8, k8⟩ := o6.setAll (n := 2) (cs := [s, ii jR.gen]) rfl rfl one2; have G48 : aH h4 h8 := k8.grown g6 (Nat.le_refl _); have G8 : aH h h8 := (g2.trans g4).trans G48; obtain ⟨v', er', h', y1, y2, y3, y4⟩ := aJE (E := E) hR (n0 := h.size) (b1 := h.size) (bx := h4.size) (L1 := [.nils, ii 0]) hok hl rfl (by omega) (by omega) (Nat.le_refl _) l.length 0 (aQ - (l.length + 1)) h8 jR v .nils [] (by omega) (by omega) ((yX r).grown G8)
   ((r4.move (A' := EA h4.size h.size .nils) (Nat.le_refl _) (λ _ _ _ => rfl) λ c hc hl => ⟨by omega, by omega, λ n e => by cases e⟩).grown G48) aBZ ⟨s, ev, hs, o8⟩ ((o2.grown g4).grown G48) (.inl ⟨rfl, rfl⟩) (λ c n e => by cases e) rfl
 rw [show aQ - (l.length + 1) + (l.length + 1) = aQ from by unfold aQ; omega] at y1
 refine ⟨v', er', h', ?_, by simpa using y2, by simpa using y3, ⟨by have := y4.size; have := G8.size; omega, λ c hc => by rw [y4.get c (by have := G8.size; omega) (by omega), G8.get c hc]⟩⟩
 show aVk E w h = _; unfold aVk; rw [bG, <- eh2, b0, f4, aB, bG, <- eh6, ev, f8, aB]; exact y1
theorem aIr (T : TreeP) (i : Nat) (s : Ln) : (oV T i s).2 = 0 \/ (oV T i s).1 = T := by
 unfold oV; split
 · exact .inr rfl
 · exact .inl rfl
theorem aTs (T : TreeP) (p : Ln) (k : Nat) : (mkT T p k).2 = 0 \/ (mkT T p k).1 = T := by
 unfold mkT
 repeat' split
 all_goals first | exact .inl rfl | exact .inr rfl
theorem aMq (T : TreeP) (p : Ln) : (iL T p).2 = 0 \/ (iL T p).1 = T := by
 unfold iL
 repeat' split
 all_goals first | exact .inl rfl | exact .inr rfl
theorem aQn (T : TreeP) (p : Ln) : (kR T p).2 = 0 \/ (kR T p).1 = T := by
 unfold kR
 repeat' split
 all_goals first | exact .inl rfl | exact .inr rfl
theorem aNc (T : TreeP) (p o : Ln) : (iS T p o).2 = 0 \/ (iS T p o).1 = T := by
 unfold iS
 repeat' split
 all_goals first | exact .inl rfl | exact .inr rfl
theorem aWq (T : TreeP) (p o : Ln) : (oS T p o).2 = 0 \/ (oS T p o).1 = T := by
 unfold oS
 repeat' split
 all_goals first | exact .inl rfl | exact .inr rfl
theorem aPy (T : TreeP) (p : Ln) (a : Int) (s : Ln) : (kK T p a s).2 = 0 \/ (kK T p a s).1 = T := by
 unfold kK pW
 repeat' split
 all_goals first | exact .inl rfl | exact .inr rfl | exact aIr _ _ _
theorem aPK (T : TreeP) (p : Ln) (n : Int) : (kN T p n).2 = 0 \/ (kN T p n).1 = T := by
 unfold kN
 repeat' split
 all_goals first | exact .inl rfl | exact .inr rfl | exact aIr _ _ _
theorem bCh (T : TreeP) (o : lV) : (uN T o).2 = 0 \/ (uN T o).1 = T := by
 unfold uN; split; exact aTs _ _ _; split; exact aTs _ _ _; split; exact aMq _ _; split; exact aQn _ _; split; exact aNc _ _ _; split; exact aWq _ _ _; split; exact aPy _ _ _ _; split; exact aPK _ _ _; exact .inl rfl
theorem aOb (T : TreeP) (o : lV) (h : (iG T o).2.1 ≠ 0 \/ 9 <= o.kind) : (iG T o).1 = T := by
 unfold iG at h ⊢; split
 · rename_i e0; rw [if_pos e0] at h; split
   · rename_i k8; rw [if_pos k8] at h; rcases h with h | h
     · exact (bCh T o).resolve_left h
     · omega
   · rfl
 · rfl
theorem bCV {T : TreeP} {o : lV} (h : (iG T o).2.1 = 0) : gZ o = 0 := by
 unfold iG at h; by_cases e : gZ o = 0
 · exact e
 · rw [if_neg e] at h; exact h
theorem aYj {R : Type} (o : lV) (h : H) (k : DV -> H -> Option R) : fG 1 6 [(ii 0), (ii 0), (ii 0), (.str []), (.str []), (.str [])] [(0, 6, .agg (kD o))] h k = k (.slc h.size 0 1 1 false) (h.push (.blk ⟨6, 6, false, true, Tr.ofL (kD o)⟩)) := by
 have hf : gP (gM [(ii 0), (ii 0), (ii 0), (.str []), (.str []), (.str [])] 1) [(0, 6, .agg (kD o))] = some (kD o) := rfl; simp only [fG, hf, Option.bind_some, H.pushK_eq]
theorem wW {h h' : H} {b : Nat} {L : List DV} (c : bW h b L) (g : aH h h') : bW h' b L := aCz c (g.off λ _ => False) id
theorem aJQ {h h' : H} {v : DV} {L : List DV} (o : bS 0 h v L) (g : aH h h') : bS 0 h' v L := o.keep ⟨g.size, g.get⟩ (Nat.le_refl _)
structure aKx (E : bJ) : Prop where
 de : bL E 26 xQ
 rd : bL E 27 xE
 fw : bL E 20 aLT
 en : bL E 13 aAF
 dc : bL E 15 aLW
 tx : bL E 24 rW
 rx : bL E 25 oD
 aw : E 12 = some aGr
theorem aTh : ∀ {l : List lV} {k : Nat} {T : TreeP}, Inv k T -> (∀ o ∈ l, o.ok) -> Inv (k + l.length) (nK T l).1
 | [], _, _, h, _ => h
 | o :: l, k, T, h, ho => by
   have := aTh (l := l) (aFK h (ho o (List.mem_cons_self ..))) λ p hp => ho p (List.mem_cons_of_mem _ hp)
   rw [List.length_cons, show k + (l.length + 1) = k + 1 + l.length by omega]
   exact this
theorem aNb : ∀ (l m : List lV) (T : TreeP), (nK T (l ++ m)).1 = (nK (nK T l).1 m).1
 | [], _, _ => rfl
 | o :: l, m, T => aNb l m (iG T o).1
theorem bBW {E : bJ} (K : aKx E) {hh : H} {t bx k : Nat} {T : TreeP} {C : List DV} {FN : Nat -> Ln} {s gv : DV} {A A2 : Nat -> Prop} {G : List lV} (tT : cY hh t T C FN) (rf : eF A hh (.agg [s, ii T.gen]) T) (I : Inv k T) (hk : k <= 256) (bo : aX hh bx [s, ii T.gen]) (g : RowE A2 6 hh gv (oO G)) (hok : ∀ o ∈ G, o.ok) (hl : G.length <= 60) (e : (nK jR G).1 = T) :
   (bAU E (.ptr t 0) (.ptr bx 0) gv hh).map (·.1) = some (.bool true) := by
 obtain ⟨B0, b0, s0⟩ := K.de.call; obtain ⟨B4, b4, s4⟩ := K.tx.call; obtain ⟨B5, b5, s5⟩ := K.rx.call; have aw : ∀ m, aE E 12 [] m = some (.bool true, m) := λ m => by rw [cN K.aw]; rfl
 obtain ⟨u, b, h2, C2, FN2, f2, t2, c2, nb, lo, lb, g2⟩ := s0 A2 gv G hh g hok hl; rw [e] at t2; obtain ⟨h7, f7, g7⟩ := s4 t T C FN k h2 (tT.grown g2) I hk; have G7 := g2.trans g7; obtain ⟨h9, f9, g9⟩ := s5 A _ T k h7 (rf.grown G7) I hk; have G9 := G7.trans g9; obtain ⟨h21, f21, g21⟩ := s4 u T C2 FN2 k h9 (t2.grown (g7.trans g9)) I hk; obtain ⟨h23, f23, g23⟩ := s4 t T C FN k h21 (tT.grown (G9.trans g21)) I hk; unfold bAU; rw [b0, f2, aB, aL, aA, aK, aA, (bo.grown g2).all (n := 2) rfl, aA, b4, f7, aB, (bo.grown G7).all (n := 2) rfl, bCe (rf.grown G7), eQ, b5, f9, aB]; simp only [gI, beq_self_eq_true, aA, gT, mR, bZ, f21, f23, aB, aw, b4, Option.map_some]
theorem aOi {o : lV} (ho : o.ok) (h : gZ o = 0) : aZh (aOa o) = o /\ aZi (aOa o) = 0 := by
 unfold aOa aZh aZi; rw [if_pos h, bCW ho h]; exact ⟨if_pos h, if_pos h⟩
theorem aQk {E : bJ} (K : aKx E) {l : List lV} {w er s : DV} {h1 : H} {t b bx : Nat} {T : TreeP} {C : List DV} {FN : Nat -> Ln} {A : Nat -> Prop} {X : Ln} (hok : ∀ o ∈ l, o.ok) (hl : l.length <= 60)
   (r1 : RowE A 6 h1 w (oO l)) (c1 : bW h1 b (cX X)) (o1 : bS 0 h1 er (cX X)) (lX : X.length = l.length) (tT : cY h1 t T C FN) (rf : eF (λ _ => True) h1 (.agg [s, .int .i64 (.ofNat T.gen)]) T) (I : Inv 60 T) (bo : aX h1 bx [s, .int .i64 (.ofNat T.gen)]) :
   ∀ (k i m : Nat) (hh : H) (gv : DV) (G : List lV) (Ti : TreeP), l.length - i = k -> i <= l.length -> aH h1 hh -> jF h1.size 6 hh gv (oO G) -> (∀ o ∈ G, o.ok) -> G.length <= i -> (nK jR G).1 = Ti -> (nK Ti (l.drop i)).1 = T -> X.drop i = (nK Ti (l.drop i)).2 ->
   (aKy E w (.ptr t 0) (.slc b 0 l.length l.length false) (.ptr bx 0) er (m + (k + 1)) gv (.int .i64 (.ofNat i)) hh).map (·.1) = some (.bool true) := by
 obtain ⟨B2, b2, s2⟩ := K.en.call; obtain ⟨B3, b3, s3⟩ := K.dc.call; intro k
 induction k with
 | zero =>
   intro i m hh gv G Ti hk hi gr og gok gl eG eT eX; have : i = l.length := by omega
   subst this; rw [List.drop_length] at eT; have eG : (nK jR G).1 = T := eG.trans eT; have ll := ((wW c1 gr).row false).len; rw [iO, lX] at ll; show (bBI E w _ _ _ _ (aKy E w _ _ _ _ m) _ _ hh).map _ = _; unfold bBI; rw [ll, aA, aP, aA, decide_eq_false (Nat.lt_irrefl _), aC]; exact bBW K (tT.grown gr) (rf.grown gr) I (by omega) (bo.grown gr) (og.row (A := λ _ => True) λ _ _ _ => trivial) gok (by omega) eG
 | succ k ih =>
   intro i m hh gv G Ti hk hi gr og gok gl eG eT eX; have hlt : i < l.length := by omega
   obtain ⟨o, ho⟩ : ∃ o, l[i]? = some o := ⟨_, List.getElem?_eq_getElem hlt⟩; have hoo := hok o (List.mem_of_getElem? ho); have ed : l.drop i = o :: l.drop (i + 1) := by
     rw [List.drop_eq_getElem_cons hlt]; congr 1; rw [List.getElem?_eq_getElem hlt] at ho; exact Option.some.inj ho
   rw [ed] at eT eX; have eT : (nK (iG Ti o).1 (l.drop (i + 1))).1 = T := eT; have eX : X.drop i = (iG Ti o).2.1 :: (nK (iG Ti o).1 (l.drop (i + 1))).2 := eX; have xi : X[i]? = some (iG Ti o).2.1 := by
     have := congrArg (λ y : Ln => y[0]?) eX
     simpa using this
   have eX' : X.drop (i + 1) = (nK (iG Ti o).1 (l.drop (i + 1))).2 := by
     have := congrArg List.tail eX
     simpa using this
   obtain ⟨rb, ro, q1, q2, q3, q4, q5, q6, q7, q8, q9⟩ := aTn (r1.grown gr) ho .i64; have ll := ((wW c1 gr).row false).len; obtain ⟨cb, co, p1, p2⟩ := ((wW c1 gr).row false).at (sP xi) .i64; obtain ⟨db, dd, u1, u2⟩ := (aJQ o1 gr).row.at (sP xi) .i64; rw [iO, lX] at ll p1; have step : ∀ gv' h' G', aH h1 h' -> jF h1.size 6 h' gv' (oO G') -> (∀ o ∈ G', o.ok) -> G'.length <= i + 1 -> (nK jR G').1 = (iG Ti o).1 -> (bAT E (aKy E w (.ptr t 0) (.slc b 0 l.length l.length false) (.ptr bx 0) er (m + (k + 1))) gv' (.int .i64 (.ofNat i)) h').map (·.1) = some (.bool true) := λ gv' h' G' a1 a2 a3 a4 a5 => by
     unfold bAT; rw [bO (by omega), aA]
     exact ih (i + 1) m h' gv' G' (iG Ti o).1 (by omega) (by omega) a1 a2 a3 a4 a5 eT eX'
   show (bBI E w _ _ _ _ (aKy E w _ _ _ _ (m + (k + 1))) _ _ hh).map _ = _; unfold bBI; rw [ll, aA, aP, aA, decide_eq_true hlt, aD, p1, aA, p2, aA, u1, aA, u2, aA, bC, aA, decide_eq_true rfl, Bool.not_true, aC, aA, p2, aA, bC, aA]; by_cases e0 : (iG Ti o).2.1 = 0
   · have d0 : (!decide ((iG Ti o).2.1 = 0)) = false := by rw [e0]; rfl
     simp only [d0, dQ, q1, q2, q3, aA]; rw [show oG (.int .i64 o.kind) (.int .i64 (.ofNat 9)) = _ from aHS .i64 o.kind (.ofNat 9)]
     simp only [aA, bT]; by_cases k9 : (9 : Int) <= o.kind
     · have d9 : decide (Int.ofNat 9 <= o.kind) = true := decide_eq_true k9; rw [d9, aD]; exact step gv hh G gr og gok (by omega) (by rw [eG]; exact (aOb Ti o (.inr (by omega))).symm)
     · have d9 : decide (Int.ofNat 9 <= o.kind) = false := decide_eq_false k9; have hc := bCV e0; have e1 : bGS o = 0 := hc; obtain ⟨h27, f27, g27⟩ := s2 o hh hoo; obtain ⟨h31, f31, g31⟩ := s3 (aOa o) h27 (by unfold aOa; rw [if_pos hc]; exact (aKa hoo hc).1) (by unfold aOa; rw [if_pos hc]; have := (aKa hoo hc).2; omega)
       rw [(aOi hoo hc).1, (aOi hoo hc).2] at f31; obtain ⟨h35, eh35, g35, o35⟩ := aO h31 6 6 [(.int .i64 (.ofNat 0)), (.int .i64 (.ofNat 0)), (.int .i64 (.ofNat 0)), (.str []), (.str []), (.str [])] rfl; obtain ⟨h37, f37, o37, k37⟩ := o35.setAll (n := 6) (cs := kD o) rfl rfl rfl; obtain ⟨h46, eh46, g46, o46⟩ := aO h37 6 6 (kD o) rfl; have G46 : aH hh h46 := ((g27.trans g31).trans (k37.grown g35 (Nat.le_refl _))).trans g46; have S46 : dR 6 h46.get (.slc h37.size 0 1 1 false) = some (kD o) := by
         have := o46.cells (o := 0) (k := 6) (by simp [kD])
         exact this
       have hs46 : h1.size <= h46.size := Nat.le_trans gr.size G46.size; obtain ⟨v', h48, f48, o48, k48⟩ := (og.grown G46).app (x := .slc h37.size 0 1 1 false) (k := 1) (bytes := 72) hs46 rfl S46 rfl rfl (by omega) (λ n hn => iK (by rw [rS] at hn; omega) 72 (by omega))
       have eo : oO G ++ kD o = oO (G ++ [o]) := by unfold oO; rw [List.flatMap_append]; simp
       rw [eo] at o48; rw [d9, aC, q9, aA, b2, f27, aB, aL, aA, aK, aA, b3, f31, aB, aL, aA, aK, aA, bG, <- eh35, f37, aB, e1, bC, aA]; simp only [decide_true, Bool.not_true, dQ, bC, aA, bT]; rw [aC, o37.all (n := 6) rfl, aA, aYj, <- eh46, f48, aB]; have gr48 : aH h1 h48 := ⟨Nat.le_trans hs46 k48.size, λ c hc => by rw [k48.get c hc]; exact (gr.trans G46).get c hc⟩
       refine step v' h48 (G ++ [o]) gr48 o48 (λ p hp => ?_) (by rw [List.length_append, List.length_singleton]; omega) (by rw [aNb, eG]; rfl)
       rcases List.mem_append.1 hp with hp | hp
       · exact gok p hp
       · rw [List.mem_singleton.1 hp]; exact hoo
   · have d0 : (!decide ((iG Ti o).2.1 = 0)) = true := by rw [decide_eq_false e0]; rfl
     simp only [d0, fL, aA, bZ]; rw [aD]; exact step gv hh G gr og gok (by omega) (by rw [eG]; exact (aOb Ti o (.inl e0)).symm)
theorem aDn {E : bJ} (K : aKx E) {A : Nat -> Prop} {w : DV} {l : List lV} {h0 : H} (r : RowE A 6 h0 w (oO l)) (hok : ∀ o ∈ l, o.ok) : (S7 E [w] h0).map (·.1) = some (.bool true) := by
 obtain ⟨B0, b0, s0⟩ := K.fw.call; obtain ⟨B1, b1, s1⟩ := K.de.call; obtain ⟨B2, b2, s2⟩ := K.rd.call; have aw : ∀ m, aE E 12 [] m = some (.bool true, m) := λ m => by rw [cN K.aw]; rfl
 obtain ⟨e, fe, he⟩ := s0 A w l h0 r; show (bEV E w h0).map _ = _; unfold bEV; rw [b0, fe, aB, cB, aA]; by_cases e0 : e = 0
 · rw [decide_eq_true e0, aD, aw, aB]; rfl
 · obtain ⟨hl60, hsm⟩ := he e0; obtain ⟨t, b, h7, C, FN, f7, t7, c7, nb, lo, lb, g7⟩ := s1 A w l h0 r hok hl60; obtain ⟨v, er, h11, f11, r11, o11, g11⟩ := s2 A w l h7 (r.grown g7) hok hl60; obtain ⟨s, ev, hs⟩ := r11.agg; obtain ⟨h15, eh15, g15, o15⟩ := aO h11 2 2 [.nils, ii 0] rfl; have one2 : ([s, ii ((nK jR l).1.gen)]).all DV.one = true := by simp only [List.all_cons, List.all_nil, hs]; rfl
   obtain ⟨h17, f17, o17, k17⟩ := o15.setAll (n := 2) (cs := [s, ii ((nK jR l).1.gen)]) rfl rfl one2; have G17 : aH h11 h17 := k17.grown g15 (Nat.le_refl _); have G7 : aH h7 h17 := g11.trans G17; have ll := ((wW c7 G7).row false).len; have lr := (aJQ o11 G17).row.len; have lX := aNa jR l; rw [iO, lX] at ll lr; have := aQk K (w := w) (er := er) (h1 := h17) (A := A) hok hl60 (r.grown (g7.trans G7)) (wW c7 G7) (aJQ o11 G17) lX (t7.grown G7) (ev ▸ r11.grown G17) ((aTh aBZ hok).mono (by omega)) o17 l.length 0 (aQ - (l.length + 1)) h17 .nils [] jR (by omega) (by omega) ⟨Nat.le_refl _, λ _ _ => rfl⟩ .nil (λ _ h => nomatch h) (Nat.le_refl _) rfl rfl rfl
   rw [show aQ - (l.length + 1) + (l.length + 1) = aQ from by unfold aQ; omega] at this
   rw [decide_eq_false e0, aC, b1, f7, aB, aL, aA, aK, aA, b2, f11, aB, aL, aA, aK, aA, bG, <- eh15, ev, f17, aB, ll, aA, lr, aA, bC, aA]; simp only [decide_true, Bool.not_true, dQ, cO, aA, bT]; rw [aC]; exact this
theorem bGs (m : Nat) : bL (LD (m + 1)) 22 aGb := ⟨S22 (LD m), by kernel_rfl, λ A h hA => aIc A h hA⟩
theorem aHC (m : Nat) : bL (LD (m + 6)) 13 aAF := ⟨S13 (LD (m + 5)), by kernel_rfl, aNZ  (aAp (m + 4)) (oP (m + 4)) (aAM (m + 2)) (rD (m + 1)) (tM m) (mQ (m + 4))⟩
theorem aJR (m : Nat) : bL (LD (m + 1)) 55 aCN := ⟨S55 (LD (m + 0)), by kernel_rfl, aQO  ⟩
theorem aDO (m : Nat) : bL (LD (m + 1)) 111 aBM := ⟨bAB (LD (m + 0)), by kernel_rfl, aWz  ⟩
theorem vV (m : Nat) : bL (LD (m + 2)) 109 xD := ⟨bAD (LD (m + 1)), by kernel_rfl, aVN  (aDO m)⟩
theorem aJH (m : Nat) : bL (LD (m + 3)) 56 aCM := ⟨S56 (LD (m + 2)), by kernel_rfl, aQC  (vV m)⟩
theorem aHy (m : Nat) : bL (LD (m + 1)) 110 aLS := ⟨bAC (LD (m + 0)), by kernel_rfl, aNJ  ⟩
theorem aBi (m : Nat) : bL (LD (m + 3)) 57 yY := ⟨S57 (LD (m + 2)), by kernel_rfl, aQA  (aHy (m + 1)) (aDO (m + 1)) (vV m)⟩
theorem aHo (m : Nat) : bL (LD (m + 4)) 58 aAv := ⟨S58 (LD (m + 3)), by kernel_rfl, aNg  (aBi m) (vV (m + 1))⟩
theorem aHr (m : Nat) : bL (LD (m + 1)) 59 aAw := ⟨S59 (LD (m + 0)), by kernel_rfl, aNh  ⟩
theorem aHG (m : Nat) : bL (LD (m + 5)) 15 aLW := ⟨S15 (LD (m + 4)), by kernel_rfl, aOh  (aJR (m + 3)) (aJH (m + 1)) (aBi (m + 1)) (aHo m) (aHr (m + 3)) (aAp (m + 3))⟩
theorem aOg (m : Nat) : bL (LD (m + 11)) 19 aBN := ⟨S19 (LD (m + 10)), by kernel_rfl, aWH  (bGu m) (bRC m) (aAp (m + 9)) (aOc (m + 9))⟩
theorem aKl (m : Nat) : bL (LD (m + 12)) 26 xQ := ⟨S26 (LD (m + 11)), by kernel_rfl, aRo  (aDt (m + 9)) (aOg m)⟩
theorem aQz (m : Nat) : bL (LD (m + 11)) 23 aEu := ⟨S23 (LD (m + 10)), by kernel_rfl, aXV  (bRB m) (aNj (m + 9)) (aNl (m + 4))⟩
theorem aJD (m : Nat) : bL (LD (m + 12)) 27 xE := ⟨S27 (LD (m + 11)), by kernel_rfl, aQy  (bGs (m + 10)) (aQz m)⟩
theorem bPT (m : Nat) : aKx (LD (m + 12)) where
 de := aKl (m + 0)
 rd := aJD (m + 0)
 fw := aRc (m + 11)
 en := aHC (m + 6)
 dc := aHG (m + 7)
 tx := vQ (m + 2)
 rx := aBc (m + 8)
 aw := by kernel_rfl
end Go.Proofs.YtmafhiogonejfaaGreatDoor
end
