/- Functions told by what they compute: the sums, a device's reading, strings.Repeat by its contract, and the three that recover. No condition. -/
import Derived.Test.YthpciaidbgjoeaaGreatDe
import Derived.Test.YthpciaidbgjoeaaGreatT
import Derived.Test.YthpciaidbgjoeaaGreatShelf
import Derived.KernelRfl
set_option linter.unusedVariables false
noncomputable section
namespace Go.Proofs.YthpciaidbgjoeaaGreat
open Go.DI
theorem aKF : gN Tryz.prog 134 rR := aGt λ s c w h1 h2 => Tryz.strings_Repeat s c w h1 h2
theorem aYS (c : Nat) : xA (.int .u32 (.ofNat (c % 2))) = some (.int .u32 (.ofNat (bif Nat.beq (c % 2) 0 then 0 else 4294967295))) := by
 have h : c % 2 = 0 \/ c % 2 = 1 := by omega
 rcases h with h | h <;> rw [h] <;> rfl
theorem aAz (E : bF) (i : DV -> DV -> H -> aV) (c k : Nat) (h : H) (hc : c < 4294967296) (hk : 0 < k) (hk2 : k < 9) :
   aBe E i (.int .u32 (.ofNat c)) (.int .i64 (.ofNat k)) h = if k = 1 then some (.int .u32 (.ofNat (jE c)), h) else i (.int .u32 (.ofNat (jE c))) (.int .i64 (.ofNat (k - 1))) h := by
 have e1 := qY .u32 .u64 c 1 (by decide)
 have e2 : nX (.int .u32 (.ofNat c)) (.int .u32 (.ofNat 1)) = some (.int .u32 (.ofNat (c % 2))) := by
   rw [aAw .u32 c 1 hc (by decide), Nat.and_one_is_mod, wrap_u32 (by omega)]
 have e3 : nX (.int .u32 (.ofNat 3988292384)) (.int .u32 (.ofNat (bif Nat.beq (c % 2) 0 then 0 else 4294967295))) = some (.int .u32 (.ofNat (bif Nat.beq (c % 2) 0 then 0 else 3988292384))) := by
   cases Nat.beq (c % 2) 0 <;> rfl
 have e4 : pT (.int .u32 (.ofNat (c / 2 ^ 1))) (.int .u32 (.ofNat (bif Nat.beq (c % 2) 0 then 0 else 3988292384))) = some (.int .u32 (.ofNat (jE c))) := by
   have h1 := rY hc; rw [lH .u32 _ _ (Nat.lt_of_le_of_lt (Nat.div_le_self _ _) hc) (by cases Nat.beq (c % 2) 0 <;> decide)]
   show some (DV.int .u32 (IntKind.u32.wrap (.ofNat (jE c)))) = _; rw [wrap_u32 h1]
 have e5 : iX (.int .i64 (.ofNat k)) (.int .i64 (.ofNat 1)) = some (.int .i64 (.ofNat (k - 1))) := by
   rw [aAq, show (Int.ofNat k - Int.ofNat 1) = Int.ofNat (k - 1) from by simp only [Int.ofNat_eq_natCast]; omega, wrap_i64 (by omega)]
 have e6 : dS (.int .i64 (.ofNat (k - 1))) (.int .i64 (.ofNat 0)) = some (.bool (decide (k ≠ 1))) := by
   rw [aAu]; congr 2; rw [decide_eq_decide]; simp only [Int.ofNat_eq_natCast]; omega
 unfold aBe; rw [e1, aA, e2, aA, aYS, aA, e3, aA, e4, aA, e5, aA, e6, aA]; by_cases h1 : k = 1
 · rw [if_pos h1, show decide (k ≠ 1) = false from by simp [h1]]; rfl
 · rw [if_neg h1, show decide (k ≠ 1) = true from by simp [h1]]; rfl
theorem aLk (E : bF) (h : H) : ∀ (k n c : Nat), c < 4294967296 -> k < 8 ->
   aAX E (n + (k + 1)) (.int .u32 (.ofNat c)) (.int .i64 (.ofNat (k + 1))) h = some (.int .u32 (.ofNat (kN (k + 1) c)), h) := by
 intro k
 induction k with
 | zero =>
   intro n c hc _; show aBe E (aAX E n) _ _ h = _; rw [aAz E _ c 1 h hc (by omega) (by omega), if_pos rfl]; rfl
 | succ k ih =>
   intro n c hc hk; show aBe E (aAX E (n + (k + 1))) _ _ h = _; rw [aAz E _ c (k + 1 + 1) h hc (by omega) (by omega), if_neg (by omega)]
   exact ih n (jE c) (rY hc) (by omega)
theorem aUp (E : bF) (h : H) (c : Nat) (hc : c < 4294967296) : aKp E [.int .u32 (.ofNat c)] h = some (.int .u32 (.ofNat (kN 8 c)), h) := by
 show aBe E (aAX E aT) (.int .u32 (.ofNat c)) (.int .i64 (.ofNat 8)) h = _; rw [aAz E _ c 8 h hc (by omega) (by omega), if_neg (by omega), show aT = (aT - 7) + (6 + 1) from by unfold aT; rfl]
 exact aLk E h 6 _ _ (rY hc) (by omega)
def oN : bU := λ args h => match args with
 | [.int .u32 (.ofNat c)] => bif Nat.blt c 4294967296 then cX (kN 8 c) λ n => some (.int .u32 (.ofNat n), h) else none
 | _ => none
theorem aNi (E : bF) (args : List DV) (h : H) (r : DV × H) (e : oN args h = some r) : aKp E args h = some r := by
 unfold oN at e; split at e
 · rename_i c; obtain ⟨hc, e⟩ := aM e; rw [Nat.blt_eq] at hc; rw [aR] at e; rw [aUp E h c hc]; exact e
 · cases e
def pW (c : Nat) (s : Ln) : Nat := List.rec (motive := λ _ => Nat -> Nat) (λ c => c) (λ b _ ih c => cX (Nat.xor c b) λ c => cX (aYU c) ih) s c
theorem aGk (c b : Nat) (s : Ln) : pW c (b :: s) = pW (kN 8 (c ^^^ b)) s := by
 show (cX (Nat.xor c b) λ c => cX (aYU c) λ c => pW c s) = _
 rw [aR, aR, aYT]; rfl
theorem aLc {c b : Nat} (hc : c < 4294967296) (hb : b < 256) : c ^^^ b < 4294967296 := Nat.xor_lt_two_pow (n := 32) hc (by omega)
theorem aIT {E : bF} (hE : E 199 = some oN) (s0 : Ln) (h : H) (hl : s0.length < 4611686018427387904) (hs0 : aW s0 = true) : ∀ (s p : Ln) (n c : Nat), s0 = p ++ s -> c < 4294967296 ->
   aAY E (.str s0) (.int .i64 (.ofNat s0.length)) (n + (s.length + 1)) (.int .u32 (.ofNat c)) (.int .i64 (.ofNat p.length)) h = some (.int .u32 (.ofNat (pW c s ^^^ 4294967295)), h) := by
 intro s
 induction s with
 | nil =>
   intro p n c e hc; have hp : p.length = s0.length := by rw [e]; simp
   show aEm E _ _ (aAY E _ _ n) _ _ h = _; unfold aEm; rw [iS, aA, hp]; rw [show decide (Int.ofNat s0.length < Int.ofNat s0.length) = false from by simp, bC]
   unfold aHj; rw [lH .u32 _ _ (by decide) hc, aA, Nat.xor_comm]
   rw [wrap_u32 (Nat.xor_lt_two_pow (n := 32) hc (by decide))]; rfl
 | cons b s ih =>
   intro p n c e hc; have hb : aW (b :: s) = true := mK hs0 λ x hx => by rw [e]; exact List.mem_append_right _ hx
   simp only [aW, Bool.and_eq_true, Nat.blt_eq] at hb; have hp : p.length < s0.length := by rw [e]; simp
   show aEm E _ _ (aAY E _ _ (n + (s.length + 1))) _ _ h = _; unfold aEm; rw [iS, aA]; rw [show decide (Int.ofNat p.length < Int.ofNat s0.length) = true from by simp only [Int.ofNat_eq_natCast, decide_eq_true_iff]; omega, cZ]
   rw [mG (b := b) (by rw [e]; simp), aA, jB, aA, wrap_u32 (by omega), lH .u32 _ _ hc (by show b < 4294967296; omega), aA, wrap_u32 (aLc hc hb.1)]
   rw [aU hE]; have e8 : oN [.int .u32 (.ofNat (c ^^^ b))] h = some (.int .u32 (.ofNat (kN 8 (c ^^^ b))), h) := by
     show (bif Nat.blt (c ^^^ b) 4294967296 then cX (kN 8 (c ^^^ b)) (λ n => some (DV.int .u32 (.ofNat n), h)) else none) = _
     rw [dP (aLc hc hb.1), cond_true, aR]
   rw [e8, aZ, qZ, aA, show (Int.ofNat p.length + Int.ofNat 1) = Int.ofNat (p.length + 1) from rfl, wrap_i64 (by omega)]
   have := ih (p ++ [b]) n (kN 8 (c ^^^ b)) (by rw [e]; simp) (aBk 8 _ (aLc hc hb.1))
   rw [List.length_append] at this; rw [aGk]; exact this
theorem aZm {E : bF} (hE : E 199 = some oN) (s : Ln) (h : H) (hl : s.length < 4611686018427387904) (hs : aW s = true) (c : Nat) (hc : c < 4294967296) (hf : s.length + 1 <= aT) :
   aMr E [.int .u32 (.ofNat c), .str s] h = some (.int .u32 (.ofNat (pW (c ^^^ 4294967295) s ^^^ 4294967295)), h) := by
 show aHk E (.int .u32 (.ofNat c)) (.str s) h = _; unfold aHk; have hx : c ^^^ 4294967295 < 4294967296 := Nat.xor_lt_two_pow (n := 32) hc (by decide)
 rw [lH .u32 _ _ (by decide) hc, aA, cQ, aA, Nat.xor_comm, wrap_u32 hx]
 have := aIT hE s h hl hs s [] (aT - (s.length + 1)) (c ^^^ 4294967295) rfl hx; rw [show aT - (s.length + 1) + (s.length + 1) = aT from by omega] at this
 exact this
def qV : bU := λ args h => match args with
 | [.int .u32 (.ofNat c), .str s] => bif Nat.blt c 4294967296 && Nat.blt s.length 100000000000000 && aW s then cX (Nat.xor (pW (Nat.xor c 4294967295) s) 4294967295) λ n => some (.int .u32 (.ofNat n), h) else none
 | _ => none
theorem aSz {E : bF} (hE : E 199 = some oN) (args : List DV) (h : H) (r : DV × H) (e : qV args h = some r) : aMr E args h = some r := by
 unfold qV at e; split at e
 · rename_i c s; obtain ⟨hc, e⟩ := aM e; rw [Bool.and_eq_true, Bool.and_eq_true, Nat.blt_eq, Nat.blt_eq] at hc; rw [aR] at e; rw [aZm hE s h (by omega) hc.2 c hc.1.1 (by unfold aT; omega)]; exact e
 · cases e
def bCw : bF := gE 199 oN mV
theorem aEj : gN Tryz.prog 199 oN := ((tab.ok 199 aKp rfl).2 mV pB).mono λ args h r e => aNi _ args h r e
theorem aVa : gV Tryz.prog bCw := iO (tab.ok 199 aKp rfl).1 aEj pB
theorem aSy : gN Tryz.prog 182 qV := ((tab.ok 182 aMr rfl).2 bCw aVa).mono λ args h r e => aSz rfl args h r e
def vR : bU := λ args h => match args with
 | [.ptr b o, .int .i64 (.ofNat at_), .int .i64 (.ofNat n)] => match zH h.get b o, zH h.get b (o + 2) with
   | some (.slc b2 o2 len cap op), some (.bool false) =>
     bif Nat.ble 1 n && Nat.ble at_ len && Nat.ble n (len - at_) && Nat.ble len cap && Nat.blt len 1000000000 && Nat.blt b h.size && Nat.blt b2 h.size then
       (lQ h.get b2 (o2 + at_) n).bind λ cs => (aMi cs).bind λ s => bif Nat.ble s.length (n * 64) && aGy s then (uA s).map λ v => (.tup [v, .int .i64 (.ofNat 0)], h) else none
     else none
   | _, _ => none
 | _ => none
theorem aJY {E : bF} {h : H} {b o at_ n b2 o2 len cap : Nat} {op : Bool} (h1 : rdCell h.get b o = some (.slc b2 o2 len cap op)) (h2 : rdCell h.get b (o + 2) = some (.bool false)) (hn : 1 <= n) (ha : at_ <= len) (hl : n <= len - at_) (hs : len < 1000000000) :
   aEa E [.ptr b o, .int .i64 (.ofNat at_), .int .i64 (.ofNat n), .bool true] h = some (.int .i64 (.ofNat 0), h) := by
 show aBc E (.ptr b o) (.int .i64 (.ofNat at_)) (.int .i64 (.ofNat n)) (.bool true) h = _; unfold aBc; have e1 : dM .ptr false h.get (.ptr b o) .nilp = some (.bool false) := rfl; have e2 : aH (.ptr b o) = some (.ptr b o) := rfl; have e3 : aP 0 (.ptr b o) = some (.ptr b o) := by simp only [aP, aR, Nat.add_zero]
 have e4 : aP 2 (.ptr b o) = some (.ptr b (o + 2)) := by simp only [aP, aR]
 have e5 : aO h.get (.ptr b o) = some (.slc b2 o2 len cap op) := by simp only [aO, cH, h1]
 have e6 : aO h.get (.ptr b (o + 2)) = some (.bool false) := by simp only [aO, cH, h2]
 have e7 : bH (.slc b2 o2 len cap op) = some (.int .i64 (.ofNat len)) := rfl; have d1 : decide (Int.ofNat at_ < Int.ofNat 0) = false := by simp
 have d2 : decide (Int.ofNat n < Int.ofNat 1) = false := by simp only [Int.ofNat_eq_natCast, decide_eq_false_iff_not]; omega
 have d3 : decide (Int.ofNat len < Int.ofNat at_) = false := by simp only [Int.ofNat_eq_natCast, decide_eq_false_iff_not]; omega
 have d4 : Int.ofNat len - Int.ofNat at_ = Int.ofNat (len - at_) := by simp only [Int.ofNat_eq_natCast]; omega
 have d5 : decide (Int.ofNat (len - at_) < Int.ofNat n) = false := by simp only [Int.ofNat_eq_natCast, decide_eq_false_iff_not]; omega
 simp only [e1, aA, jX, iS, d1, eW, d2, gH, Bool.not_true, bC, e2, e3, e5, e7, aAu, d3, aAq, d4, wrap_i64 (show len - at_ < 9223372036854775808 by omega), d5, e4, e6]
theorem aIG {E : bF} {h : H} {b2 o2 n cap c : Nat} {op : Bool} (hb2 : b2 < h.size) (hn : n < 1000000000) : ∀ (rest : List DV) (k m : Nat) (acc s : Ln) (hh : H) (t : Tr DV),
   k + rest.length = n -> (∀ i v, rest[i]? = some v -> rdCell h.get b2 (o2 + (k + i)) = some v) -> aMi rest = some s -> acc.length + s.length <= c -> aW (acc ++ s) = true -> c < 1000000000000 ->
   bM h hh -> h.size < hh.size -> hh.get h.size = some (.blk ⟨c, 1, false, true, t⟩) -> (∀ j x, acc[j]? = some x -> t.at_ j = some (iK x)) ->
   ∃ hh', aFM E (.slc b2 o2 n cap op) (.int .i64 (.ofNat n)) (m + (rest.length + 1)) (.slc h.size 0 acc.length c false) (.int .i64 (.ofNat k)) hh = some (.tup [.str (acc ++ s), .int .i64 (.ofNat 0)], hh') /\ bM h hh' := by
 intro rest
 induction rest with
 | nil =>
   intro k m acc s hh t hk hc hs hl hok hcs hg hsz hB ht; cases hs; rw [List.append_nil] at hok ⊢; refine ⟨hh, ?_, hg⟩; show aKL E _ _ (aFM E _ _ m) _ _ hh = _; unfold aKL; have d1 : decide (Int.ofNat k < Int.ofNat n) = false := by simp only [Int.ofNat_eq_natCast, decide_eq_false_iff_not]; simp only [List.length_nil] at hk; omega
   have e1 : iQ hh.get (.slc h.size 0 acc.length c false) = some (.str acc) := by
     have hr : rdCells hh.get h.size 0 (aY acc).length = some (aY acc) := mI _ _ λ i v hi => by
       rw [Nat.zero_add]; unfold aY at hi; rw [List.getElem?_map] at hi; cases hx : acc[i]? with
       | none => rw [hx] at hi; cases hi
       | some x =>
         rw [hx] at hi; cases hi; have hlt : i < acc.length := by
           rcases Nat.lt_or_ge i acc.length with h1 | h1
           · exact h1
           · rw [List.getElem?_eq_none h1] at hx; cases hx
         rw [sY hB (by show i < c; simp only [List.length_nil] at hl; omega)]
         exact ht i x hx
     have hlen : (aY acc).length = acc.length := by simp [aY]
     rw [hlen] at hr; simp only [iQ, bW, hr, Option.bind_some, nI hok, fY]
   rw [iS, d1, aA, bC]; unfold aQd; rw [e1, aA]
 | cons v rest ih =>
   intro k m acc s hh t hk hc hs hl hok hcs hg hsz hB ht; have hkn : k < n := by simp only [List.length_cons] at hk; omega
   show ∃ hh', aKL E _ _ (aFM E _ _ (m + (rest.length + 1))) _ _ hh = _ /\ _; unfold aKL; have d1 : decide (Int.ofNat k < Int.ofNat n) = true := by simp only [Int.ofNat_eq_natCast, decide_eq_true_iff]; omega
   cases v <;> first | (cases hs; done) | skip
   rename_i u
   replace hs : Option.rec (motive := λ _ => Option (Ln)) none (λ t => some (aSj u t)) (aMi rest) = some s := hs
   cases hrest : aMi rest with
   | none => rw [hrest] at hs; cases hs
   | some r =>
     rw [hrest] at hs; have hs' : u ++ r = s := by have : aSj u r = s := Option.some.inj hs; rw [aHb] at this; exact this
     subst hs'; have e1 : cW 1 (.slc b2 o2 n cap op) (.int .i64 (.ofNat k)) = some (.ptr b2 (o2 + k)) := by
       simp only [cW, nU, aR]; rw [dP hkn]; simp
     have e2 : aO hh.get (.ptr b2 (o2 + k)) = some (.str u) := by
       have := hc 0 _ rfl; simp only [aO, cH]; rw [qB (hg.get b2 hb2)]; exact this
     simp only [List.length_append] at hl; obtain ⟨h1, t1, f1, f2, f3, f4, f5⟩ := qF (h := hh) (b := h.size) (o := acc.length) (vs := aY u) hB rfl (by simp [aY]; omega) (qQ u)
     have e3 : cT 1 1 (.slc h.size 0 acc.length c false) (.str u) hh = some (.slc h.size 0 (acc.length + u.length) c false, h1) := by
       rw [iI]; unfold gS; have a1 : fE (.str u) = some u.length := aR _ _; have a2 : dV 1 hh.get (.str u) = some (aY u) := rfl; rw [a1, a2]; simp only [Option.bind_some, aR]; rw [Nat.ble_eq_true_of_le (show acc.length + u.length <= c by omega), cond_true, Nat.zero_add, Nat.mul_one, f1]; rfl
     have e4 : cG (.int .i64 (.ofNat k)) (.int .i64 (.ofNat 1)) = some (.int .i64 (.ofNat (k + 1))) := by
       rw [qZ, show Int.ofNat k + Int.ofNat 1 = Int.ofNat (k + 1) from rfl, wrap_i64 (by omega)]
     rw [iS, d1, aA, cZ, e1, aA, e2, aA, e3, aZ, e4, aA]; have := ih (k + 1) m (acc ++ u) r h1 t1 (by simp only [List.length_cons] at hk; omega)
       (λ i v hi => by have := hc (i + 1) v (by simpa using hi); rw [show k + 1 + i = k + (i + 1) from by omega]; exact this) hrest (by simp only [List.length_append]; omega) (by rw [List.append_assoc]; exact hok) hcs
       ⟨by rw [f2]; exact hg.size, λ b hb => by rw [f3 b (by omega)]; exact hg.get b hb⟩ (by rw [f2]; exact hsz) f4 (λ j x hj => by
         rw [f5]; have hlen : (aY u).length = u.length := by simp [aY]
         rcases Nat.lt_or_ge j acc.length with hlt | hge
         · rw [if_neg (by omega)]
           rw [List.getElem?_append_left hlt] at hj; exact ht j x hj
         · rw [List.getElem?_append_right hge] at hj; have hlt : j - acc.length < u.length := by
             rcases Nat.lt_or_ge (j - acc.length) u.length with h1 | h1
             · exact h1
             · rw [List.getElem?_eq_none h1] at hj; cases hj
           rw [if_pos ⟨hge, by omega⟩]
           unfold aY; rw [List.getElem?_map, hj]; rfl)
     rw [List.length_append, List.append_assoc] at this; exact this
theorem aSx {E E0 : bF} (hE : E 107 = some (aEa E0)) (args : List DV) (h : H) (v : DV) (h' : H) (e : vR args h = some (v, h')) : h' = h /\ wZ v /\ ∃ h1, S73 E args h = some (v, h1) /\ bM h h1 := by
 unfold vR at e; split at e
 rotate_left
 · cases e
 rename_i b o at_ n; split at e
 rotate_left
 · cases e
 rename_i b2 o2 len cap op c1 c2; rw [cH] at c1 c2; obtain ⟨hc, e⟩ := aM e; simp only [Bool.and_eq_true, Nat.blt_eq] at hc; obtain ⟨⟨⟨⟨⟨⟨g1, g2⟩, g3⟩, g4⟩, g5⟩, g6⟩, g7⟩ := hc; have g1 := Nat.le_of_ble_eq_true g1; have g2 := Nat.le_of_ble_eq_true g2; have g3 := Nat.le_of_ble_eq_true g3; have g4 := Nat.le_of_ble_eq_true g4; rw [bW] at e; cases hcs : rdCells h.get b2 (o2 + at_) n with
 | none => rw [hcs] at e; cases e
 | some cs =>
   rw [hcs] at e; simp only [Option.bind_some] at e; cases hs : aMi cs with
   | none => rw [hs] at e; cases e
   | some s =>
     rw [hs] at e; simp only [Option.bind_some] at e; obtain ⟨hq, e⟩ := aM e; rw [Bool.and_eq_true, aAH] at hq; have q1 := Nat.le_of_ble_eq_true hq.1; rw [fY] at e; cases e; refine ⟨rfl, wZ.tup2 (wZ.str _) (wZ.int _ _), ?_⟩; obtain ⟨r1, r2⟩ := aBs hcs; show ∃ h1, aFW E (.ptr b o) (.int .i64 (.ofNat at_)) (.int .i64 (.ofNat n)) h = _ /\ _; unfold aFW; rw [aU hE, aJY c1 c2 g1 g2 g3 g5, aZ, vU]; rw [show (Int.ofNat 0 != Int.ofNat 0) = false from rfl, aA, bC, mF]
     rw [show Int.ofNat n * Int.ofNat 64 = Int.ofNat (n * 64) from rfl, wrap_i64 (by omega), aA]
     have em : ∀ k : DV -> H -> aV, kL 1 1 (.int .u8 (.ofNat 0)) (.int .i64 (.ofNat 0)) (.int .i64 (.ofNat (n * 64))) h k = k (.slc h.size 0 0 (n * 64) false) (h.push (.blk ⟨n * 64, 1, false, true, Tr.full (.int .u8 (.ofNat 0)) 48⟩)) := by
       intro k; simp only [kL]; rw [Nat.ble_eq_true_of_le (Nat.zero_le _), dP (show 1 * (n * 64) < 140737488355328 by omega), dP (show n * 64 < 140737488355328 by omega)]
       simp only [Bool.and_self, cond_true, H.pushK_eq]
     rw [em]; have e2 : aH (.ptr b o) = some (.ptr b o) := rfl; have e3 : aP 0 (.ptr b o) = some (.ptr b o) := by simp only [aP, aR, Nat.add_zero]
     have hpg := bM.push h (.blk ⟨n * 64, 1, false, true, Tr.full (.int .u8 (.ofNat 0)) 48⟩); have e5 : aO (h.push (.blk ⟨n * 64, 1, false, true, Tr.full (.int .u8 (.ofNat 0)) 48⟩)).get (.ptr b o) = some (.slc b2 o2 len cap op) := by
       simp only [aO, cH]; rw [qB (hpg.get b g6)]; exact c1
     have e6 : cG (.int .i64 (.ofNat at_)) (.int .i64 (.ofNat n)) = some (.int .i64 (.ofNat (at_ + n))) := by
       rw [qZ, show Int.ofNat at_ + Int.ofNat n = Int.ofNat (at_ + n) from rfl, wrap_i64 (by omega)]
     have e7 : fQ 1 (.slc b2 o2 len cap op) (some (.int .i64 (.ofNat at_))) (some (.int .i64 (.ofNat (at_ + n)))) = some (.slc b2 (o2 + at_) n (cap - at_) op) := by
       simp only [fQ, dG, dHi, dLo]; rw [Nat.ble_eq_true_of_le (show at_ + n <= cap by omega), cond_true, Nat.ble_eq_true_of_le (show at_ <= at_ + n by omega), cond_true, dP (show at_ < cap by omega), cond_true]
       simp only [aR, Nat.mul_one]; rw [show at_ + n - at_ = n from by omega]
     have e8 : bH (.slc b2 (o2 + at_) n (cap - at_) op) = some (.int .i64 (.ofNat n)) := rfl; rw [e2, aA, e3, aA, e5, aA, e6, aA, e7, aA, e8, aA]; obtain ⟨hh', k1, k2⟩ := aIG (E := E) (h := h) (b2 := b2) (o2 := o2 + at_) (n := n) (cap := cap - at_) (c := n * 64) (op := op) g7 (by omega) cs 0 (aT - (cs.length + 1)) [] s _ _ (by omega) (λ i v hi => by rw [Nat.zero_add]; exact r2 i v hi) hs (by simpa using q1) (by simpa using hq.2) (by omega) hpg (by simp) (by rw [H.get_push, if_pos rfl]) (λ j x hj => by simp at hj)
     rw [show aT - (cs.length + 1) + (cs.length + 1) = aT from by unfold aT; omega] at k1
     exact ⟨hh', k1, k2⟩
def aDS : bF := gE 107 (aEa mV) mV
theorem aKg : gV Tryz.prog aDS := iO (tab.ok 107 aEa rfl).1 ((tab.ok 107 aEa rfl).2 mV pB) pB
theorem aSw : gN Tryz.prog 73 vR := gN.forget ((tab.ok 73 S73 rfl).2 aDS aKg) λ args h v h' e => aSx rfl args h v h' e
def kK : bU := λ args h => Option.rec (motive := λ _ => Option (DV × H)) (S73 aDS args h) some (vR args h)
theorem aNh : gN Tryz.prog 73 kK := gN.or aSw ((tab.ok 73 S73 rfl).2 aDS aKg)
def kX : bU := λ args h => match args with
 | [.int .i64 (.ofNat n)] => bif Nat.blt n 1000000 then (uA (List.replicate n 0)).map λ v => (v, h) else none
 | _ => none
theorem aBR {n : Nat} (hn : n < 1000000) (h : H) : kX [.int .i64 (.ofNat n)] h = some (.str (List.replicate n 0), h) := by
 show (bif Nat.blt n 1000000 then (uA (List.replicate n 0)).map λ v => (v, h) else none) = _
 rw [dP hn, fY]; rfl
theorem aNc {G : bU} (h3 : ∀ (n : Nat) (h : H), n < 1000000 -> ∃ h', G [.int .i64 (.ofNat n)] h = some (.str (List.replicate n 0), h') /\ bM h h')
   (args : List DV) (h : H) (v : DV) (h' : H) (e : kX args h = some (v, h')) : h' = h /\ wZ v /\ ∃ h1, G args h = some (v, h1) /\ bM h h1 := by
 unfold kX at e; split at e
 · rename_i n; obtain ⟨hc, e⟩ := aM e; rw [Nat.blt_eq] at hc; rw [fY] at e; cases e; obtain ⟨h', e1, e2⟩ := h3 n h hc; exact ⟨rfl, wZ.str _, h', e1, e2⟩
 · cases e
theorem aSE {E : bF} (hE : E 134 = some rR) : ∀ (args : List DV) (h : H) (v : DV) (h' : H), kX args h = some (v, h') -> h' = h /\ wZ v /\ ∃ h1, S91 E args h = some (v, h1) /\ bM h h1 := by
 refine aNc λ n h hn => ⟨h, ?_, bM.refl _⟩
 show aPS E (.int .i64 (.ofNat n)) h = _; unfold aPS; rw [aU hE, aHP n (by omega), aZ]
def wY : GF := ⟨3, 16, [⟨(some p5), none, (.e (.box (.r p2)))⟩, ⟨(some p6), none, (.e (.alc 1 1 (.list [(.str [])])))⟩, ⟨(some p7), none, (.e (.alc 1 1 (.list [(.int .i64 (.ofNat 0))])))⟩], ⟨(some p8), none, (.e (.mkF (.func 141) [] [(.r p6), (.r p7)]))⟩, p8, [⟨0, ⟨(some p9), none, (.e (.mv (.r p0)))⟩, [], false⟩, ⟨1, ⟨(some mJ), none, (.e (.mv (.r p1)))⟩, [], false⟩, ⟨3, ⟨(some uC), none, (.e (.ldN 2 (.r p5)))⟩, [], false⟩], 2, (some tW), 96, [(.r p9), (.r mJ)], [3], false, [⟨4, ⟨(some tV), none, (.c (.f 142 [(.r tW), (.r uC)]))⟩, [], false⟩, ⟨5, ⟨(some xC), none, (.e (.ext 0 (.r tV)))⟩, [], false⟩, ⟨6, ⟨(some p15), none, (.e (.ext 1 (.r tV)))⟩, [], false⟩, ⟨7, ⟨none, none, (.w (.st 1 (.r p6) (.r xC)))⟩, [], false⟩, ⟨8, ⟨none, none, (.w (.st 1 (.r p7) (.r p15)))⟩, [], false⟩], [(.cell p6), (.cell p7)]⟩
theorem aQR : aDL Tryz.prog 101 wY = true := by kernel_rfl
def vT : CF := ⟨141, 8, 2, p3, p2, (.seq (.reg [⟨(some p4), none, (.e (.mv (.r p2)))⟩, ⟨(some p5), none, (.e (.eqv .nilI true (.r p4) (.c .nili)))⟩]) (.cond (.r p5) (.reg [⟨(some p6), none, (.e (.mv (.r p2)))⟩, ⟨(some p7), none, (.c (.f 95 [(.r p6)]))⟩, ⟨none, none, (.w (.st 1 (.r p0) (.c (.str []))))⟩, ⟨none, none, (.w (.st 1 (.r p1) (.r p7)))⟩]) .skip))⟩
theorem aKH : aBK Tryz.prog vT = true := by kernel_rfl
def bBe : PF := ⟨2, 27, (.sr (.reg [⟨(some p4), none, (.e (.mv (.c .nilp)))⟩]) (.sr (.reg [⟨(some p6), none, (.e (.mv (.r p0)))⟩, ⟨(some p7), none, (.e (.mv (.r p1)))⟩, ⟨(some p8), none, (.c (.f 33 [(.r p6), (.r p7)]))⟩, ⟨(some p5), none, (.e (.mv (.r p8)))⟩]) (.or (.sl (.sr (.reg [⟨(some p9), none, (.e (.mv (.r p5)))⟩, ⟨(some mJ), none, (.e (.eqv .ptr false (.r p9) (.c .nilp)))⟩]) (.cd (.r mJ) (.pan [⟨(some tW), none, (.e (.mkI 25 (.c (.int .i64 (.ofNat 1)))))⟩] (.r tW)) .no))) (.sr (.seq (.reg [⟨(some p9), none, (.e (.mv (.r p5)))⟩, ⟨(some mJ), none, (.e (.eqv .ptr false (.r p9) (.c .nilp)))⟩]) (.cond (.r mJ) (.reg [⟨(some tW), none, (.e (.mkI 25 (.c (.int .i64 (.ofNat 1)))))⟩, ⟨none, none, (.e .bad)⟩]) .skip)) (.sl (.sr (.reg [⟨(some uC), none, (.e (.mv (.r p5)))⟩, ⟨(some tV), none, (.e (.nilchk (.r uC)))⟩, ⟨(some xC), none, (.e (.fa 2 (.r tV)))⟩, ⟨(some p15), none, (.e (.ld (.r xC)))⟩, ⟨(some p16), none, (.e (.mv (.r p15)))⟩, ⟨(some p17), (some (p16, false)), (.e (.mv (.r p5)))⟩, ⟨(some p18), (some (p16, false)), (.e (.nilchk (.r p17)))⟩, ⟨(some p19), (some (p16, false)), (.e (.fa 3 (.r p18)))⟩, ⟨(some p20), (some (p16, false)), (.e (.ld (.r p19)))⟩, ⟨(some p21), none, (.e (.pick (.r p16) (.c (.bool true)) (.r p20)))⟩]) (.cd (.r p21) (.pan [⟨(some p22), none, (.e (.mkI 25 (.c (.int .i64 (.ofNat 8)))))⟩] (.r p22)) .no)))))))⟩
theorem bBd : aUT Tryz.prog 96 bBe = true := by kernel_rfl
def G63 : GF := ⟨4, 16, [⟨(some p6), none, (.e (.box (.r p2)))⟩, ⟨(some p8), none, (.e (.alc 1 1 (.list [(.int .i64 (.ofNat 0))])))⟩], ⟨(some p9), none, (.e (.mkF (.func 94) [] [(.r p8)]))⟩, p9, [⟨0, ⟨(some mJ), none, (.e (.mv (.r p0)))⟩, [], false⟩, ⟨1, ⟨(some tW), none, (.e (.mv (.r p1)))⟩, [], false⟩, ⟨3, ⟨(some tV), none, (.e (.ldN 2 (.r p6)))⟩, [], false⟩, ⟨4, ⟨(some xC), none, (.e (.mv (.r p3)))⟩, [], false⟩], 2, (some uC), 96, [(.r mJ), (.r tW)], [3], false, [⟨5, ⟨(some p15), none, (.c (.f 97 [(.r uC), (.r tV), (.r xC), (.c (.int .i64 (.negSucc 0)))]))⟩, [], false⟩, ⟨6, ⟨none, none, (.w (.st 1 (.r p8) (.r p15)))⟩, [], false⟩], [(.cell p8)]⟩
theorem aXO : aDL Tryz.prog 63 G63 = true := by kernel_rfl
def aSA : CF := ⟨94, 7, 1, p2, p1, (.seq (.reg [⟨(some p3), none, (.e (.mv (.r p1)))⟩, ⟨(some p4), none, (.e (.eqv .nilI true (.r p3) (.c .nili)))⟩]) (.cond (.r p4) (.reg [⟨(some p5), none, (.e (.mv (.r p1)))⟩, ⟨(some p6), none, (.c (.f 95 [(.r p5)]))⟩, ⟨none, none, (.w (.st 1 (.r p0) (.r p6)))⟩]) .skip))⟩
theorem aQT : aBK Tryz.prog aSA = true := by kernel_rfl
def aVb : bF := gE 134 rR mV
def pJ : bF := gE 73 kK (gE 182 qV (gE 199 oN (gE 91 kX aVb)))
def EG : bF := SE pJ table aT
def wQ : bU := bDL EG bBe
def qK : bU := λ args h => Option.rec (motive := λ _ => Option (DV × H)) (aRO EG wQ wY vT args h) some (xE EG wY vT args h)
def wP : bU := λ args h => Option.rec (motive := λ _ => Option (DV × H)) (aRO EG wQ G63 aSA args h) some (xE EG G63 aSA args h)
def aOH : bF := gE 101 qK (gE 63 wP pJ)
def base : bF := gE 7 tU aOH
theorem aKj : gV Tryz.prog aVb := iO (by kernel_rfl) aKF pB
theorem aNb : gN Tryz.prog 91 kX := gN.forget ((tab.ok 91 S91 (by kernel_rfl)).2 aVb aKj) (aSE (by kernel_rfl))
theorem aKi : gV Tryz.prog pJ := iO (tab.ok 73 S73 rfl).1 aNh (iO (tab.ok 182 aMr rfl).1 aSy (iO (tab.ok 199 aKp rfl).1 aEj (iO (tab.ok 91 S91 (by kernel_rfl)).1 aNb aKj)))
theorem aKG : gV Tryz.prog EG := aVn aKi tab aT
theorem aEi : aHe Tryz.prog 96 wQ := aRU aKG bBd
theorem aNf : gN Tryz.prog 101 qK := gN.or (aBD aKG aQR aKH) (aDi aKG aEi aQR aKH)
theorem aNe : gN Tryz.prog 63 wP := gN.or (aBD aKG aXO aQT) (aDi aKG aEi aXO aQT)
theorem aKh : gV Tryz.prog aOH := iO (by kernel_rfl) aNf (iO (by kernel_rfl) aNe aKi)
theorem aSh : (S7 (SE aOH table aT) [] H0).map (λ x => x.1) = some (.bool true) := by kernel_rfl
theorem aNj : gN Tryz.prog 7 tU := aLh (B := aOH) (n := aT) aKh tab (show Tr.at_ table 7 = some S7 by kernel_rfl) aSh
theorem bAA : gV Tryz.prog base := iO (tab.ok 7 S7 rfl).1 aNj aKh
end Go.Proofs.YthpciaidbgjoeaaGreat
end
