/- Functions told by what they compute: the sums, a device's reading, strings.Repeat by its contract, and the three that recover. No condition. -/
import Derived.Test.YthpciaidbgjoeaaGreatDe
import Derived.Test.YthpciaidbgjoeaaGreatT
import Derived.Test.YthpciaidbgjoeaaGreatShelf
import Derived.KernelRfl
set_option linter.unusedVariables false
noncomputable section
namespace Go.Proofs.YthpciaidbgjoeaaGreat
open Go.DI
theorem aKU : fS Tryz.prog 134 rQ := aGE λ s c w h1 h2 => Tryz.strings_Repeat s c w h1 h2
theorem bAX (c : Nat) : wY (.int .u32 (.ofNat (c % 2))) = some (.int .u32 (.ofNat (bif Nat.beq (c % 2) 0 then 0 else 4294967295))) := by
 have h : c % 2 = 0 \/ c % 2 = 1 := by omega
 rcases h with h | h <;> rw [h] <;> rfl
theorem aAA (E : aQ) (i : DV -> DV -> H -> aL) (c k : Nat) (h : H) (hc : c < 4294967296) (hk : 0 < k) (hk2 : k < 9) :
   aBe E i (.int .u32 (.ofNat c)) (.int .i64 (.ofNat k)) h = if k = 1 then some (.int .u32 (.ofNat (iV c)), h) else i (.int .u32 (.ofNat (iV c))) (.int .i64 (.ofNat (k - 1))) h := by
 have e1 := qU .u32 .u64 c 1 (by decide)
 have e2 : qV (.int .u32 (.ofNat c)) (.int .u32 (.ofNat 1)) = some (.int .u32 (.ofNat (c % 2))) := by
   rw [aAx .u32 c 1 hc (by decide), Nat.and_one_is_mod, wrap_u32 (by omega)]
 have e3 : qV (.int .u32 (.ofNat 3988292384)) (.int .u32 (.ofNat (bif Nat.beq (c % 2) 0 then 0 else 4294967295))) = some (.int .u32 (.ofNat (bif Nat.beq (c % 2) 0 then 0 else 3988292384))) := by
   cases Nat.beq (c % 2) 0 <;> rfl
 have e4 : pS (.int .u32 (.ofNat (c / 2 ^ 1))) (.int .u32 (.ofNat (bif Nat.beq (c % 2) 0 then 0 else 3988292384))) = some (.int .u32 (.ofNat (iV c))) := by
   have h1 := rW hc; rw [lG .u32 _ _ (Nat.lt_of_le_of_lt (Nat.div_le_self _ _) hc) (by cases Nat.beq (c % 2) 0 <;> decide)]
   show some (DV.int .u32 (IntKind.u32.wrap (.ofNat (iV c)))) = _; rw [wrap_u32 h1]
 have e5 : kI (.int .i64 (.ofNat k)) (.int .i64 (.ofNat 1)) = some (.int .i64 (.ofNat (k - 1))) := by
   rw [aAu, show (Int.ofNat k - Int.ofNat 1) = Int.ofNat (k - 1) from by simp only [Int.ofNat_eq_natCast]; omega, wrap_i64 (by omega)]
 have e6 : dO (.int .i64 (.ofNat (k - 1))) (.int .i64 (.ofNat 0)) = some (.bool (decide (k ≠ 1))) := by
   rw [aAw]; congr 2; rw [decide_eq_decide]; simp only [Int.ofNat_eq_natCast]; omega
 unfold aBe; rw [e1, aA, e2, aA, bAX, aA, e3, aA, e4, aA, e5, aA, e6, aA]; by_cases h1 : k = 1
 · rw [if_pos h1, show decide (k ≠ 1) = false from by simp [h1]]; rfl
 · rw [if_neg h1, show decide (k ≠ 1) = true from by simp [h1]]; rfl
theorem aLC (E : aQ) (h : H) : ∀ (k n c : Nat), c < 4294967296 -> k < 8 ->
   aAU E (n + (k + 1)) (.int .u32 (.ofNat c)) (.int .i64 (.ofNat (k + 1))) h = some (.int .u32 (.ofNat (kJ (k + 1) c)), h) := by
 intro k
 induction k with
 | zero =>
   intro n c hc _; show aBe E (aAU E n) _ _ h = _; rw [aAA E _ c 1 h hc (by omega) (by omega), if_pos rfl]; rfl
 | succ k ih =>
   intro n c hc hk; show aBe E (aAU E (n + (k + 1))) _ _ h = _; rw [aAA E _ c (k + 1 + 1) h hc (by omega) (by omega), if_neg (by omega)]
   exact ih n (iV c) (rW hc) (by omega)
theorem aVL (E : aQ) (h : H) (c : Nat) (hc : c < 4294967296) : aKC E [.int .u32 (.ofNat c)] h = some (.int .u32 (.ofNat (kJ 8 c)), h) := by
 show aBe E (aAU E aK) (.int .u32 (.ofNat c)) (.int .i64 (.ofNat 8)) h = _; rw [aAA E _ c 8 h hc (by omega) (by omega), if_neg (by omega), show aK = (aK - 7) + (6 + 1) from by unfold aK; rfl]
 exact aLC E h 6 _ _ (rW hc) (by omega)
def oI : bC := λ args h => match args with
 | [.int .u32 (.ofNat c)] => bif Nat.blt c 4294967296 then cR (kJ 8 c) λ n => some (.int .u32 (.ofNat n), h) else none
 | _ => none
theorem aNF (E : aQ) (args : List DV) (h : H) (r : DV × H) (e : oI args h = some r) : aKC E args h = some r := by
 unfold oI at e; split at e
 · rename_i c; obtain ⟨hc, e⟩ := aI e; rw [Nat.blt_eq] at hc; rw [aM] at e; rw [aVL E h c hc]; exact e
 · cases e
def pV (c : Nat) (s : Ln) : Nat := List.rec (motive := λ _ => Nat -> Nat) (λ c => c) (λ b _ ih c => cR (Nat.xor c b) λ c => cR (bAZ c) ih) s c
theorem aGt (c b : Nat) (s : Ln) : pV c (b :: s) = pV (kJ 8 (c ^^^ b)) s := by
 show (cR (Nat.xor c b) λ c => cR (bAZ c) λ c => pV c s) = _
 rw [aM, aM, bAY]; rfl
theorem aLt {c b : Nat} (hc : c < 4294967296) (hb : b < 256) : c ^^^ b < 4294967296 := Nat.xor_lt_two_pow (n := 32) hc (by omega)
theorem aJj {E : aQ} (hE : E 199 = some oI) (s0 : Ln) (h : H) (hl : s0.length < 4611686018427387904) (hs0 : aP s0 = true) : ∀ (s p : Ln) (n c : Nat), s0 = p ++ s -> c < 4294967296 ->
   aAV E (.str s0) (.int .i64 (.ofNat s0.length)) (n + (s.length + 1)) (.int .u32 (.ofNat c)) (.int .i64 (.ofNat p.length)) h = some (.int .u32 (.ofNat (pV c s ^^^ 4294967295)), h) := by
 intro s
 induction s with
 | nil =>
   intro p n c e hc; have hp : p.length = s0.length := by rw [e]; simp
   show aEu E _ _ (aAV E _ _ n) _ _ h = _; unfold aEu; rw [jA, aA, hp]; rw [show decide (Int.ofNat s0.length < Int.ofNat s0.length) = false from by simp, aW]
   unfold aHy; rw [lG .u32 _ _ (by decide) hc, aA, Nat.xor_comm]
   rw [wrap_u32 (Nat.xor_lt_two_pow (n := 32) hc (by decide))]; rfl
 | cons b s ih =>
   intro p n c e hc; have hb : aP (b :: s) = true := rD hs0 λ x hx => by rw [e]; exact List.mem_append_right _ hx
   simp only [aP, Bool.and_eq_true, Nat.blt_eq] at hb; have hp : p.length < s0.length := by rw [e]; simp
   show aEu E _ _ (aAV E _ _ (n + (s.length + 1))) _ _ h = _; unfold aEu; rw [jA, aA]; rw [show decide (Int.ofNat p.length < Int.ofNat s0.length) = true from by simp only [Int.ofNat_eq_natCast, decide_eq_true_iff]; omega, cT]
   rw [mI (b := b) (by rw [e]; simp), aA, fM, aA, wrap_u32 (by omega), lG .u32 _ _ hc (by show b < 4294967296; omega), aA, wrap_u32 (aLt hc hb.1)]
   rw [aT hE]; have e8 : oI [.int .u32 (.ofNat (c ^^^ b))] h = some (.int .u32 (.ofNat (kJ 8 (c ^^^ b))), h) := by
     show (bif Nat.blt (c ^^^ b) 4294967296 then cR (kJ 8 (c ^^^ b)) (λ n => some (DV.int .u32 (.ofNat n), h)) else none) = _
     rw [dK (aLt hc hb.1), cond_true, aM]
   rw [e8, aV, qW, aA, show (Int.ofNat p.length + Int.ofNat 1) = Int.ofNat (p.length + 1) from rfl, wrap_i64 (by omega)]
   have := ih (p ++ [b]) n (kJ 8 (c ^^^ b)) (by rw [e]; simp) (aBj 8 _ (aLt hc hb.1))
   rw [List.length_append] at this; rw [aGt]; exact this
theorem bBB {E : aQ} (hE : E 199 = some oI) (s : Ln) (h : H) (hl : s.length < 4611686018427387904) (hs : aP s = true) (c : Nat) (hc : c < 4294967296) (hf : s.length + 1 <= aK) :
   aMM E [.int .u32 (.ofNat c), .str s] h = some (.int .u32 (.ofNat (pV (c ^^^ 4294967295) s ^^^ 4294967295)), h) := by
 show aHz E (.int .u32 (.ofNat c)) (.str s) h = _; unfold aHz; have hx : c ^^^ 4294967295 < 4294967296 := Nat.xor_lt_two_pow (n := 32) hc (by decide)
 rw [lG .u32 _ _ (by decide) hc, aA, cQ, aA, Nat.xor_comm, wrap_u32 hx]
 have := aJj hE s h hl hs s [] (aK - (s.length + 1)) (c ^^^ 4294967295) rfl hx; rw [show aK - (s.length + 1) + (s.length + 1) = aK from by omega] at this
 exact this
def qR : bC := λ args h => match args with
 | [.int .u32 (.ofNat c), .str s] => bif Nat.blt c 4294967296 && Nat.blt s.length 100000000000000 && aP s then cR (Nat.xor (pV (Nat.xor c 4294967295) s) 4294967295) λ n => some (.int .u32 (.ofNat n), h) else none
 | _ => none
theorem aTH {E : aQ} (hE : E 199 = some oI) (args : List DV) (h : H) (r : DV × H) (e : qR args h = some r) : aMM E args h = some r := by
 unfold qR at e; split at e
 · rename_i c s; obtain ⟨hc, e⟩ := aI e; rw [Bool.and_eq_true, Bool.and_eq_true, Nat.blt_eq, Nat.blt_eq] at hc; rw [aM] at e; rw [bBB hE s h (by omega) hc.2 c hc.1.1 (by unfold aK; omega)]; exact e
 · cases e
def bFj : aQ := fY 199 oI mU
theorem aEr : fS Tryz.prog 199 oI := ((tab.ok 199 aKC rfl).2 mU oX).mono λ args h r e => aNF _ args h r e
theorem aWy : gN Tryz.prog bFj := iH (tab.ok 199 aKC rfl).1 aEr oX
theorem aTG : fS Tryz.prog 182 qR := ((tab.ok 182 aMM rfl).2 bFj aWy).mono λ args h r e => aTH rfl args h r e
def vM : bC := λ args h => match args with
 | [.ptr b o, .int .i64 (.ofNat at_), .int .i64 (.ofNat n)] => match zJ h.get b o, zJ h.get b (o + 2) with
   | some (.slc b2 o2 len cap op), some (.bool false) =>
     bif Nat.ble 1 n && Nat.ble at_ len && Nat.ble n (len - at_) && Nat.ble len cap && Nat.blt len 1000000000 && Nat.blt b h.size && Nat.blt b2 h.size then
       (lS h.get b2 (o2 + at_) n).bind λ cs => (aMA cs).bind λ s => bif Nat.ble s.length (n * 64) && aGK s then (tU s).map λ v => (.tup [v, .int .i64 (.ofNat 0)], h) else none
     else none
   | _, _ => none
 | _ => none
theorem aKl {E : aQ} {h : H} {b o at_ n b2 o2 len cap : Nat} {op : Bool} (h1 : rdCell h.get b o = some (.slc b2 o2 len cap op)) (h2 : rdCell h.get b (o + 2) = some (.bool false)) (hn : 1 <= n) (ha : at_ <= len) (hl : n <= len - at_) (hs : len < 1000000000) :
   aEh E [.ptr b o, .int .i64 (.ofNat at_), .int .i64 (.ofNat n), .bool true] h = some (.int .i64 (.ofNat 0), h) := by
 show aAZ E (.ptr b o) (.int .i64 (.ofNat at_)) (.int .i64 (.ofNat n)) (.bool true) h = _; unfold aAZ; have e1 : cM .ptr false h.get (.ptr b o) .nilp = some (.bool false) := rfl; have e2 : aC (.ptr b o) = some (.ptr b o) := rfl; have e3 : aG 0 (.ptr b o) = some (.ptr b o) := by simp only [aG, aM, Nat.add_zero]
 have e4 : aG 2 (.ptr b o) = some (.ptr b (o + 2)) := by simp only [aG, aM]
 have e5 : aF h.get (.ptr b o) = some (.slc b2 o2 len cap op) := by simp only [aF, bX, h1]
 have e6 : aF h.get (.ptr b (o + 2)) = some (.bool false) := by simp only [aF, bX, h2]
 have e7 : aO (.slc b2 o2 len cap op) = some (.int .i64 (.ofNat len)) := rfl; have d1 : decide (Int.ofNat at_ < Int.ofNat 0) = false := by simp
 have d2 : decide (Int.ofNat n < Int.ofNat 1) = false := by simp only [Int.ofNat_eq_natCast, decide_eq_false_iff_not]; omega
 have d3 : decide (Int.ofNat len < Int.ofNat at_) = false := by simp only [Int.ofNat_eq_natCast, decide_eq_false_iff_not]; omega
 have d4 : Int.ofNat len - Int.ofNat at_ = Int.ofNat (len - at_) := by simp only [Int.ofNat_eq_natCast]; omega
 have d5 : decide (Int.ofNat (len - at_) < Int.ofNat n) = false := by simp only [Int.ofNat_eq_natCast, decide_eq_false_iff_not]; omega
 simp only [e1, aA, jO, jA, d1, eJ, d2, gI, Bool.not_true, aW, e2, e3, e5, e7, aAw, d3, aAu, d4, wrap_i64 (show len - at_ < 9223372036854775808 by omega), d5, e4, e6]
theorem aIW {E : aQ} {h : H} {b2 o2 n cap c : Nat} {op : Bool} (hb2 : b2 < h.size) (hn : n < 1000000000) : ∀ (rest : List DV) (k m : Nat) (acc s : Ln) (hh : H) (t : Tr DV),
   k + rest.length = n -> (∀ i v, rest[i]? = some v -> rdCell h.get b2 (o2 + (k + i)) = some v) -> aMA rest = some s -> acc.length + s.length <= c -> aP (acc ++ s) = true -> c < 1000000000000 ->
   aX h hh -> h.size < hh.size -> hh.get h.size = some (.blk ⟨c, 1, false, true, t⟩) -> (∀ j x, acc[j]? = some x -> t.at_ j = some (iD x)) ->
   ∃ hh', aFT E (.slc b2 o2 n cap op) (.int .i64 (.ofNat n)) (m + (rest.length + 1)) (.slc h.size 0 acc.length c false) (.int .i64 (.ofNat k)) hh = some (.tup [.str (acc ++ s), .int .i64 (.ofNat 0)], hh') /\ aX h hh' := by
 intro rest
 induction rest with
 | nil =>
   intro k m acc s hh t hk hc hs hl hok hcs hg hsz hB ht; cases hs; rw [List.append_nil] at hok ⊢; refine ⟨hh, ?_, hg⟩; show aKZ E _ _ (aFT E _ _ m) _ _ hh = _; unfold aKZ; have d1 : decide (Int.ofNat k < Int.ofNat n) = false := by simp only [Int.ofNat_eq_natCast, decide_eq_false_iff_not]; simp only [List.length_nil] at hk; omega
   have e1 : kF hh.get (.slc h.size 0 acc.length c false) = some (.str acc) := by
     have hr : rdCells hh.get h.size 0 (bV acc).length = some (bV acc) := mK _ _ λ i v hi => by
       rw [Nat.zero_add]; unfold bV at hi; rw [List.getElem?_map] at hi; cases hx : acc[i]? with
       | none => rw [hx] at hi; cases hi
       | some x =>
         rw [hx] at hi; cases hi; have hlt : i < acc.length := by
           rcases Nat.lt_or_ge i acc.length with h1 | h1
           · exact h1
           · rw [List.getElem?_eq_none h1] at hx; cases hx
         rw [oW hB (by show i < c; simp only [List.length_nil] at hl; omega)]
         exact ht i x hx
     have hlen : (bV acc).length = acc.length := by simp [bV]
     rw [hlen] at hr; simp only [kF, bP, hr, Option.bind_some, nE hok, fI]
   rw [jA, d1, aA, aW]; unfold aQW; rw [e1, aA]
 | cons v rest ih =>
   intro k m acc s hh t hk hc hs hl hok hcs hg hsz hB ht; have hkn : k < n := by simp only [List.length_cons] at hk; omega
   show ∃ hh', aKZ E _ _ (aFT E _ _ (m + (rest.length + 1))) _ _ hh = _ /\ _; unfold aKZ; have d1 : decide (Int.ofNat k < Int.ofNat n) = true := by simp only [Int.ofNat_eq_natCast, decide_eq_true_iff]; omega
   cases v <;> first | (cases hs; done) | skip
   rename_i u
   replace hs : Option.rec (motive := λ _ => Option (Ln)) none (λ t => some (aTn u t)) (aMA rest) = some s := hs
   cases hrest : aMA rest with
   | none => rw [hrest] at hs; cases hs
   | some r =>
     rw [hrest] at hs; have hs' : u ++ r = s := by have : aTn u r = s := Option.some.inj hs; rw [aHq] at this; exact this
     subst hs'; have e1 : bY 1 (.slc b2 o2 n cap op) (.int .i64 (.ofNat k)) = some (.ptr b2 (o2 + k)) := by
       simp only [bY, nR, aM]; rw [dK hkn]; simp
     have e2 : aF hh.get (.ptr b2 (o2 + k)) = some (.str u) := by
       have := hc 0 _ rfl; simp only [aF, bX]; rw [mZ (hg.get b2 hb2)]; exact this
     simp only [List.length_append] at hl; obtain ⟨h1, t1, f1, f2, f3, f4, f5⟩ := qB (h := hh) (b := h.size) (o := acc.length) (vs := bV u) hB rfl (by simp [bV]; omega) (xG u)
     have e3 : cJ 1 1 (.slc h.size 0 acc.length c false) (.str u) hh = some (.slc h.size 0 (acc.length + u.length) c false, h1) := by
       rw [iT]; unfold iB; have a1 : eZ (.str u) = some u.length := aM _ _; have a2 : dV 1 hh.get (.str u) = some (bV u) := rfl; rw [a1, a2]; simp only [Option.bind_some, aM]; rw [Nat.ble_eq_true_of_le (show acc.length + u.length <= c by omega), cond_true, Nat.zero_add, Nat.mul_one, f1]; rfl
     have e4 : bW (.int .i64 (.ofNat k)) (.int .i64 (.ofNat 1)) = some (.int .i64 (.ofNat (k + 1))) := by
       rw [qW, show Int.ofNat k + Int.ofNat 1 = Int.ofNat (k + 1) from rfl, wrap_i64 (by omega)]
     rw [jA, d1, aA, cT, e1, aA, e2, aA, e3, aV, e4, aA]; have := ih (k + 1) m (acc ++ u) r h1 t1 (by simp only [List.length_cons] at hk; omega)
       (λ i v hi => by have := hc (i + 1) v (by simpa using hi); rw [show k + 1 + i = k + (i + 1) from by omega]; exact this) hrest (by simp only [List.length_append]; omega) (by rw [List.append_assoc]; exact hok) hcs
       ⟨by rw [f2]; exact hg.size, λ b hb => by rw [f3 b (by omega)]; exact hg.get b hb⟩ (by rw [f2]; exact hsz) f4 (λ j x hj => by
         rw [f5]; have hlen : (bV u).length = u.length := by simp [bV]
         rcases Nat.lt_or_ge j acc.length with hlt | hge
         · rw [if_neg (by omega)]
           rw [List.getElem?_append_left hlt] at hj; exact ht j x hj
         · rw [List.getElem?_append_right hge] at hj; have hlt : j - acc.length < u.length := by
             rcases Nat.lt_or_ge (j - acc.length) u.length with h1 | h1
             · exact h1
             · rw [List.getElem?_eq_none h1] at hj; cases hj
           rw [if_pos ⟨hge, by omega⟩]
           unfold bV; rw [List.getElem?_map, hj]; rfl)
     rw [List.length_append, List.append_assoc] at this; exact this
theorem aTF {E E0 : aQ} (hE : E 107 = some (aEh E0)) (args : List DV) (h : H) (v : DV) (h' : H) (e : vM args h = some (v, h')) : h' = h /\ wX v /\ ∃ h1, S73 E args h = some (v, h1) /\ aX h h1 := by
 unfold vM at e; split at e
 rotate_left
 · cases e
 rename_i b o at_ n; split at e
 rotate_left
 · cases e
 rename_i b2 o2 len cap op c1 c2; rw [bX] at c1 c2; obtain ⟨hc, e⟩ := aI e; simp only [Bool.and_eq_true, Nat.blt_eq] at hc; obtain ⟨⟨⟨⟨⟨⟨g1, g2⟩, g3⟩, g4⟩, g5⟩, g6⟩, g7⟩ := hc; have g1 := Nat.le_of_ble_eq_true g1; have g2 := Nat.le_of_ble_eq_true g2; have g3 := Nat.le_of_ble_eq_true g3; have g4 := Nat.le_of_ble_eq_true g4; rw [bP] at e; cases hcs : rdCells h.get b2 (o2 + at_) n with
 | none => rw [hcs] at e; cases e
 | some cs =>
   rw [hcs] at e; simp only [Option.bind_some] at e; cases hs : aMA cs with
   | none => rw [hs] at e; cases e
   | some s =>
     rw [hs] at e; simp only [Option.bind_some] at e; obtain ⟨hq, e⟩ := aI e; rw [Bool.and_eq_true, aAG] at hq; have q1 := Nat.le_of_ble_eq_true hq.1; rw [fI] at e; cases e; refine ⟨rfl, wX.tup2 (wX.str _) (wX.int _ _), ?_⟩; obtain ⟨r1, r2⟩ := uJ hcs; show ∃ h1, aGe E (.ptr b o) (.int .i64 (.ofNat at_)) (.int .i64 (.ofNat n)) h = _ /\ _; unfold aGe; rw [aT hE, aKl c1 c2 g1 g2 g3 g5, aV, vP]; rw [show (Int.ofNat 0 != Int.ofNat 0) = false from rfl, aA, aW, mH]
     rw [show Int.ofNat n * Int.ofNat 64 = Int.ofNat (n * 64) from rfl, wrap_i64 (by omega), aA]
     have em : ∀ k : DV -> H -> aL, jN 1 1 (.int .u8 (.ofNat 0)) (.int .i64 (.ofNat 0)) (.int .i64 (.ofNat (n * 64))) h k = k (.slc h.size 0 0 (n * 64) false) (h.push (.blk ⟨n * 64, 1, false, true, Tr.full (.int .u8 (.ofNat 0)) 48⟩)) := by
       intro k; simp only [jN]; rw [Nat.ble_eq_true_of_le (Nat.zero_le _), dK (show 1 * (n * 64) < 140737488355328 by omega), dK (show n * 64 < 140737488355328 by omega)]
       simp only [Bool.and_self, cond_true, H.pushK_eq]
     rw [em]; have e2 : aC (.ptr b o) = some (.ptr b o) := rfl; have e3 : aG 0 (.ptr b o) = some (.ptr b o) := by simp only [aG, aM, Nat.add_zero]
     have hpg := aX.push h (.blk ⟨n * 64, 1, false, true, Tr.full (.int .u8 (.ofNat 0)) 48⟩); have e5 : aF (h.push (.blk ⟨n * 64, 1, false, true, Tr.full (.int .u8 (.ofNat 0)) 48⟩)).get (.ptr b o) = some (.slc b2 o2 len cap op) := by
       simp only [aF, bX]; rw [mZ (hpg.get b g6)]; exact c1
     have e6 : bW (.int .i64 (.ofNat at_)) (.int .i64 (.ofNat n)) = some (.int .i64 (.ofNat (at_ + n))) := by
       rw [qW, show Int.ofNat at_ + Int.ofNat n = Int.ofNat (at_ + n) from rfl, wrap_i64 (by omega)]
     have e7 : eV 1 (.slc b2 o2 len cap op) (some (.int .i64 (.ofNat at_))) (some (.int .i64 (.ofNat (at_ + n)))) = some (.slc b2 (o2 + at_) n (cap - at_) op) := by
       simp only [eV, dC, dHi, dLo]; rw [Nat.ble_eq_true_of_le (show at_ + n <= cap by omega), cond_true, Nat.ble_eq_true_of_le (show at_ <= at_ + n by omega), cond_true, dK (show at_ < cap by omega), cond_true]
       simp only [aM, Nat.mul_one]; rw [show at_ + n - at_ = n from by omega]
     have e8 : aO (.slc b2 (o2 + at_) n (cap - at_) op) = some (.int .i64 (.ofNat n)) := rfl; rw [e2, aA, e3, aA, e5, aA, e6, aA, e7, aA, e8, aA]; obtain ⟨hh', k1, k2⟩ := aIW (E := E) (h := h) (b2 := b2) (o2 := o2 + at_) (n := n) (cap := cap - at_) (c := n * 64) (op := op) g7 (by omega) cs 0 (aK - (cs.length + 1)) [] s _ _ (by omega) (λ i v hi => by rw [Nat.zero_add]; exact r2 i v hi) hs (by simpa using q1) (by simpa using hq.2) (by omega) hpg (by simp) (by rw [H.get_push, if_pos rfl]) (λ j x hj => by simp at hj)
     rw [show aK - (cs.length + 1) + (cs.length + 1) = aK from by unfold aK; omega] at k1
     exact ⟨hh', k1, k2⟩
def aDY : aQ := fY 107 (aEh mU) mU
theorem aKu : gN Tryz.prog aDY := iH (tab.ok 107 aEh rfl).1 ((tab.ok 107 aEh rfl).2 mU oX) oX
theorem aTE : fS Tryz.prog 73 vM := fS.forget ((tab.ok 73 S73 rfl).2 aDY aKu) λ args h v h' e => aTF rfl args h v h' e
def kE : bC := λ args h => Option.rec (motive := λ _ => Option (DV × H)) (S73 aDY args h) some (vM args h)
theorem aNE : fS Tryz.prog 73 kE := fS.or aTE ((tab.ok 73 S73 rfl).2 aDY aKu)
def kW : bC := λ args h => match args with
 | [.int .i64 (.ofNat n)] => bif Nat.blt n 1000000 then (tU (List.replicate n 0)).map λ v => (v, h) else none
 | _ => none
theorem aBO {n : Nat} (hn : n < 1000000) (h : H) : kW [.int .i64 (.ofNat n)] h = some (.str (List.replicate n 0), h) := by
 show (bif Nat.blt n 1000000 then (tU (List.replicate n 0)).map λ v => (v, h) else none) = _
 rw [dK hn, fI]; rfl
theorem aNB {G : bC} (h3 : ∀ (n : Nat) (h : H), n < 1000000 -> ∃ h', G [.int .i64 (.ofNat n)] h = some (.str (List.replicate n 0), h') /\ aX h h')
   (args : List DV) (h : H) (v : DV) (h' : H) (e : kW args h = some (v, h')) : h' = h /\ wX v /\ ∃ h1, G args h = some (v, h1) /\ aX h h1 := by
 unfold kW at e; split at e
 · rename_i n; obtain ⟨hc, e⟩ := aI e; rw [Nat.blt_eq] at hc; rw [fI] at e; cases e; obtain ⟨h', e1, e2⟩ := h3 n h hc; exact ⟨rfl, wX.str _, h', e1, e2⟩
 · cases e
theorem aTQ {E : aQ} (hE : E 134 = some rQ) : ∀ (args : List DV) (h : H) (v : DV) (h' : H), kW args h = some (v, h') -> h' = h /\ wX v /\ ∃ h1, S91 E args h = some (v, h1) /\ aX h h1 := by
 refine aNB λ n h hn => ⟨h, ?_, aX.refl _⟩
 show aQL E (.int .i64 (.ofNat n)) h = _; unfold aQL; rw [aT hE, aIg n (by omega), aV]
def wW : GF := ⟨3, 16, [⟨(some p5), none, (.e (.box (.r p2)))⟩, ⟨(some p6), none, (.e (.alc 1 1 (.list [(.str [])])))⟩, ⟨(some p7), none, (.e (.alc 1 1 (.list [(.int .i64 (.ofNat 0))])))⟩], ⟨(some p8), none, (.e (.mkF (.func 141) [] [(.r p6), (.r p7)]))⟩, p8, [⟨0, ⟨(some p9), none, (.e (.mv (.r p0)))⟩, [], false⟩, ⟨1, ⟨(some nI), none, (.e (.mv (.r p1)))⟩, [], false⟩, ⟨3, ⟨(some nN), none, (.e (.ldN 2 (.r p5)))⟩, [], false⟩], 2, (some p11), 96, [(.r p9), (.r nI)], [3], false, [⟨4, ⟨(some sU), none, (.c (.f 142 [(.r p11), (.r nN)]))⟩, [], false⟩, ⟨5, ⟨(some tW), none, (.e (.ext 0 (.r sU)))⟩, [], false⟩, ⟨6, ⟨(some xW), none, (.e (.ext 1 (.r sU)))⟩, [], false⟩, ⟨7, ⟨none, none, (.w (.st 1 (.r p6) (.r tW)))⟩, [], false⟩, ⟨8, ⟨none, none, (.w (.st 1 (.r p7) (.r xW)))⟩, [], false⟩], [(.cell p6), (.cell p7)]⟩
theorem aRS : aDR Tryz.prog 101 wW = true := by kernel_rfl
def vO : CF := ⟨141, 8, 2, p3, p2, (.seq (.reg [⟨(some p4), none, (.e (.mv (.r p2)))⟩, ⟨(some p5), none, (.e (.eqv .nilI true (.r p4) (.c .nili)))⟩]) (.cond (.r p5) (.reg [⟨(some p6), none, (.e (.mv (.r p2)))⟩, ⟨(some p7), none, (.c (.f 95 [(.r p6)]))⟩, ⟨none, none, (.w (.st 1 (.r p0) (.c (.str []))))⟩, ⟨none, none, (.w (.st 1 (.r p1) (.r p7)))⟩]) .skip))⟩
theorem aKW : aBJ Tryz.prog vO = true := by kernel_rfl
def bDL : PF := ⟨2, 27, (.sr (.reg [⟨(some p4), none, (.e (.mv (.c .nilp)))⟩]) (.sr (.reg [⟨(some p6), none, (.e (.mv (.r p0)))⟩, ⟨(some p7), none, (.e (.mv (.r p1)))⟩, ⟨(some p8), none, (.c (.f 33 [(.r p6), (.r p7)]))⟩, ⟨(some p5), none, (.e (.mv (.r p8)))⟩]) (.or (.sl (.sr (.reg [⟨(some p9), none, (.e (.mv (.r p5)))⟩, ⟨(some nI), none, (.e (.eqv .ptr false (.r p9) (.c .nilp)))⟩]) (.cd (.r nI) (.pan [⟨(some p11), none, (.e (.mkI 25 (.c (.int .i64 (.ofNat 1)))))⟩] (.r p11)) .no))) (.sr (.seq (.reg [⟨(some p9), none, (.e (.mv (.r p5)))⟩, ⟨(some nI), none, (.e (.eqv .ptr false (.r p9) (.c .nilp)))⟩]) (.cond (.r nI) (.reg [⟨(some p11), none, (.e (.mkI 25 (.c (.int .i64 (.ofNat 1)))))⟩, ⟨none, none, (.e .bad)⟩]) .skip)) (.sl (.sr (.reg [⟨(some nN), none, (.e (.mv (.r p5)))⟩, ⟨(some sU), none, (.e (.nilchk (.r nN)))⟩, ⟨(some tW), none, (.e (.fa 2 (.r sU)))⟩, ⟨(some xW), none, (.e (.ld (.r tW)))⟩, ⟨(some p16), none, (.e (.mv (.r xW)))⟩, ⟨(some p17), (some (p16, false)), (.e (.mv (.r p5)))⟩, ⟨(some p18), (some (p16, false)), (.e (.nilchk (.r p17)))⟩, ⟨(some p19), (some (p16, false)), (.e (.fa 3 (.r p18)))⟩, ⟨(some p20), (some (p16, false)), (.e (.ld (.r p19)))⟩, ⟨(some p21), none, (.e (.pick (.r p16) (.c (.bool true)) (.r p20)))⟩]) (.cd (.r p21) (.pan [⟨(some p22), none, (.e (.mkI 25 (.c (.int .i64 (.ofNat 8)))))⟩] (.r p22)) .no)))))))⟩
theorem bDK : aWs Tryz.prog 96 bDL = true := by kernel_rfl
def G63 : GF := ⟨4, 16, [⟨(some p6), none, (.e (.box (.r p2)))⟩, ⟨(some p8), none, (.e (.alc 1 1 (.list [(.int .i64 (.ofNat 0))])))⟩], ⟨(some p9), none, (.e (.mkF (.func 94) [] [(.r p8)]))⟩, p9, [⟨0, ⟨(some nI), none, (.e (.mv (.r p0)))⟩, [], false⟩, ⟨1, ⟨(some p11), none, (.e (.mv (.r p1)))⟩, [], false⟩, ⟨3, ⟨(some sU), none, (.e (.ldN 2 (.r p6)))⟩, [], false⟩, ⟨4, ⟨(some tW), none, (.e (.mv (.r p3)))⟩, [], false⟩], 2, (some nN), 96, [(.r nI), (.r p11)], [3], false, [⟨5, ⟨(some xW), none, (.c (.f 97 [(.r nN), (.r sU), (.r tW), (.c (.int .i64 (.negSucc 0)))]))⟩, [], false⟩, ⟨6, ⟨none, none, (.w (.st 1 (.r p8) (.r xW)))⟩, [], false⟩], [(.cell p8)]⟩
theorem aZF : aDR Tryz.prog 63 G63 = true := by kernel_rfl
def aTJ : CF := ⟨94, 7, 1, p2, p1, (.seq (.reg [⟨(some p3), none, (.e (.mv (.r p1)))⟩, ⟨(some p4), none, (.e (.eqv .nilI true (.r p3) (.c .nili)))⟩]) (.cond (.r p4) (.reg [⟨(some p5), none, (.e (.mv (.r p1)))⟩, ⟨(some p6), none, (.c (.f 95 [(.r p5)]))⟩, ⟨none, none, (.w (.st 1 (.r p0) (.r p6)))⟩]) .skip))⟩
theorem aRU : aBJ Tryz.prog aTJ = true := by kernel_rfl
def aWz : aQ := fY 134 rQ mU
def pI : aQ := fY 73 kE (fY 182 qR (fY 199 oI (fY 91 kW aWz)))
def EG : aQ := SE pI table aK
def wN : bC := bGG EG bDL
def oH : bC := λ args h => Option.rec (motive := λ _ => Option (DV × H)) (aSS EG wN wW vO args h) some (xC EG wW vO args h)
def oG : bC := λ args h => Option.rec (motive := λ _ => Option (DV × H)) (aSS EG wN G63 aTJ args h) some (xC EG G63 aTJ args h)
def aPp : aQ := fY 101 oH (fY 63 oG pI)
def base : aQ := fY 17 vL aPp
theorem aKx : gN Tryz.prog aWz := iH (by kernel_rfl) aKU oX
theorem aNA : fS Tryz.prog 91 kW := fS.forget ((tab.ok 91 S91 (by kernel_rfl)).2 aWz aKx) (aTQ (by kernel_rfl))
theorem aKw : gN Tryz.prog pI := iH (tab.ok 73 S73 rfl).1 aNE (iH (tab.ok 182 aMM rfl).1 aTG (iH (tab.ok 199 aKC rfl).1 aEr (iH (tab.ok 91 S91 (by kernel_rfl)).1 aNA aKx)))
theorem aKV : gN Tryz.prog EG := aPE aKw tab aK
theorem aEq : aHs Tryz.prog 96 wN := aSY aKV bDK
theorem aND : fS Tryz.prog 101 oH := fS.or (aBC aKV aRS aKW) (aDn aKV aEq aRS aKW)
theorem aNC : fS Tryz.prog 63 oG := fS.or (aBC aKV aZF aRU) (aDn aKV aEq aZF aRU)
theorem aKv : gN Tryz.prog aPp := iH (by kernel_rfl) aND (iH (by kernel_rfl) aNC aKw)
theorem aTm : (S17 (SE aPp table aK) [] H0).map (λ x => x.1) = some (.bool true) := by kernel_rfl
theorem aNG : fS Tryz.prog 17 vL := aLA (B := aPp) (n := aK) aKv tab (show Tr.at_ table 17 = some S17 by kernel_rfl) aTm
theorem bDa : gN Tryz.prog base := iH (tab.ok 17 S17 rfl).1 aNG aKv
end Go.Proofs.YthpciaidbgjoeaaGreat
end
