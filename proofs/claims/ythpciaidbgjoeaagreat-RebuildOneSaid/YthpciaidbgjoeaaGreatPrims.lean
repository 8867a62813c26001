/- Functions told by what they compute: the sums, a device's reading, strings.Repeat by its contract, and the three that recover. No condition. -/
import Derived.Test.YthpciaidbgjoeaaGreatDe
import Derived.Test.YthpciaidbgjoeaaGreatT
import Derived.Test.YthpciaidbgjoeaaGreatShelf
import Derived.KernelRfl
set_option linter.unusedVariables false
noncomputable section
namespace Go.Proofs.YthpciaidbgjoeaaGreat
open Go.DI
theorem aGl : eN Tryz.prog 134 oJ := aCO λ s c w h1 h2 => Tryz.strings_Repeat s c w h1 h2
theorem aUv (c : Nat) : rS (.int .u32 (.ofNat (c % 2))) = some (.int .u32 (.ofNat (bif Nat.beq (c % 2) 0 then 0 else 4294967295))) := by
 have h : c % 2 = 0 \/ c % 2 = 1 := by omega
 rcases h with h | h <;> rw [h] <;> rfl
theorem vW (E : aX) (i : DV -> DV -> H -> aQ) (c k : Nat) (h : H) (hc : c < 4294967296) (hk : 0 < k) (hk2 : k < 9) :
   wX E i (.int .u32 (.ofNat c)) (.int .i64 (.ofNat k)) h = if k = 1 then some (.int .u32 (.ofNat (gR c)), h) else i (.int .u32 (.ofNat (gR c))) (.int .i64 (.ofNat (k - 1))) h := by
 have e1 := nN .u32 .u64 c 1 (by decide)
 have e2 : nR (.int .u32 (.ofNat c)) (.int .u32 (.ofNat 1)) = some (.int .u32 (.ofNat (c % 2))) := by
   rw [vS .u32 c 1 hc (by decide), Nat.and_one_is_mod, wrap_u32 (by omega)]
 have e3 : nR (.int .u32 (.ofNat 3988292384)) (.int .u32 (.ofNat (bif Nat.beq (c % 2) 0 then 0 else 4294967295))) = some (.int .u32 (.ofNat (bif Nat.beq (c % 2) 0 then 0 else 3988292384))) := by
   cases Nat.beq (c % 2) 0 <;> rfl
 have e4 : nM (.int .u32 (.ofNat (c / 2 ^ 1))) (.int .u32 (.ofNat (bif Nat.beq (c % 2) 0 then 0 else 3988292384))) = some (.int .u32 (.ofNat (gR c))) := by
   have h1 := oN hc; rw [kD .u32 _ _ (Nat.lt_of_le_of_lt (Nat.div_le_self _ _) hc) (by cases Nat.beq (c % 2) 0 <;> decide)]
   show some (DV.int .u32 (IntKind.u32.wrap (.ofNat (gR c)))) = _; rw [wrap_u32 h1]
 have e5 : jO (.int .i64 (.ofNat k)) (.int .i64 (.ofNat 1)) = some (.int .i64 (.ofNat (k - 1))) := by
   rw [qR, show (Int.ofNat k - Int.ofNat 1) = Int.ofNat (k - 1) from by simp only [Int.ofNat_eq_natCast]; omega, wrap_i64 (by omega)]
 have e6 : dA (.int .i64 (.ofNat (k - 1))) (.int .i64 (.ofNat 0)) = some (.bool (decide (k ≠ 1))) := by
   rw [nP]; congr 2; rw [decide_eq_decide]; simp only [Int.ofNat_eq_natCast]; omega
 unfold wX; rw [e1, aE, e2, aE, aUv, aE, e3, aE, e4, aE, e5, aE, e6, aE]; by_cases h1 : k = 1
 · rw [if_pos h1, show decide (k ≠ 1) = false from by simp [h1]]; rfl
 · rw [if_neg h1, show decide (k ≠ 1) = true from by simp [h1]]; rfl
theorem aGE (E : aX) (h : H) : ∀ (k n c : Nat), c < 4294967296 -> k < 8 ->
   wQ E (n + (k + 1)) (.int .u32 (.ofNat c)) (.int .i64 (.ofNat (k + 1))) h = some (.int .u32 (.ofNat (iX (k + 1) c)), h) := by
 intro k
 induction k with
 | zero =>
   intro n c hc _; show wX E (wQ E n) _ _ h = _; rw [vW E _ c 1 h hc (by omega) (by omega), if_pos rfl]; rfl
 | succ k ih =>
   intro n c hc hk; show wX E (wQ E (n + (k + 1))) _ _ h = _; rw [vW E _ c (k + 1 + 1) h hc (by omega) (by omega), if_neg (by omega)]
   exact ih n (gR c) (oN hc) (by omega)
theorem aOM (E : aX) (h : H) (c : Nat) (hc : c < 4294967296) : aFZ E [.int .u32 (.ofNat c)] h = some (.int .u32 (.ofNat (iX 8 c)), h) := by
 show wX E (wQ E aY) (.int .u32 (.ofNat c)) (.int .i64 (.ofNat 8)) h = _; rw [vW E _ c 8 h hc (by omega) (by omega), if_neg (by omega), show aY = (aY - 7) + (6 + 1) from by unfold aY; rfl]
 exact aGE E h 6 _ _ (oN hc) (by omega)
def lP : bB := λ args h => match args with
 | [.int .u32 (.ofNat c)] => bif Nat.blt c 4294967296 then cJ (iX 8 c) λ n => some (.int .u32 (.ofNat n), h) else none
 | _ => none
theorem aIx (E : aX) (args : List DV) (h : H) (r : DV × H) (e : lP args h = some r) : aFZ E args h = some r := by
 unfold lP at e; split at e
 · rename_i c; obtain ⟨hc, e⟩ := aL e; rw [Nat.blt_eq] at hc; rw [aR] at e; rw [aOM E h c hc]; exact e
 · cases e
def mT (c : Nat) (s : Ln) : Nat := List.rec (motive := λ _ => Nat -> Nat) (λ c => c) (λ b _ ih c => cJ (Nat.xor c b) λ c => cJ (aUx c) ih) s c
theorem aCH (c b : Nat) (s : Ln) : mT c (b :: s) = mT (iX 8 (c ^^^ b)) s := by
 show (cJ (Nat.xor c b) λ c => cJ (aUx c) λ c => mT c s) = _
 rw [aR, aR, aUw]; rfl
theorem aGy {c b : Nat} (hc : c < 4294967296) (hb : b < 256) : c ^^^ b < 4294967296 := Nat.xor_lt_two_pow (n := 32) hc (by omega)
theorem aES {E : aX} (hE : E 199 = some lP) (s0 : Ln) (h : H) (hl : s0.length < 4611686018427387904) (hs0 : bO s0 = true) : ∀ (s p : Ln) (n c : Nat), s0 = p ++ s -> c < 4294967296 ->
   wR E (.str s0) (.int .i64 (.ofNat s0.length)) (n + (s.length + 1)) (.int .u32 (.ofNat c)) (.int .i64 (.ofNat p.length)) h = some (.int .u32 (.ofNat (mT c s ^^^ 4294967295)), h) := by
 intro s
 induction s with
 | nil =>
   intro p n c e hc; have hp : p.length = s0.length := by rw [e]; simp
   show aBe E _ _ (wR E _ _ n) _ _ h = _; unfold aBe; rw [gW, aE, hp]; rw [show decide (Int.ofNat s0.length < Int.ofNat s0.length) = false from by simp, dE]
   unfold aDA; rw [kD .u32 _ _ (by decide) hc, aE, Nat.xor_comm]
   rw [wrap_u32 (Nat.xor_lt_two_pow (n := 32) hc (by decide))]; rfl
 | cons b s ih =>
   intro p n c e hc; have hb : bO (b :: s) = true := qV hs0 λ x hx => by rw [e]; exact List.mem_append_right _ hx
   simp only [bO, Bool.and_eq_true, Nat.blt_eq] at hb; have hp : p.length < s0.length := by rw [e]; simp
   show aBe E _ _ (wR E _ _ (n + (s.length + 1))) _ _ h = _; unfold aBe; rw [gW, aE]; rw [show decide (Int.ofNat p.length < Int.ofNat s0.length) = true from by simp only [Int.ofNat_eq_natCast, decide_eq_true_iff]; omega, fA]
   rw [lQ (b := b) (by rw [e]; simp), aE, gO, aE, wrap_u32 (by omega), kD .u32 _ _ hc (by show b < 4294967296; omega), aE, wrap_u32 (aGy hc hb.1)]
   rw [cF hE]; have e8 : lP [.int .u32 (.ofNat (c ^^^ b))] h = some (.int .u32 (.ofNat (iX 8 (c ^^^ b))), h) := by
     show (bif Nat.blt (c ^^^ b) 4294967296 then cJ (iX 8 (c ^^^ b)) (λ n => some (DV.int .u32 (.ofNat n), h)) else none) = _
     rw [dP (aGy hc hb.1), cond_true, aR]
   rw [e8, cY, nS, aE, show (Int.ofNat p.length + Int.ofNat 1) = Int.ofNat (p.length + 1) from rfl, wrap_i64 (by omega)]
   have := ih (p ++ [b]) n (iX 8 (c ^^^ b)) (by rw [e]; simp) (xB 8 _ (aGy hc hb.1))
   rw [List.length_append] at this; rw [aCH]; exact this
theorem aUU {E : aX} (hE : E 199 = some lP) (s : Ln) (h : H) (hl : s.length < 4611686018427387904) (hs : bO s = true) (c : Nat) (hc : c < 4294967296) (hf : s.length + 1 <= aY) :
   aHy E [.int .u32 (.ofNat c), .str s] h = some (.int .u32 (.ofNat (mT (c ^^^ 4294967295) s ^^^ 4294967295)), h) := by
 show aDB E (.int .u32 (.ofNat c)) (.str s) h = _; unfold aDB; have hx : c ^^^ 4294967295 < 4294967296 := Nat.xor_lt_two_pow (n := 32) hc (by decide)
 rw [kD .u32 _ _ (by decide) hc, aE, kE, aE, Nat.xor_comm, wrap_u32 hx]
 have := aES hE s h hl hs s [] (aY - (s.length + 1)) (c ^^^ 4294967295) rfl hx; rw [show aY - (s.length + 1) + (s.length + 1) = aY from by omega] at this
 exact this
def pF : bB := λ args h => match args with
 | [.int .u32 (.ofNat c), .str s] => bif Nat.blt c 4294967296 && Nat.blt s.length 100000000000000 && bO s then cJ (Nat.xor (mT (Nat.xor c 4294967295) s) 4294967295) λ n => some (.int .u32 (.ofNat n), h) else none
 | _ => none
theorem aMW {E : aX} (hE : E 199 = some lP) (args : List DV) (h : H) (r : DV × H) (e : pF args h = some r) : aHy E args h = some r := by
 unfold pF at e; split at e
 · rename_i c s; obtain ⟨hc, e⟩ := aL e; rw [Bool.and_eq_true, Bool.and_eq_true, Nat.blt_eq, Nat.blt_eq] at hc; rw [aR] at e; rw [aUU hE s h (by omega) hc.2 c hc.1.1 (by unfold aY; omega)]; exact e
 · cases e
def aXR : aX := fK 199 lP kP
theorem aBd : eN Tryz.prog 199 lP := ((tab.ok 199 aFZ rfl).2 kP mD).mono λ args h r e => aIx _ args h r e
theorem aPw : fD Tryz.prog aXR := fP (tab.ok 199 aFZ rfl).1 aBd mD
theorem aMV : eN Tryz.prog 182 pF := ((tab.ok 182 aHy rfl).2 aXR aPw).mono λ args h r e => aMW rfl args h r e
def qQ : bB := λ args h => match args with
 | [.ptr b o, .int .i64 (.ofNat at_), .int .i64 (.ofNat n)] => match uK h.get b o, uK h.get b (o + 2) with
   | some (.slc b2 o2 len cap op), some (.bool false) =>
     bif Nat.ble 1 n && Nat.ble at_ len && Nat.ble n (len - at_) && Nat.ble len cap && Nat.blt len 1000000000 && Nat.blt b h.size && Nat.blt b2 h.size then
       (jS h.get b2 (o2 + at_) n).bind λ cs => (aHs cs).bind λ s => bif Nat.ble s.length (n * 64) && aCT s then (pI s).map λ v => (.tup [v, .int .i64 (.ofNat 0)], h) else none
     else none
   | _, _ => none
 | _ => none
theorem aPu {E : aX} {h : H} {b o at_ n b2 o2 len cap : Nat} {op : Bool} (h1 : rdCell h.get b o = some (.slc b2 o2 len cap op)) (h2 : rdCell h.get b (o + 2) = some (.bool false)) (hn : 1 <= n) (ha : at_ <= len) (hl : n <= len - at_) (hs : len < 1000000000) :
   aBy E [.ptr b o, .int .i64 (.ofNat at_), .int .i64 (.ofNat n), .bool true] h = some (.int .i64 (.ofNat 0), h) := by
 show wW E (.ptr b o) (.int .i64 (.ofNat at_)) (.int .i64 (.ofNat n)) (.bool true) h = _; unfold wW; have e1 : bY .ptr false h.get (.ptr b o) .nilp = some (.bool false) := rfl; have e2 : aA (.ptr b o) = some (.ptr b o) := rfl; have e3 : aG 0 (.ptr b o) = some (.ptr b o) := by simp only [aG, aR, Nat.add_zero]
 have e4 : aG 2 (.ptr b o) = some (.ptr b (o + 2)) := by simp only [aG, aR]
 have e5 : aF h.get (.ptr b o) = some (.slc b2 o2 len cap op) := by simp only [aF, bM, h1]
 have e6 : aF h.get (.ptr b (o + 2)) = some (.bool false) := by simp only [aF, bM, h2]
 have e7 : aW (.slc b2 o2 len cap op) = some (.int .i64 (.ofNat len)) := rfl; have d1 : decide (Int.ofNat at_ < Int.ofNat 0) = false := by simp
 have d2 : decide (Int.ofNat n < Int.ofNat 1) = false := by simp only [Int.ofNat_eq_natCast, decide_eq_false_iff_not]; omega
 have d3 : decide (Int.ofNat len < Int.ofNat at_) = false := by simp only [Int.ofNat_eq_natCast, decide_eq_false_iff_not]; omega
 have d4 : Int.ofNat len - Int.ofNat at_ = Int.ofNat (len - at_) := by simp only [Int.ofNat_eq_natCast]; omega
 have d5 : decide (Int.ofNat (len - at_) < Int.ofNat n) = false := by simp only [Int.ofNat_eq_natCast, decide_eq_false_iff_not]; omega
 simp only [e1, aE, nC, gW, d1, iC, d2, aGA, Bool.not_true, dE, e2, e3, e5, e7, nP, d3, qR, d4, wrap_i64 (show len - at_ < 9223372036854775808 by omega), d5, e4, e6]
theorem aEK {E : aX} {h : H} {b2 o2 n cap c : Nat} {op : Bool} (hb2 : b2 < h.size) (hn : n < 1000000000) : ∀ (rest : List DV) (k m : Nat) (acc s : Ln) (hh : H) (t : Tr DV),
   k + rest.length = n -> (∀ i v, rest[i]? = some v -> rdCell h.get b2 (o2 + (k + i)) = some v) -> aHs rest = some s -> acc.length + s.length <= c -> bO (acc ++ s) = true -> c < 1000000000000 ->
   bX h hh -> h.size < hh.size -> hh.get h.size = some (.blk ⟨c, 1, false, true, t⟩) -> (∀ j x, acc[j]? = some x -> t.at_ j = some (kZ x)) ->
   ∃ hh', aCr E (.slc b2 o2 n cap op) (.int .i64 (.ofNat n)) (m + (rest.length + 1)) (.slc h.size 0 acc.length c false) (.int .i64 (.ofNat k)) hh = some (.tup [.str (acc ++ s), .int .i64 (.ofNat 0)], hh') /\ bX h hh' := by
 intro rest
 induction rest with
 | nil =>
   intro k m acc s hh t hk hc hs hl hok hcs hg hsz hB ht; cases hs; rw [List.append_nil] at hok ⊢; refine ⟨hh, ?_, hg⟩; show aGp E _ _ (aCr E _ _ m) _ _ hh = _; unfold aGp; have d1 : decide (Int.ofNat k < Int.ofNat n) = false := by simp only [Int.ofNat_eq_natCast, decide_eq_false_iff_not]; simp only [List.length_nil] at hk; omega
   have e1 : jY hh.get (.slc h.size 0 acc.length c false) = some (.str acc) := by
     have hr : rdCells hh.get h.size 0 (cT acc).length = some (cT acc) := mC _ _ λ i v hi => by
       rw [Nat.zero_add]; unfold cT at hi; rw [List.getElem?_map] at hi; cases hx : acc[i]? with
       | none => rw [hx] at hi; cases hi
       | some x =>
         rw [hx] at hi; cases hi; have hlt : i < acc.length := by
           rcases Nat.lt_or_ge i acc.length with h1 | h1
           · exact h1
           · rw [List.getElem?_eq_none h1] at hx; cases hx
         rw [tD hB (by show i < c; simp only [List.length_nil] at hl; omega)]
         exact ht i x hx
     have hlen : (cT acc).length = acc.length := by simp [cT]
     rw [hlen] at hr; simp only [jY, bJ, hr, Option.bind_some, qJ hok, fH]
   rw [gW, d1, aE, dE]; unfold aLs; rw [e1, aE]
 | cons v rest ih =>
   intro k m acc s hh t hk hc hs hl hok hcs hg hsz hB ht; have hkn : k < n := by simp only [List.length_cons] at hk; omega
   show ∃ hh', aGp E _ _ (aCr E _ _ (m + (rest.length + 1))) _ _ hh = _ /\ _; unfold aGp; have d1 : decide (Int.ofNat k < Int.ofNat n) = true := by simp only [Int.ofNat_eq_natCast, decide_eq_true_iff]; omega
   cases v <;> first | (cases hs; done) | skip
   rename_i u
   replace hs : Option.rec (motive := λ _ => Option (Ln)) none (λ t => some (aMQ u t)) (aHs rest) = some s := hs
   cases hrest : aHs rest with
   | none => rw [hrest] at hs; cases hs
   | some r =>
     rw [hrest] at hs; have hs' : u ++ r = s := by have : aMQ u r = s := Option.some.inj hs; rw [aDt] at this; exact this
     subst hs'; have e1 : cH 1 (.slc b2 o2 n cap op) (.int .i64 (.ofNat k)) = some (.ptr b2 (o2 + k)) := by
       simp only [cH, mQ, aR]; rw [dP hkn]; simp
     have e2 : aF hh.get (.ptr b2 (o2 + k)) = some (.str u) := by
       have := hc 0 _ rfl; simp only [aF, bM]; rw [pS (hg.get b2 hb2)]; exact this
     simp only [List.length_append] at hl; obtain ⟨h1, t1, f1, f2, f3, f4, f5⟩ := qC (h := hh) (b := h.size) (o := acc.length) (vs := cT u) hB rfl (by simp [cT]; omega) (aBx u)
     have e3 : cG 1 1 (.slc h.size 0 acc.length c false) (.str u) hh = some (.slc h.size 0 (acc.length + u.length) c false, h1) := by
       rw [iK]; unfold fT; have a1 : eI (.str u) = some u.length := aR _ _; have a2 : dO 1 hh.get (.str u) = some (cT u) := rfl; rw [a1, a2]; simp only [Option.bind_some, aR]; rw [Nat.ble_eq_true_of_le (show acc.length + u.length <= c by omega), cond_true, Nat.zero_add, Nat.mul_one, f1]; rfl
     have e4 : bL (.int .i64 (.ofNat k)) (.int .i64 (.ofNat 1)) = some (.int .i64 (.ofNat (k + 1))) := by
       rw [nS, show Int.ofNat k + Int.ofNat 1 = Int.ofNat (k + 1) from rfl, wrap_i64 (by omega)]
     rw [gW, d1, aE, fA, e1, aE, e2, aE, e3, cY, e4, aE]; have := ih (k + 1) m (acc ++ u) r h1 t1 (by simp only [List.length_cons] at hk; omega)
       (λ i v hi => by have := hc (i + 1) v (by simpa using hi); rw [show k + 1 + i = k + (i + 1) from by omega]; exact this) hrest (by simp only [List.length_append]; omega) (by rw [List.append_assoc]; exact hok) hcs
       ⟨by rw [f2]; exact hg.size, λ b hb => by rw [f3 b (by omega)]; exact hg.get b hb⟩ (by rw [f2]; exact hsz) f4 (λ j x hj => by
         rw [f5]; have hlen : (cT u).length = u.length := by simp [cT]
         rcases Nat.lt_or_ge j acc.length with hlt | hge
         · rw [if_neg (by omega)]
           rw [List.getElem?_append_left hlt] at hj; exact ht j x hj
         · rw [List.getElem?_append_right hge] at hj; have hlt : j - acc.length < u.length := by
             rcases Nat.lt_or_ge (j - acc.length) u.length with h1 | h1
             · exact h1
             · rw [List.getElem?_eq_none h1] at hj; cases hj
           rw [if_pos ⟨hge, by omega⟩]
           unfold cT; rw [List.getElem?_map, hj]; rfl)
     rw [List.length_append, List.append_assoc] at this; exact this
theorem aMT {E E0 : aX} (hE : E 107 = some (aBy E0)) (args : List DV) (h : H) (v : DV) (h' : H) (e : qQ args h = some (v, h')) : h' = h /\ rR v /\ ∃ h1, S73 E args h = some (v, h1) /\ bX h h1 := by
 unfold qQ at e; split at e
 rotate_left
 · cases e
 rename_i b o at_ n; split at e
 rotate_left
 · cases e
 rename_i b2 o2 len cap op c1 c2; rw [bM] at c1 c2; obtain ⟨hc, e⟩ := aL e; simp only [Bool.and_eq_true, Nat.blt_eq] at hc; obtain ⟨⟨⟨⟨⟨⟨g1, g2⟩, g3⟩, g4⟩, g5⟩, g6⟩, g7⟩ := hc; have g1 := Nat.le_of_ble_eq_true g1; have g2 := Nat.le_of_ble_eq_true g2; have g3 := Nat.le_of_ble_eq_true g3; have g4 := Nat.le_of_ble_eq_true g4; rw [bJ] at e; cases hcs : rdCells h.get b2 (o2 + at_) n with
 | none => rw [hcs] at e; cases e
 | some cs =>
   rw [hcs] at e; simp only [Option.bind_some] at e; cases hs : aHs cs with
   | none => rw [hs] at e; cases e
   | some s =>
     rw [hs] at e; simp only [Option.bind_some] at e; obtain ⟨hq, e⟩ := aL e; rw [Bool.and_eq_true, wD] at hq; have q1 := Nat.le_of_ble_eq_true hq.1; rw [fH] at e; cases e; refine ⟨rfl, rR.tup2 (rR.str _) (rR.int _ _), ?_⟩; obtain ⟨r1, r2⟩ := pR hcs; show ∃ h1, aCw E (.ptr b o) (.int .i64 (.ofNat at_)) (.int .i64 (.ofNat n)) h = _ /\ _; unfold aCw; rw [cF hE, aPu c1 c2 g1 g2 g3 g5, cY, nO]; rw [show (Int.ofNat 0 != Int.ofNat 0) = false from rfl, aE, dE, vQ]
     rw [show Int.ofNat n * Int.ofNat 64 = Int.ofNat (n * 64) from rfl, wrap_i64 (by omega), aE]
     have em : ∀ k : DV -> H -> aQ, jZ 1 1 (.int .u8 (.ofNat 0)) (.int .i64 (.ofNat 0)) (.int .i64 (.ofNat (n * 64))) h k = k (.slc h.size 0 0 (n * 64) false) (h.push (.blk ⟨n * 64, 1, false, true, Tr.full (.int .u8 (.ofNat 0)) 48⟩)) := by
       intro k; simp only [jZ]; rw [Nat.ble_eq_true_of_le (Nat.zero_le _), dP (show 1 * (n * 64) < 140737488355328 by omega), dP (show n * 64 < 140737488355328 by omega)]
       simp only [Bool.and_self, cond_true, H.pushK_eq]
     rw [em]; have e2 : aA (.ptr b o) = some (.ptr b o) := rfl; have e3 : aG 0 (.ptr b o) = some (.ptr b o) := by simp only [aG, aR, Nat.add_zero]
     have hpg := bX.push h (.blk ⟨n * 64, 1, false, true, Tr.full (.int .u8 (.ofNat 0)) 48⟩); have e5 : aF (h.push (.blk ⟨n * 64, 1, false, true, Tr.full (.int .u8 (.ofNat 0)) 48⟩)).get (.ptr b o) = some (.slc b2 o2 len cap op) := by
       simp only [aF, bM]; rw [pS (hpg.get b g6)]; exact c1
     have e6 : bL (.int .i64 (.ofNat at_)) (.int .i64 (.ofNat n)) = some (.int .i64 (.ofNat (at_ + n))) := by
       rw [nS, show Int.ofNat at_ + Int.ofNat n = Int.ofNat (at_ + n) from rfl, wrap_i64 (by omega)]
     have e7 : eF 1 (.slc b2 o2 len cap op) (some (.int .i64 (.ofNat at_))) (some (.int .i64 (.ofNat (at_ + n)))) = some (.slc b2 (o2 + at_) n (cap - at_) op) := by
       simp only [eF, cU, dHi, dLo]; rw [Nat.ble_eq_true_of_le (show at_ + n <= cap by omega), cond_true, Nat.ble_eq_true_of_le (show at_ <= at_ + n by omega), cond_true, dP (show at_ < cap by omega), cond_true]
       simp only [aR, Nat.mul_one]; rw [show at_ + n - at_ = n from by omega]
     have e8 : aW (.slc b2 (o2 + at_) n (cap - at_) op) = some (.int .i64 (.ofNat n)) := rfl; rw [e2, aE, e3, aE, e5, aE, e6, aE, e7, aE, e8, aE]; obtain ⟨hh', k1, k2⟩ := aEK (E := E) (h := h) (b2 := b2) (o2 := o2 + at_) (n := n) (cap := cap - at_) (c := n * 64) (op := op) g7 (by omega) cs 0 (aY - (cs.length + 1)) [] s _ _ (by omega) (λ i v hi => by rw [Nat.zero_add]; exact r2 i v hi) hs (by simpa using q1) (by simpa using hq.2) (by omega) hpg (by simp) (by rw [H.get_push, if_pos rfl]) (λ j x hj => by simp at hj)
     rw [show aY - (cs.length + 1) + (cs.length + 1) = aY from by unfold aY; omega] at k1
     exact ⟨hh', k1, k2⟩
def aAP : aX := fK 107 (aBy kP) kP
theorem aFS : fD Tryz.prog aAP := fP (tab.ok 107 aBy rfl).1 ((tab.ok 107 aBy rfl).2 kP mD) mD
theorem aMS : eN Tryz.prog 73 qQ := eN.forget ((tab.ok 73 S73 rfl).2 aAP aFS) λ args h v h' e => aMT rfl args h v h' e
def jV : bB := λ args h => Option.rec (motive := λ _ => Option (DV × H)) (S73 aAP args h) some (qQ args h)
theorem aIw : eN Tryz.prog 73 jV := eN.or aMS ((tab.ok 73 S73 rfl).2 aAP aFS)
def lO : bB := λ args h => match args with
 | [.int .i64 (.ofNat n)] => bif Nat.blt n 1000000 then (pI (List.replicate n 0)).map λ v => (v, h) else none
 | _ => none
theorem aGk {n : Nat} (hn : n < 1000000) (h : H) : lO [.int .i64 (.ofNat n)] h = some (.str (List.replicate n 0), h) := by
 show (bif Nat.blt n 1000000 then (pI (List.replicate n 0)).map λ v => (v, h) else none) = _
 rw [dP hn, fH]; rfl
theorem aIt {G : bB} (h3 : ∀ (n : Nat) (h : H), n < 1000000 -> ∃ h', G [.int .i64 (.ofNat n)] h = some (.str (List.replicate n 0), h') /\ bX h h')
   (args : List DV) (h : H) (v : DV) (h' : H) (e : lO args h = some (v, h')) : h' = h /\ rR v /\ ∃ h1, G args h = some (v, h1) /\ bX h h1 := by
 unfold lO at e; split at e
 · rename_i n; obtain ⟨hc, e⟩ := aL e; rw [Nat.blt_eq] at hc; rw [fH] at e; cases e; obtain ⟨h', e1, e2⟩ := h3 n h hc; exact ⟨rfl, rR.str _, h', e1, e2⟩
 · cases e
theorem aNd {E : aX} (hE : E 134 = some oJ) : ∀ (args : List DV) (h : H) (v : DV) (h' : H), lO args h = some (v, h') -> h' = h /\ rR v /\ ∃ h1, S91 E args h = some (v, h1) /\ bX h h1 := by
 refine aIt λ n h hn => ⟨h, ?_, bX.refl _⟩
 show aLi E (.int .i64 (.ofNat n)) h = _; unfold aLi; rw [cF hE, aDV n (by omega), cY]
def bEP : GF := ⟨3, 16, [⟨(some p5), none, (.e (.box (.r p2)))⟩, ⟨(some p6), none, (.e (.alc 1 1 (.list [(.str [])])))⟩, ⟨(some p7), none, (.e (.alc 1 1 (.list [(.int .i64 (.ofNat 0))])))⟩], ⟨(some p8), none, (.e (.mkF (.func 141) [] [(.r p6), (.r p7)]))⟩, p8, [⟨0, ⟨(some p9), none, (.e (.mv (.r p0)))⟩, [], false⟩, ⟨1, ⟨(some lT), none, (.e (.mv (.r p1)))⟩, [], false⟩, ⟨3, ⟨(some rU), none, (.e (.ldN 2 (.r p5)))⟩, [], false⟩], 2, (some p11), 96, [(.r p9), (.r lT)], [3], false, [⟨4, ⟨(some pU), none, (.c (.f 142 [(.r p11), (.r rU)]))⟩, [], false⟩, ⟨5, ⟨(some qU), none, (.e (.ext 0 (.r pU)))⟩, [], false⟩, ⟨6, ⟨(some p15), none, (.e (.ext 1 (.r pU)))⟩, [], false⟩, ⟨7, ⟨none, none, (.w (.st 1 (.r p6) (.r qU)))⟩, [], false⟩, ⟨8, ⟨none, none, (.w (.st 1 (.r p7) (.r p15)))⟩, [], false⟩], [(.cell p6), (.cell p7)]⟩
theorem aLI : aAJ Tryz.prog 101 bEP = true := by kernel_rfl
def aTW : CF := ⟨141, 8, 2, p3, p2, (.seq (.reg [⟨(some p4), none, (.e (.mv (.r p2)))⟩, ⟨(some p5), none, (.e (.eqv .nilI true (.r p4) (.c .nili)))⟩]) (.cond (.r p5) (.reg [⟨(some p6), none, (.e (.mv (.r p2)))⟩, ⟨(some p7), none, (.c (.f 95 [(.r p6)]))⟩, ⟨none, none, (.w (.st 1 (.r p0) (.c (.str []))))⟩, ⟨none, none, (.w (.st 1 (.r p1) (.r p7)))⟩]) .skip))⟩
theorem aGn : xV Tryz.prog aTW = true := by kernel_rfl
def Pn96 : PF := ⟨2, 27, (.sr (.reg [⟨(some p4), none, (.e (.mv (.c .nilp)))⟩]) (.sr (.reg [⟨(some p6), none, (.e (.mv (.r p0)))⟩, ⟨(some p7), none, (.e (.mv (.r p1)))⟩, ⟨(some p8), none, (.c (.f 33 [(.r p6), (.r p7)]))⟩, ⟨(some p5), none, (.e (.mv (.r p8)))⟩]) (.or (.sl (.sr (.reg [⟨(some p9), none, (.e (.mv (.r p5)))⟩, ⟨(some lT), none, (.e (.eqv .ptr false (.r p9) (.c .nilp)))⟩]) (.cd (.r lT) (.pan [⟨(some p11), none, (.e (.mkI 25 (.c (.int .i64 (.ofNat 1)))))⟩] (.r p11)) .no))) (.sr (.seq (.reg [⟨(some p9), none, (.e (.mv (.r p5)))⟩, ⟨(some lT), none, (.e (.eqv .ptr false (.r p9) (.c .nilp)))⟩]) (.cond (.r lT) (.reg [⟨(some p11), none, (.e (.mkI 25 (.c (.int .i64 (.ofNat 1)))))⟩, ⟨none, none, (.e .bad)⟩]) .skip)) (.sl (.sr (.reg [⟨(some rU), none, (.e (.mv (.r p5)))⟩, ⟨(some pU), none, (.e (.nilchk (.r rU)))⟩, ⟨(some qU), none, (.e (.fa 2 (.r pU)))⟩, ⟨(some p15), none, (.e (.ld (.r qU)))⟩, ⟨(some p16), none, (.e (.mv (.r p15)))⟩, ⟨(some p17), (some (p16, false)), (.e (.mv (.r p5)))⟩, ⟨(some p18), (some (p16, false)), (.e (.nilchk (.r p17)))⟩, ⟨(some p19), (some (p16, false)), (.e (.fa 3 (.r p18)))⟩, ⟨(some p20), (some (p16, false)), (.e (.ld (.r p19)))⟩, ⟨(some p21), none, (.e (.pick (.r p16) (.c (.bool true)) (.r p20)))⟩]) (.cd (.r p21) (.pan [⟨(some p22), none, (.e (.mkI 25 (.c (.int .i64 (.ofNat 8)))))⟩] (.r p22)) .no)))))))⟩
theorem aWI : aPq Tryz.prog 96 Pn96 = true := by kernel_rfl
def G63 : GF := ⟨4, 16, [⟨(some p6), none, (.e (.box (.r p2)))⟩, ⟨(some p8), none, (.e (.alc 1 1 (.list [(.int .i64 (.ofNat 0))])))⟩], ⟨(some p9), none, (.e (.mkF (.func 94) [] [(.r p8)]))⟩, p9, [⟨0, ⟨(some lT), none, (.e (.mv (.r p0)))⟩, [], false⟩, ⟨1, ⟨(some p11), none, (.e (.mv (.r p1)))⟩, [], false⟩, ⟨3, ⟨(some pU), none, (.e (.ldN 2 (.r p6)))⟩, [], false⟩, ⟨4, ⟨(some qU), none, (.e (.mv (.r p3)))⟩, [], false⟩], 2, (some rU), 96, [(.r lT), (.r p11)], [3], false, [⟨5, ⟨(some p15), none, (.c (.f 97 [(.r rU), (.r pU), (.r qU), (.c (.int .i64 (.negSucc 0)))]))⟩, [], false⟩, ⟨6, ⟨none, none, (.w (.st 1 (.r p8) (.r p15)))⟩, [], false⟩], [(.cell p8)]⟩
theorem aTh : aAJ Tryz.prog 63 G63 = true := by kernel_rfl
def bFJ : CF := ⟨94, 7, 1, p2, p1, (.seq (.reg [⟨(some p3), none, (.e (.mv (.r p1)))⟩, ⟨(some p4), none, (.e (.eqv .nilI true (.r p3) (.c .nili)))⟩]) (.cond (.r p4) (.reg [⟨(some p5), none, (.e (.mv (.r p1)))⟩, ⟨(some p6), none, (.c (.f 95 [(.r p5)]))⟩, ⟨none, none, (.w (.st 1 (.r p0) (.r p6)))⟩]) .skip))⟩
theorem aLL : xV Tryz.prog bFJ = true := by kernel_rfl
def aPy : aX := fK 134 oJ kP
def aPx : aX := fK 73 jV (fK 182 pF (fK 199 lP (fK 91 lO aPy)))
def EG : aX := SE aPx table aY
def aDU : bB := aZC EG Pn96
def aLK : bB := λ args h => Option.rec (motive := λ _ => Option (DV × H)) (aVb EG aDU bEP aTW args h) some (aJv EG bEP aTW args h)
def aLJ : bB := λ args h => Option.rec (motive := λ _ => Option (DV × H)) (aVb EG aDU G63 bFJ args h) some (aJv EG G63 bFJ args h)
def aJS : aX := fK 101 aLK (fK 63 aLJ aPx)
def base : aX := fK 17 tR aJS
theorem aFV : fD Tryz.prog aPy := fP (by kernel_rfl) aGl mD
theorem aIs : eN Tryz.prog 91 lO := eN.forget ((tab.ok 91 S91 (by kernel_rfl)).2 aPy aFV) (aNd (by kernel_rfl))
theorem aFU : fD Tryz.prog aPx := fP (tab.ok 73 S73 rfl).1 aIw (fP (tab.ok 182 aHy rfl).1 aMV (fP (tab.ok 199 aFZ rfl).1 aBd (fP (tab.ok 91 S91 (by kernel_rfl)).1 aIs aFV)))
theorem aGm : fD Tryz.prog EG := aPH aFU tab aY
theorem aBc : aDw Tryz.prog 96 aDU := aMA aGm aWI
theorem aIv : eN Tryz.prog 101 aLK := eN.or (xQ aGm aLI aGn) (aAg aGm aBc aLI aGn)
theorem aIu : eN Tryz.prog 63 aLJ := eN.or (xQ aGm aTh aLL) (aAg aGm aBc aTh aLL)
theorem aFT : fD Tryz.prog aJS := fP (by kernel_rfl) aIv (fP (by kernel_rfl) aIu aFU)
theorem aMO : (S17 (SE aJS table aY) [] H0).map (λ x => x.1) = some (.bool true) := by kernel_rfl
theorem aIy : eN Tryz.prog 17 tR := aGC (B := aJS) (n := aY) aFT tab (show Tr.at_ table 17 = some S17 by kernel_rfl) aMO
theorem aWe : fD Tryz.prog base := fP (tab.ok 17 S17 rfl).1 aIy aFT
end Go.Proofs.YthpciaidbgjoeaaGreat
end
