/- Functions told by what they compute: the sums, a device's reading, strings.Repeat by its contract, and the three that recover. No condition. -/
import Derived.Test.YtlofaapaahpjfaaGreatDoorT
import Derived.Test.YtlofaapaahpjfaaGreatDoorShelf
import Derived.Test.YtlofaapaahpjfaaGreatDoorAs
import Derived.KernelRfl
set_option linter.unusedVariables false
namespace Go.Proofs.YtlofaapaahpjfaaGreatDoor
open Go.DI
theorem F_repeat_ok : Sound Tryz.prog 242 F_repeat := repeat_sound fun s c w h1 h2 => Tryz.strings_Repeat s c w h1 h2
/-! ## sums.eight, sums.More -/
theorem sum_neg (c : Nat) : v_neg (.int .u32 (.ofNat (c % 2))) = some (.int .u32 (.ofNat (bif Nat.beq (c % 2) 0 then 0 else 4294967295))) := by
  have h : c % 2 = 0 ∨ c % 2 = 1 := by omega
  rcases h with h | h <;> rw [h] <;> rfl
theorem sum_round (E : Env) (i : DV → DV → H → Ans) (c k : Nat) (h : H) (hc : c < 4294967296) (hk : 0 < k) (hk2 : k < 9) :
    B276_1 E i (.int .u32 (.ofNat c)) (.int .i64 (.ofNat k)) h = if k = 1 then some (.int .u32 (.ofNat (sumStep c)), h) else i (.int .u32 (.ofNat (sumStep c))) (.int .i64 (.ofNat (k - 1))) h := by
  have e1 := v_shr_nat .u32 .u64 c 1 (by decide)
  have e2 : v_and (.int .u32 (.ofNat c)) (.int .u32 (.ofNat 1)) = some (.int .u32 (.ofNat (c % 2))) := by
    rw [v_and_nat .u32 c 1 hc (by decide), Nat.and_one_is_mod, wrap_u32 (by omega)]
  have e3 : v_and (.int .u32 (.ofNat 3988292384)) (.int .u32 (.ofNat (bif Nat.beq (c % 2) 0 then 0 else 4294967295))) = some (.int .u32 (.ofNat (bif Nat.beq (c % 2) 0 then 0 else 3988292384))) := by
    cases Nat.beq (c % 2) 0 <;> rfl
  have e4 : v_xor (.int .u32 (.ofNat (c / 2 ^ 1))) (.int .u32 (.ofNat (bif Nat.beq (c % 2) 0 then 0 else 3988292384))) = some (.int .u32 (.ofNat (sumStep c))) := by
    have h1 := sumStep_lt hc
    rw [v_xor_nat .u32 _ _ (Nat.lt_of_le_of_lt (Nat.div_le_self _ _) hc) (by cases Nat.beq (c % 2) 0 <;> decide)]
    show some (DV.int .u32 (IntKind.u32.wrap (.ofNat (sumStep c)))) = _
    rw [wrap_u32 h1]
  have e5 : v_sub (.int .i64 (.ofNat k)) (.int .i64 (.ofNat 1)) = some (.int .i64 (.ofNat (k - 1))) := by
    rw [v_sub_int, show (Int.ofNat k - Int.ofNat 1) = Int.ofNat (k - 1) from by simp only [Int.ofNat_eq_natCast]; omega, wrap_i64 (by omega)]
  have e6 : v_gtr (.int .i64 (.ofNat (k - 1))) (.int .i64 (.ofNat 0)) = some (.bool (decide (k ≠ 1))) := by
    rw [v_gtr_int]; congr 2; rw [decide_eq_decide]; simp only [Int.ofNat_eq_natCast]; omega
  unfold B276_1
  rw [e1, vK_some, e2, vK_some, sum_neg, vK_some, e3, vK_some, e4, vK_some, e5, vK_some, e6, vK_some]
  by_cases h1 : k = 1
  · rw [if_pos h1, show decide (k ≠ 1) = false from by simp [h1]]; rfl
  · rw [if_neg h1, show decide (k ≠ 1) = true from by simp [h1]]; rfl
theorem sum_rounds (E : Env) (h : H) : ∀ (k n c : Nat), c < 4294967296 → k < 8 →
    L276_1 E (n + (k + 1)) (.int .u32 (.ofNat c)) (.int .i64 (.ofNat (k + 1))) h = some (.int .u32 (.ofNat (sumSteps (k + 1) c)), h) := by
  intro k
  induction k with
  | zero =>
    intro n c hc _
    show B276_1 E (L276_1 E n) _ _ h = _
    rw [sum_round E _ c 1 h hc (by omega) (by omega), if_pos rfl]; rfl
  | succ k ih =>
    intro n c hc hk
    show B276_1 E (L276_1 E (n + (k + 1))) _ _ h = _
    rw [sum_round E _ c (k + 1 + 1) h hc (by omega) (by omega), if_neg (by omega)]
    exact ih n (sumStep c) (sumStep_lt hc) (by omega)
theorem eight_eq (E : Env) (h : H) (c : Nat) (hc : c < 4294967296) : S276 E [.int .u32 (.ofNat c)] h = some (.int .u32 (.ofNat (sumSteps 8 c)), h) := by
  show B276_1 E (L276_1 E FUEL) (.int .u32 (.ofNat c)) (.int .i64 (.ofNat 8)) h = _
  rw [sum_round E _ c 8 h hc (by omega) (by omega), if_neg (by omega), show FUEL = (FUEL - 7) + (6 + 1) from by unfold FUEL; rfl]
  exact sum_rounds E h 6 _ _ (sumStep_lt hc) (by omega)
noncomputable def F_eight : Fun := fun args h => match args with
  | [.int .u32 (.ofNat c)] => bif Nat.blt c 4294967296 then fNat (sumSteps 8 c) fun n => some (.int .u32 (.ofNat n), h) else none
  | _ => none
theorem F_eight_eq (E : Env) (args : List DV) (h : H) (r : DV × H) (e : F_eight args h = some r) : S276 E args h = some r := by
  unfold F_eight at e
  split at e
  · rename_i c
    obtain ⟨hc, e⟩ := bif_some' e
    rw [Nat.blt_eq] at hc
    rw [fNat_eq] at e
    rw [eight_eq E h c hc]; exact e
  · cases e
noncomputable def sumMore (c : Nat) (s : List Nat) : Nat := List.rec (motive := fun _ => Nat → Nat) (fun c => c) (fun b _ ih c => fNat (Nat.xor c b) fun c => fNat (sum8 c) ih) s c
theorem sumMore_cons (c b : Nat) (s : List Nat) : sumMore c (b :: s) = sumMore (sumSteps 8 (c ^^^ b)) s := by
  show (fNat (Nat.xor c b) fun c => fNat (sum8 c) fun c => sumMore c s) = _
  rw [fNat_eq, fNat_eq, sum8_eq]; rfl
theorem xor_lt {c b : Nat} (hc : c < 4294967296) (hb : b < 256) : c ^^^ b < 4294967296 := Nat.xor_lt_two_pow (n := 32) hc (by omega)
theorem sumMore_lt : ∀ (s : List Nat) (c : Nat), c < 4294967296 → okStr s = true → sumMore c s < 4294967296
  | [], c, hc, _ => hc
  | b :: s, c, hc, hs => by
    simp only [okStr, Bool.and_eq_true, Nat.blt_eq] at hs
    rw [sumMore_cons]; exact sumMore_lt s _ (sumSteps_lt 8 _ (xor_lt hc hs.1)) hs.2
theorem more_rounds {E : Env} (hE : E 276 = some F_eight) (s0 : List Nat) (h : H) (hl : s0.length < 4611686018427387904) (hs0 : okStr s0 = true) : ∀ (s p : List Nat) (n c : Nat), s0 = p ++ s → c < 4294967296 →
    L243_2 E (.str s0) (.int .i64 (.ofNat s0.length)) (n + (s.length + 1)) (.int .u32 (.ofNat c)) (.int .i64 (.ofNat p.length)) h = some (.int .u32 (.ofNat (sumMore c s ^^^ 4294967295)), h) := by
  intro s
  induction s with
  | nil =>
    intro p n c e hc
    have hp : p.length = s0.length := by rw [e]; simp
    show B243_2 E _ _ (L243_2 E _ _ n) _ _ h = _
    unfold B243_2
    rw [v_lss_int, vK_some, hp]
    rw [show decide (Int.ofNat s0.length < Int.ofNat s0.length) = false from by simp, bK_false]
    unfold J243_1
    rw [v_xor_nat .u32 _ _ (by decide) hc, vK_some, Nat.xor_comm]
    rw [wrap_u32 (Nat.xor_lt_two_pow (n := 32) hc (by decide))]; rfl
  | cons b s ih =>
    intro p n c e hc
    have hb : okStr (b :: s) = true := okStr_sub hs0 fun x hx => by rw [e]; exact List.mem_append_right _ hx
    simp only [okStr, Bool.and_eq_true, Nat.blt_eq] at hb
    have hp : p.length < s0.length := by rw [e]; simp
    show B243_2 E _ _ (L243_2 E _ _ (n + (s.length + 1))) _ _ h = _
    unfold B243_2
    rw [v_lss_int, vK_some]
    rw [show decide (Int.ofNat p.length < Int.ofNat s0.length) = true from by simp only [Int.ofNat_eq_natCast, decide_eq_true_iff]; omega, bK_true]
    rw [v_ixS_str (b := b) (by rw [e]; simp), vK_some, v_conv_int, vK_some, wrap_u32 (by omega), v_xor_nat .u32 _ _ hc (by show b < 4294967296; omega), vK_some, wrap_u32 (xor_lt hc hb.1)]
    rw [callK_some hE]
    have e8 : F_eight [.int .u32 (.ofNat (c ^^^ b))] h = some (.int .u32 (.ofNat (sumSteps 8 (c ^^^ b))), h) := by
      show (bif Nat.blt (c ^^^ b) 4294967296 then fNat (sumSteps 8 (c ^^^ b)) (fun n => some (DV.int .u32 (.ofNat n), h)) else none) = _
      rw [blt_t (xor_lt hc hb.1), cond_true, fNat_eq]
    rw [e8, wK_some, v_add_int, vK_some, show (Int.ofNat p.length + Int.ofNat 1) = Int.ofNat (p.length + 1) from rfl, wrap_i64 (by omega)]
    have := ih (p ++ [b]) n (sumSteps 8 (c ^^^ b)) (by rw [e]; simp) (sumSteps_lt 8 _ (xor_lt hc hb.1))
    rw [List.length_append] at this
    rw [sumMore_cons]; exact this
theorem more_eq {E : Env} (hE : E 276 = some F_eight) (s : List Nat) (h : H) (hl : s.length < 4611686018427387904) (hs : okStr s = true) (c : Nat) (hc : c < 4294967296) (hf : s.length + 1 ≤ FUEL) :
    S243 E [.int .u32 (.ofNat c), .str s] h = some (.int .u32 (.ofNat (sumMore (c ^^^ 4294967295) s ^^^ 4294967295)), h) := by
  show J243_0 E (.int .u32 (.ofNat c)) (.str s) h = _
  unfold J243_0
  have hx : c ^^^ 4294967295 < 4294967296 := Nat.xor_lt_two_pow (n := 32) hc (by decide)
  rw [v_xor_nat .u32 _ _ (by decide) hc, vK_some, v_lenS_str, vK_some, Nat.xor_comm, wrap_u32 hx]
  have := more_rounds hE s h hl hs s [] (FUEL - (s.length + 1)) (c ^^^ 4294967295) rfl hx
  rw [show FUEL - (s.length + 1) + (s.length + 1) = FUEL from by omega] at this
  exact this
noncomputable def F_more : Fun := fun args h => match args with
  | [.int .u32 (.ofNat c), .str s] => bif Nat.blt c 4294967296 && Nat.blt s.length 100000000000000 && okStr s then fNat (Nat.xor (sumMore (Nat.xor c 4294967295) s) 4294967295) fun n => some (.int .u32 (.ofNat n), h) else none
  | _ => none
theorem F_more_eq {E : Env} (hE : E 276 = some F_eight) (args : List DV) (h : H) (r : DV × H) (e : F_more args h = some r) : S243 E args h = some r := by
  unfold F_more at e
  split at e
  · rename_i c s
    obtain ⟨hc, e⟩ := bif_some' e
    rw [Bool.and_eq_true, Bool.and_eq_true, Nat.blt_eq, Nat.blt_eq] at hc
    rw [fNat_eq] at e
    rw [more_eq hE s h (by omega) hc.2 c hc.1.1 (by unfold FUEL; omega)]; exact e
  · cases e
noncomputable def base8 : Env := addPrim 276 F_eight noPrims
theorem F_eight_ok : Sound Tryz.prog 276 F_eight := ((tab.ok 276 S276 rfl).2 noPrims noPrims_ok).mono fun args h r e => F_eight_eq _ args h r e
theorem base8_ok : EnvOk Tryz.prog base8 := addPrim_ok (tab.ok 276 S276 rfl).1 F_eight_ok noPrims_ok
theorem F_more_ok : Sound Tryz.prog 243 F_more := ((tab.ok 243 S243 rfl).2 base8 base8_ok).mono fun args h r e => F_more_eq rfl args h r e
/-! ## (*sector.Device).Read, where it answers -/
noncomputable def F_read : Fun := fun args h => match args with
  | [.ptr b o, .int .i64 (.ofNat at_), .int .i64 (.ofNat n)] => match rdCellF h.get b o, rdCellF h.get b (o + 2) with
    | some (.slc b2 o2 len cap op), some (.bool false) =>
      bif Nat.ble 1 n && Nat.ble at_ len && Nat.ble n (len - at_) && Nat.ble len cap && Nat.blt len 1000000000 && Nat.blt b h.size && Nat.blt b2 h.size then
        (rdCellsF h.get b2 (o2 + at_) n).bind fun cs => (catS cs).bind fun s => bif Nat.ble s.length (n * 64) && okStrF s then (dStr s).map fun v => (.tup [v, .int .i64 (.ofNat 0)], h) else none
      else none
    | _, _ => none
  | _ => none
theorem check_ok {E : Env} {h : H} {b o at_ n b2 o2 len cap : Nat} {op : Bool} (h1 : rdCell h.get b o = some (.slc b2 o2 len cap op)) (h2 : rdCell h.get b (o + 2) = some (.bool false)) (hn : 1 ≤ n) (ha : at_ ≤ len) (hl : n ≤ len - at_) (hs : len < 1000000000) :
    S190 E [.ptr b o, .int .i64 (.ofNat at_), .int .i64 (.ofNat n), .bool true] h = some (.int .i64 (.ofNat 0), h) := by
  show J190_0 E (.ptr b o) (.int .i64 (.ofNat at_)) (.int .i64 (.ofNat n)) (.bool true) h = _
  unfold J190_0
  have e1 : v_eqv .ptr false h.get (.ptr b o) .nilp = some (.bool false) := rfl
  have e2 : v_nilchk (.ptr b o) = some (.ptr b o) := rfl
  have e3 : v_fa 0 (.ptr b o) = some (.ptr b o) := by simp only [v_fa, fNat_eq, Nat.add_zero]
  have e4 : v_fa 2 (.ptr b o) = some (.ptr b (o + 2)) := by simp only [v_fa, fNat_eq]
  have e5 : v_ld h.get (.ptr b o) = some (.slc b2 o2 len cap op) := by simp only [v_ld, rdCellF_eq, h1]
  have e6 : v_ld h.get (.ptr b (o + 2)) = some (.bool false) := by simp only [v_ld, rdCellF_eq, h2]
  have e7 : v_lenL (.slc b2 o2 len cap op) = some (.int .i64 (.ofNat len)) := rfl
  have d1 : decide (Int.ofNat at_ < Int.ofNat 0) = false := by simp
  have d2 : decide (Int.ofNat n < Int.ofNat 1) = false := by simp only [Int.ofNat_eq_natCast, decide_eq_false_iff_not]; omega
  have d3 : decide (Int.ofNat len < Int.ofNat at_) = false := by simp only [Int.ofNat_eq_natCast, decide_eq_false_iff_not]; omega
  have d4 : Int.ofNat len - Int.ofNat at_ = Int.ofNat (len - at_) := by simp only [Int.ofNat_eq_natCast]; omega
  have d5 : decide (Int.ofNat (len - at_) < Int.ofNat n) = false := by simp only [Int.ofNat_eq_natCast, decide_eq_false_iff_not]; omega
  simp only [e1, vK_some, gdK_ff, v_lss_int, d1, v_pick_f, d2, v_not_bool, Bool.not_true, bK_false, e2, e3, e5, e7, v_gtr_int, d3, v_sub_int, d4, wrap_i64 (show len - at_ < 9223372036854775808 by omega), d5, e4, e6]
theorem read_rounds {E : Env} {h : H} {b2 o2 n cap c : Nat} {op : Bool} (hb2 : b2 < h.size) (hn : n < 1000000000) : ∀ (rest : List DV) (k m : Nat) (acc s : List Nat) (hh : H) (t : Tr DV),
    k + rest.length = n → (∀ i v, rest[i]? = some v → rdCell h.get b2 (o2 + (k + i)) = some v) → catS rest = some s → acc.length + s.length ≤ c → okStr (acc ++ s) = true → c < 1000000000000 →
    Grown h hh → h.size < hh.size → hh.get h.size = some (.blk ⟨c, 1, false, true, t⟩) → (∀ j x, acc[j]? = some x → t.at_ j = some (byteV x)) →
    ∃ hh', L130_2 E (.slc b2 o2 n cap op) (.int .i64 (.ofNat n)) (m + (rest.length + 1)) (.slc h.size 0 acc.length c false) (.int .i64 (.ofNat k)) hh = some (.tup [.str (acc ++ s), .int .i64 (.ofNat 0)], hh') ∧ Grown h hh' := by
  intro rest
  induction rest with
  | nil =>
    intro k m acc s hh t hk hc hs hl hok hcs hg hsz hB ht
    cases hs
    rw [List.append_nil] at hok ⊢
    refine ⟨hh, ?_, hg⟩
    show B130_2 E _ _ (L130_2 E _ _ m) _ _ hh = _
    unfold B130_2
    have d1 : decide (Int.ofNat k < Int.ofNat n) = false := by simp only [Int.ofNat_eq_natCast, decide_eq_false_iff_not]; simp only [List.length_nil] at hk; omega
    have e1 : v_b2s hh.get (.slc h.size 0 acc.length c false) = some (.str acc) := by
      have hr : rdCells hh.get h.size 0 (bytesV acc).length = some (bytesV acc) := rdCells_of _ _ fun i v hi => by
        rw [Nat.zero_add]
        unfold bytesV at hi
        rw [List.getElem?_map] at hi
        cases hx : acc[i]? with
        | none => rw [hx] at hi; cases hi
        | some x =>
          rw [hx] at hi; cases hi
          have hlt : i < acc.length := by
            rcases Nat.lt_or_ge i acc.length with h1 | h1
            · exact h1
            · rw [List.getElem?_eq_none h1] at hx; cases hx
          rw [rdCell_blk hB (by show i < c; simp only [List.length_nil] at hl; omega)]
          exact ht i x hx
      have hlen : (bytesV acc).length = acc.length := by simp [bytesV]
      rw [hlen] at hr
      simp only [v_b2s, rdCellsF_eq, hr, Option.bind_some, bytesOf_map hok, dStr_eq]
    rw [v_lss_int, d1, vK_some, bK_false]
    unfold J130_1
    rw [e1, vK_some]
  | cons v rest ih =>
    intro k m acc s hh t hk hc hs hl hok hcs hg hsz hB ht
    have hkn : k < n := by simp only [List.length_cons] at hk; omega
    show ∃ hh', B130_2 E _ _ (L130_2 E _ _ (m + (rest.length + 1))) _ _ hh = _ ∧ _
    unfold B130_2
    have d1 : decide (Int.ofNat k < Int.ofNat n) = true := by simp only [Int.ofNat_eq_natCast, decide_eq_true_iff]; omega
    -- the sector
    cases v <;> first | (cases hs; done) | skip
    rename_i u
    replace hs : Option.rec (motive := fun _ => Option (List Nat)) none (fun t => some (appF u t)) (catS rest) = some s := hs
    cases hrest : catS rest with
    | none => rw [hrest] at hs; cases hs
    | some r =>
      rw [hrest] at hs
      have hs' : u ++ r = s := by have : appF u r = s := Option.some.inj hs; rw [appF_eq] at this; exact this
      subst hs'
      have e1 : v_iaS 1 (.slc b2 o2 n cap op) (.int .i64 (.ofNat k)) = some (.ptr b2 (o2 + k)) := by
        simp only [v_iaS, dIdx, fNat_eq]; rw [blt_t hkn]; simp
      have e2 : v_ld hh.get (.ptr b2 (o2 + k)) = some (.str u) := by
        have := hc 0 _ rfl
        simp only [v_ld, rdCellF_eq]
        rw [rdCell_same (hg.get b2 hb2)]; exact this
      simp only [List.length_append] at hl
      obtain ⟨h1, t1, f1, f2, f3, f4, f5⟩ := dStore_some (h := hh) (b := h.size) (o := acc.length) (vs := bytesV u) hB rfl (by simp [bytesV]; omega) (all_one_bytes u)
      have e3 : dAppendF 1 1 (.slc h.size 0 acc.length c false) (.str u) hh = some (.slc h.size 0 (acc.length + u.length) c false, h1) := by
        rw [dAppendF_eq]
        unfold dAppend
        have a1 : srcLen (.str u) = some u.length := fNat_eq _ _
        have a2 : srcCells 1 hh.get (.str u) = some (bytesV u) := rfl
        rw [a1, a2]
        simp only [Option.bind_some, fNat_eq]
        rw [Nat.ble_eq_true_of_le (show acc.length + u.length ≤ c by omega), cond_true, Nat.zero_add, Nat.mul_one, f1]; rfl
      have e4 : v_add (.int .i64 (.ofNat k)) (.int .i64 (.ofNat 1)) = some (.int .i64 (.ofNat (k + 1))) := by
        rw [v_add_int, show Int.ofNat k + Int.ofNat 1 = Int.ofNat (k + 1) from rfl, wrap_i64 (by omega)]
      rw [v_lss_int, d1, vK_some, bK_true, e1, vK_some, e2, vK_some, e3, wK_some, e4, vK_some]
      have := ih (k + 1) m (acc ++ u) r h1 t1 (by simp only [List.length_cons] at hk; omega)
        (fun i v hi => by have := hc (i + 1) v (by simpa using hi); rw [show k + 1 + i = k + (i + 1) from by omega]; exact this) hrest (by simp only [List.length_append]; omega) (by rw [List.append_assoc]; exact hok) hcs
        ⟨by rw [f2]; exact hg.size, fun b hb => by rw [f3 b (by omega)]; exact hg.get b hb⟩ (by rw [f2]; exact hsz) f4 (fun j x hj => by
          rw [f5]
          have hlen : (bytesV u).length = u.length := by simp [bytesV]
          rcases Nat.lt_or_ge j acc.length with hlt | hge
          · rw [if_neg (by omega)]
            rw [List.getElem?_append_left hlt] at hj
            exact ht j x hj
          · rw [List.getElem?_append_right hge] at hj
            have hlt : j - acc.length < u.length := by
              rcases Nat.lt_or_ge (j - acc.length) u.length with h1 | h1
              · exact h1
              · rw [List.getElem?_eq_none h1] at hj; cases hj
            rw [if_pos ⟨hge, by omega⟩]
            unfold bytesV
            rw [List.getElem?_map, hj]; rfl)
      rw [List.length_append, List.append_assoc] at this
      exact this
theorem F_read_eq {E E0 : Env} (hE : E 190 = some (S190 E0)) (args : List DV) (h : H) (v : DV) (h' : H) (e : F_read args h = some (v, h')) : h' = h ∧ Flat v ∧ ∃ h1, S130 E args h = some (v, h1) ∧ Grown h h1 := by
  unfold F_read at e
  split at e
  rotate_left
  · cases e
  rename_i b o at_ n
  split at e
  rotate_left
  · cases e
  rename_i b2 o2 len cap op c1 c2
  rw [rdCellF_eq] at c1 c2
  obtain ⟨hc, e⟩ := bif_some' e
  simp only [Bool.and_eq_true, Nat.blt_eq] at hc
  obtain ⟨⟨⟨⟨⟨⟨g1, g2⟩, g3⟩, g4⟩, g5⟩, g6⟩, g7⟩ := hc
  have g1 := Nat.le_of_ble_eq_true g1
  have g2 := Nat.le_of_ble_eq_true g2
  have g3 := Nat.le_of_ble_eq_true g3
  have g4 := Nat.le_of_ble_eq_true g4
  rw [rdCellsF_eq] at e
  cases hcs : rdCells h.get b2 (o2 + at_) n with
  | none => rw [hcs] at e; cases e
  | some cs =>
    rw [hcs] at e
    simp only [Option.bind_some] at e
    cases hs : catS cs with
    | none => rw [hs] at e; cases e
    | some s =>
      rw [hs] at e
      simp only [Option.bind_some] at e
      obtain ⟨hq, e⟩ := bif_some' e
      rw [Bool.and_eq_true, okStrF_eq] at hq
      have q1 := Nat.le_of_ble_eq_true hq.1
      rw [dStr_eq] at e
      cases e
      refine ⟨rfl, Flat.tup2 (Flat.str _) (Flat.int _ _), ?_⟩
      obtain ⟨r1, r2⟩ := rdCells_get hcs
      show ∃ h1, J130_0 E (.ptr b o) (.int .i64 (.ofNat at_)) (.int .i64 (.ofNat n)) h = _ ∧ _
      unfold J130_0
      rw [callK_some hE, check_ok c1 c2 g1 g2 g3 g5, wK_some, v_neq_int]
      rw [show (Int.ofNat 0 != Int.ofNat 0) = false from rfl, vK_some, bK_false, v_mul_int]
      rw [show Int.ofNat n * Int.ofNat 64 = Int.ofNat (n * 64) from rfl, wrap_i64 (by omega), vK_some]
      have em : ∀ k : DV → H → Ans, n_mks 1 1 (.int .u8 (.ofNat 0)) (.int .i64 (.ofNat 0)) (.int .i64 (.ofNat (n * 64))) h k = k (.slc h.size 0 0 (n * 64) false) (h.push (.blk ⟨n * 64, 1, false, true, Tr.full (.int .u8 (.ofNat 0)) 48⟩)) := by
        intro k
        simp only [n_mks]
        rw [Nat.ble_eq_true_of_le (Nat.zero_le _), blt_t (show 1 * (n * 64) < 140737488355328 by omega), blt_t (show n * 64 < 140737488355328 by omega)]
        simp only [Bool.and_self, cond_true, H.pushK_eq]
      rw [em]
      have e2 : v_nilchk (.ptr b o) = some (.ptr b o) := rfl
      have e3 : v_fa 0 (.ptr b o) = some (.ptr b o) := by simp only [v_fa, fNat_eq, Nat.add_zero]
      have hpg := Grown.push h (.blk ⟨n * 64, 1, false, true, Tr.full (.int .u8 (.ofNat 0)) 48⟩)
      have e5 : v_ld (h.push (.blk ⟨n * 64, 1, false, true, Tr.full (.int .u8 (.ofNat 0)) 48⟩)).get (.ptr b o) = some (.slc b2 o2 len cap op) := by
        simp only [v_ld, rdCellF_eq]; rw [rdCell_same (hpg.get b g6)]; exact c1
      have e6 : v_add (.int .i64 (.ofNat at_)) (.int .i64 (.ofNat n)) = some (.int .i64 (.ofNat (at_ + n))) := by
        rw [v_add_int, show Int.ofNat at_ + Int.ofNat n = Int.ofNat (at_ + n) from rfl, wrap_i64 (by omega)]
      have e7 : v_slL 1 (.slc b2 o2 len cap op) (some (.int .i64 (.ofNat at_))) (some (.int .i64 (.ofNat (at_ + n)))) = some (.slc b2 (o2 + at_) n (cap - at_) op) := by
        simp only [v_slL, dBounds, dHi, dLo]
        rw [Nat.ble_eq_true_of_le (show at_ + n ≤ cap by omega), cond_true, Nat.ble_eq_true_of_le (show at_ ≤ at_ + n by omega), cond_true, blt_t (show at_ < cap by omega), cond_true]
        simp only [fNat_eq, Nat.mul_one]
        rw [show at_ + n - at_ = n from by omega]
      have e8 : v_lenL (.slc b2 (o2 + at_) n (cap - at_) op) = some (.int .i64 (.ofNat n)) := rfl
      rw [e2, vK_some, e3, vK_some, e5, vK_some, e6, vK_some, e7, vK_some, e8, vK_some]
      obtain ⟨hh', k1, k2⟩ := read_rounds (E := E) (h := h) (b2 := b2) (o2 := o2 + at_) (n := n) (cap := cap - at_) (c := n * 64) (op := op) g7 (by omega) cs 0 (FUEL - (cs.length + 1)) [] s _ _ (by omega) (fun i v hi => by rw [Nat.zero_add]; exact r2 i v hi) hs (by simpa using q1) (by simpa using hq.2) (by omega) hpg (by simp) (by rw [H.get_push, if_pos rfl]) (fun j x hj => by simp at hj)
      rw [show FUEL - (cs.length + 1) + (cs.length + 1) = FUEL from by unfold FUEL; omega] at k1
      exact ⟨hh', k1, k2⟩
noncomputable def baseR : Env := addPrim 190 (S190 noPrims) noPrims
theorem baseR_ok : EnvOk Tryz.prog baseR := addPrim_ok (tab.ok 190 S190 rfl).1 ((tab.ok 190 S190 rfl).2 noPrims noPrims_ok) noPrims_ok
theorem F_read_ok : Sound Tryz.prog 130 F_read := Sound.forget ((tab.ok 130 S130 rfl).2 baseR baseR_ok) fun args h v h' e => F_read_eq rfl args h v h' e
noncomputable def F_reads : Fun := fun args h => Option.rec (motive := fun _ => Option (DV × H)) (S130 baseR args h) some (F_read args h)
theorem F_reads_ok : Sound Tryz.prog 130 F_reads := Sound.or F_read_ok ((tab.ok 130 S130 rfl).2 baseR baseR_ok)
def G278 : GF := ⟨3, 16, [⟨(some p5), none, (.e (.box (.r p2)))⟩, ⟨(some p6), none, (.e (.alc 1 1 (.list [(.str [])])))⟩, ⟨(some p7), none, (.e (.alc 1 1 (.list [(.int .i64 (.ofNat 0))])))⟩], ⟨(some p8), none, (.e (.mkF (.func 314) [] [(.r p6), (.r p7)]))⟩, p8, [⟨0, ⟨(some p9), none, (.e (.mv (.r p0)))⟩, [], false⟩, ⟨1, ⟨(some p10), none, (.e (.mv (.r p1)))⟩, [], false⟩, ⟨3, ⟨(some p12), none, (.e (.ldN 2 (.r p5)))⟩, [], false⟩], 2, (some p11), 233, [(.r p9), (.r p10)], [3], false, [⟨4, ⟨(some p13), none, (.c (.f 315 [(.r p11), (.r p12)]))⟩, [], false⟩, ⟨5, ⟨(some p14), none, (.e (.ext 0 (.r p13)))⟩, [], false⟩, ⟨6, ⟨(some p15), none, (.e (.ext 1 (.r p13)))⟩, [], false⟩, ⟨7, ⟨none, none, (.w (.st 1 (.r p6) (.r p14)))⟩, [], false⟩, ⟨8, ⟨none, none, (.w (.st 1 (.r p7) (.r p15)))⟩, [], false⟩], [(.cell p6), (.cell p7)]⟩
theorem G278_ok : chkGF Tryz.prog 278 G278 = true := by kernel_rfl
def Cl314 : CF := ⟨314, 8, 2, p3, p2, (.seq (.reg [⟨(some p4), none, (.e (.mv (.r p2)))⟩, ⟨(some p5), none, (.e (.eqv .nilI true (.r p4) (.c .nili)))⟩]) (.cond (.r p5) (.reg [⟨(some p6), none, (.e (.mv (.r p2)))⟩, ⟨(some p7), none, (.c (.f 232 [(.r p6)]))⟩, ⟨none, none, (.w (.st 1 (.r p0) (.c (.str []))))⟩, ⟨none, none, (.w (.st 1 (.r p1) (.r p7)))⟩]) .skip))⟩
theorem Cl314_ok : chkCF Tryz.prog Cl314 = true := by kernel_rfl
def Pn233 : PF := ⟨2, 27, (.sr (.reg [⟨(some p4), none, (.e (.mv (.c .nilp)))⟩]) (.sr (.reg [⟨(some p6), none, (.e (.mv (.r p0)))⟩, ⟨(some p7), none, (.e (.mv (.r p1)))⟩, ⟨(some p8), none, (.c (.f 263 [(.r p6), (.r p7)]))⟩, ⟨(some p5), none, (.e (.mv (.r p8)))⟩]) (.or (.sl (.sr (.reg [⟨(some p9), none, (.e (.mv (.r p5)))⟩, ⟨(some p10), none, (.e (.eqv .ptr false (.r p9) (.c .nilp)))⟩]) (.cd (.r p10) (.pan [⟨(some p11), none, (.e (.mkI 34 (.c (.int .i64 (.ofNat 1)))))⟩] (.r p11)) .no))) (.sr (.seq (.reg [⟨(some p9), none, (.e (.mv (.r p5)))⟩, ⟨(some p10), none, (.e (.eqv .ptr false (.r p9) (.c .nilp)))⟩]) (.cond (.r p10) (.reg [⟨(some p11), none, (.e (.mkI 34 (.c (.int .i64 (.ofNat 1)))))⟩, ⟨none, none, (.e .bad)⟩]) .skip)) (.sl (.sr (.reg [⟨(some p12), none, (.e (.mv (.r p5)))⟩, ⟨(some p13), none, (.e (.nilchk (.r p12)))⟩, ⟨(some p14), none, (.e (.fa 2 (.r p13)))⟩, ⟨(some p15), none, (.e (.ld (.r p14)))⟩, ⟨(some p16), none, (.e (.mv (.r p15)))⟩, ⟨(some p17), (some (p16, false)), (.e (.mv (.r p5)))⟩, ⟨(some p18), (some (p16, false)), (.e (.nilchk (.r p17)))⟩, ⟨(some p19), (some (p16, false)), (.e (.fa 3 (.r p18)))⟩, ⟨(some p20), (some (p16, false)), (.e (.ld (.r p19)))⟩, ⟨(some p21), none, (.e (.pick (.r p16) (.c (.bool true)) (.r p20)))⟩]) (.cd (.r p21) (.pan [⟨(some p22), none, (.e (.mkI 34 (.c (.int .i64 (.ofNat 8)))))⟩] (.r p22)) .no)))))))⟩
theorem Pn233_ok : chkPF Tryz.prog 233 Pn233 = true := by kernel_rfl
def G217 : GF := ⟨4, 16, [⟨(some p6), none, (.e (.box (.r p2)))⟩, ⟨(some p8), none, (.e (.alc 1 1 (.list [(.int .i64 (.ofNat 0))])))⟩], ⟨(some p9), none, (.e (.mkF (.func 245) [] [(.r p8)]))⟩, p9, [⟨0, ⟨(some p10), none, (.e (.mv (.r p0)))⟩, [], false⟩, ⟨1, ⟨(some p11), none, (.e (.mv (.r p1)))⟩, [], false⟩, ⟨3, ⟨(some p13), none, (.e (.ldN 2 (.r p6)))⟩, [], false⟩, ⟨4, ⟨(some p14), none, (.e (.mv (.r p3)))⟩, [], false⟩], 2, (some p12), 233, [(.r p10), (.r p11)], [3], false, [⟨5, ⟨(some p15), none, (.c (.f 246 [(.r p12), (.r p13), (.r p14), (.c (.int .i64 (.negSucc 0)))]))⟩, [], false⟩, ⟨6, ⟨none, none, (.w (.st 1 (.r p8) (.r p15)))⟩, [], false⟩], [(.cell p8)]⟩
theorem G217_ok : chkGF Tryz.prog 217 G217 = true := by kernel_rfl
def Cl245 : CF := ⟨245, 7, 1, p2, p1, (.seq (.reg [⟨(some p3), none, (.e (.mv (.r p1)))⟩, ⟨(some p4), none, (.e (.eqv .nilI true (.r p3) (.c .nili)))⟩]) (.cond (.r p4) (.reg [⟨(some p5), none, (.e (.mv (.r p1)))⟩, ⟨(some p6), none, (.c (.f 232 [(.r p5)]))⟩, ⟨none, none, (.w (.st 1 (.r p0) (.r p6)))⟩]) .skip))⟩
theorem Cl245_ok : chkCF Tryz.prog Cl245 = true := by kernel_rfl
def G189 : GF := ⟨3, 13, [⟨(some p5), none, (.e (.box (.r p2)))⟩, ⟨(some p6), none, (.e (.alc 1 1 (.list [(.int .i64 (.ofNat 0))])))⟩], ⟨(some p7), none, (.e (.mkF (.func 231) [] [(.r p6)]))⟩, p7, [⟨0, ⟨(some p8), none, (.e (.mv (.r p0)))⟩, [], false⟩, ⟨1, ⟨(some p9), none, (.e (.mv (.r p1)))⟩, [], false⟩, ⟨3, ⟨(some p11), none, (.e (.ldN 2 (.r p5)))⟩, [], false⟩], 2, (some p10), 233, [(.r p8), (.r p9)], [3], false, [⟨4, ⟨(some p12), none, (.c (.f 234 [(.r p10), (.r p11), (.c (.int .i64 (.negSucc 0)))]))⟩, [], false⟩, ⟨5, ⟨none, none, (.w (.st 1 (.r p6) (.r p12)))⟩, [], false⟩], [(.cell p6)]⟩
theorem G189_ok : chkGF Tryz.prog 189 G189 = true := by kernel_rfl
def Cl231 : CF := ⟨231, 7, 1, p2, p1, (.seq (.reg [⟨(some p3), none, (.e (.mv (.r p1)))⟩, ⟨(some p4), none, (.e (.eqv .nilI true (.r p3) (.c .nili)))⟩]) (.cond (.r p4) (.reg [⟨(some p5), none, (.e (.mv (.r p1)))⟩, ⟨(some p6), none, (.c (.f 232 [(.r p5)]))⟩, ⟨none, none, (.w (.st 1 (.r p0) (.r p6)))⟩]) .skip))⟩
theorem Cl231_ok : chkCF Tryz.prog Cl231 = true := by kernel_rfl
/-! ## The functions told by what they compute, all together -/
noncomputable def base1 : Env := addPrim 130 F_reads (addPrim 243 F_more (addPrim 276 F_eight (addPrim 242 F_repeat noPrims)))
noncomputable def EG : Env := SE base1 table FUEL
noncomputable def F_store : Fun := runP EG Pn233
noncomputable def F_svGet : Fun := fun args h => Option.rec (motive := fun _ => Option (DV × H)) (gpan EG F_store G278 Cl314 args h) some (gnorm EG G278 Cl314 args h)
noncomputable def F_svPut : Fun := fun args h => Option.rec (motive := fun _ => Option (DV × H)) (gpan EG F_store G217 Cl245 args h) some (gnorm EG G217 Cl245 args h)
noncomputable def F_svDel : Fun := fun args h => Option.rec (motive := fun _ => Option (DV × H)) (gpan EG F_store G189 Cl231 args h) some (gnorm EG G189 Cl231 args h)
noncomputable def base : Env := addPrim 278 F_svGet (addPrim 217 F_svPut (addPrim 189 F_svDel base1))
theorem base1_ok : EnvOk Tryz.prog base1 := addPrim_ok (tab.ok 130 S130 rfl).1 F_reads_ok (addPrim_ok (tab.ok 243 S243 rfl).1 F_more_ok (addPrim_ok (tab.ok 276 S276 rfl).1 F_eight_ok (addPrim_ok (by kernel_rfl) F_repeat_ok noPrims_ok)))
theorem EG_ok : EnvOk Tryz.prog EG := SE_ok base1_ok tab FUEL
theorem F_store_ok : PSound Tryz.prog 233 F_store := fn_psound EG_ok Pn233_ok
theorem F_svGet_ok : Sound Tryz.prog 278 F_svGet := Sound.or (gnorm_sound EG_ok G278_ok Cl314_ok) (gpan_sound EG_ok F_store_ok G278_ok Cl314_ok)
theorem F_svPut_ok : Sound Tryz.prog 217 F_svPut := Sound.or (gnorm_sound EG_ok G217_ok Cl245_ok) (gpan_sound EG_ok F_store_ok G217_ok Cl245_ok)
theorem F_svDel_ok : Sound Tryz.prog 189 F_svDel := Sound.or (gnorm_sound EG_ok G189_ok Cl231_ok) (gpan_sound EG_ok F_store_ok G189_ok Cl231_ok)
theorem base_ok : EnvOk Tryz.prog base := addPrim_ok (by kernel_rfl) F_svGet_ok (addPrim_ok (by kernel_rfl) F_svPut_ok (addPrim_ok (by kernel_rfl) F_svDel_ok base1_ok))
noncomputable def baseA : Env := addPrim 19 F_as base
theorem baseA_ok : EnvOk Tryz.prog baseA := addPrim_ok (by kernel_rfl) F_as_ok base_ok
end Go.Proofs.YtlofaapaahpjfaaGreatDoor
