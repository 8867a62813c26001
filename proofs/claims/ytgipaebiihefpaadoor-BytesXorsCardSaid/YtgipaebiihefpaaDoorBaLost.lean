/- bytes.Sum, Same and the document's Xor, Sum, Same, Zero: what they compute; the runs of BytesXors and BytesLost. No condition. -/
import Derived.Test.YtgipaebiihefpaaDoorBaCuts
import Derived.KernelRfl
set_option linter.unusedVariables false
set_option linter.unusedSimpArgs false
namespace Go.Proofs.YtgipaebiihefpaaDoor
open Go.DI
/-! ## Sums of texts -/
def sumFrom (a : List Nat) (l : List (List Nat)) : List Nat := l.foldl xorL a
def sumL (l : List (List Nat)) : List Nat := sumFrom [] l
def maxFrom (n : Nat) (l : List (List Nat)) : Nat := l.foldl (fun n s => max n s.length) n
def xorFrom (x : Nat) (l : List (List Nat)) (j : Nat) : Nat := l.foldl (fun x s => x ^^^ s.getD j 0) x
theorem xorL_getD : ∀ (a b : List Nat) (j : Nat), (xorL a b).getD j 0 = a.getD j 0 ^^^ b.getD j 0
  | [], b, j => by rw [xorL_nil']; simp
  | x :: a, [], j => by rw [xorL_nil]; simp
  | x :: a, y :: b, 0 => by rw [xorL_cons]; simp
  | x :: a, y :: b, j + 1 => by rw [xorL_cons]; simpa using xorL_getD a b j
theorem eq_of_getD : ∀ {a b : List Nat}, a.length = b.length → (∀ j, a.getD j 0 = b.getD j 0) → a = b
  | [], [], _, _ => rfl
  | x :: a, y :: b, hl, h => by
    have h0 := h 0
    simp at h0
    rw [h0, eq_of_getD (a := a) (b := b) (by simpa using hl) fun j => by simpa using h (j + 1)]
theorem sumFrom_getD : ∀ (l : List (List Nat)) (a : List Nat) (j : Nat), (sumFrom a l).getD j 0 = xorFrom (a.getD j 0) l j
  | [], a, j => rfl
  | s :: l, a, j => by
    show (sumFrom (xorL a s) l).getD j 0 = xorFrom (a.getD j 0 ^^^ s.getD j 0) l j
    rw [sumFrom_getD l, xorL_getD]
theorem sumFrom_length : ∀ (l : List (List Nat)) (a : List Nat), (sumFrom a l).length = maxFrom a.length l
  | [], a => rfl
  | s :: l, a => by
    show (sumFrom (xorL a s) l).length = maxFrom (max a.length s.length) l
    rw [sumFrom_length l, xorL_length]
theorem maxFrom_le : ∀ (l : List (List Nat)) (n : Nat), n ≤ maxFrom n l ∧ ∀ s ∈ l, s.length ≤ maxFrom n l
  | [], n => ⟨Nat.le_refl _, fun s hs => by cases hs⟩
  | s :: l, n => by
    obtain ⟨h1, h2⟩ := maxFrom_le l (max n s.length)
    show n ≤ maxFrom (max n s.length) l ∧ _
    refine ⟨by omega, fun t ht => ?_⟩
    show t.length ≤ maxFrom (max n s.length) l
    rcases List.mem_cons.1 ht with rfl | ht
    · omega
    · exact h2 t ht
theorem maxFrom_of : ∀ (l : List (List Nat)) (n : Nat), (∀ s ∈ l, s.length ≤ n) → maxFrom n l = n
  | [], n, _ => rfl
  | s :: l, n, h => by
    show maxFrom (max n s.length) l = n
    have h1 := h s (by simp)
    rw [show max n s.length = n from by omega]
    exact maxFrom_of l n fun t ht => h t (by simp [ht])
theorem maxFrom_lt (B : Nat) : ∀ (l : List (List Nat)) (n : Nat), n < B → (∀ s ∈ l, s.length < B) → maxFrom n l < B
  | [], n, h, _ => h
  | s :: l, n, h, hs => maxFrom_lt B l (max n s.length) (by have := hs s (by simp); omega) fun t ht => hs t (by simp [ht])
theorem maxFrom_append (a b : List (List Nat)) (n : Nat) : maxFrom n (a ++ b) = maxFrom (maxFrom n a) b := by simp [maxFrom]
theorem zeros_getD (n j : Nat) : (List.replicate n 0).getD j 0 = 0 := by
  simp only [List.getD, List.getElem?_replicate]; split <;> rfl
theorem sumL_zeros (l : List (List Nat)) : sumFrom (List.replicate (maxFrom 0 l) 0) l = sumL l := by
  have hb := maxFrom_le l 0
  apply eq_of_getD
  · unfold sumL; rw [sumFrom_length, sumFrom_length, List.length_replicate, maxFrom_of l _ hb.2]; rfl
  · intro j
    unfold sumL; rw [sumFrom_getD, sumFrom_getD, zeros_getD]; rfl
theorem sumFrom_ok : ∀ (l : List (List Nat)) (a : List Nat), okStr a = true → (∀ s ∈ l, okStr s = true) → okStr (sumFrom a l) = true
  | [], a, h, _ => h
  | s :: l, a, h, hl => sumFrom_ok l _ (xorL_ok h (hl s (by simp))) fun t ht => hl t (by simp [ht])
theorem xorFrom_acc : ∀ (l : List (List Nat)) (x j : Nat), xorFrom x l j = x ^^^ xorFrom 0 l j
  | [], x, j => by show x = x ^^^ 0; simp
  | s :: l, x, j => by
    show xorFrom (x ^^^ s.getD j 0) l j = x ^^^ xorFrom (0 ^^^ s.getD j 0) l j
    rw [xorFrom_acc l, xorFrom_acc l (0 ^^^ _), Nat.zero_xor, Nat.xor_assoc]
theorem xorFrom_append (a b : List (List Nat)) (x j : Nat) : xorFrom x (a ++ b) j = xorFrom (xorFrom x a j) b j := by simp [xorFrom]
/-- Of texts and their sum, any one is the sum of the others. -/
theorem sum_lost {l : List (List Nat)} {i : Nat} {x : List Nat} (hi : l[i]? = some x) :
    sumL (l.take i ++ l.drop (i + 1) ++ [sumL l]) = x ++ List.replicate (maxFrom 0 l - x.length) 0 := by
  have hlt := lt_of_get hi
  have hsplit : l = l.take i ++ x :: l.drop (i + 1) := by
    have h1 : l[i] = x := by rw [List.getElem?_eq_getElem hlt] at hi; exact Option.some.inj hi
    rw [← h1, ← List.drop_eq_getElem_cons hlt, List.take_append_drop]
  have hx : x.length ≤ maxFrom 0 l := (maxFrom_le l 0).2 x (List.mem_of_getElem? hi)
  have hlen : (sumL l).length = maxFrom 0 l := by unfold sumL; rw [sumFrom_length]; rfl
  have hle : ∀ s ∈ l.take i ++ l.drop (i + 1), s.length ≤ maxFrom 0 l := fun s hs => (maxFrom_le l 0).2 s (by
    rcases List.mem_append.1 hs with h | h
    · exact List.mem_of_mem_take h
    · exact List.mem_of_mem_drop h)
  apply eq_of_getD
  · show (sumFrom [] _).length = _
    rw [sumFrom_length, maxFrom_append]
    have h2 : maxFrom 0 (l.take i ++ l.drop (i + 1)) ≤ maxFrom 0 l := by
      have := maxFrom_lt (maxFrom 0 l + 1) (l.take i ++ l.drop (i + 1)) 0 (by omega) fun s hs => by have := hle s hs; omega
      omega
    show max (maxFrom 0 _) (sumL l).length = _
    rw [hlen]
    simp only [List.length_append, List.length_replicate]
    omega
  · intro j
    show (sumFrom [] _).getD j 0 = _
    rw [sumFrom_getD, xorFrom_append, xorFrom_append]
    show xorFrom (xorFrom 0 (l.take i) j) (l.drop (i + 1)) j ^^^ (sumL l).getD j 0 = _
    have hs : (sumL l).getD j 0 = xorFrom (xorFrom 0 (l.take i) j ^^^ x.getD j 0) (l.drop (i + 1)) j := by
      show (sumFrom [] l).getD j 0 = _
      rw [sumFrom_getD]
      conv => lhs; rw [hsplit]
      rw [xorFrom_append]; rfl
    have hr : (x ++ List.replicate (maxFrom 0 l - x.length) 0).getD j 0 = x.getD j 0 := by
      simp only [List.getD]
      rcases Nat.lt_or_ge j x.length with h | h
      · rw [List.getElem?_append_left h]
      · rw [List.getElem?_append_right h, List.getElem?_eq_none h]
        have := zeros_getD (maxFrom 0 l - x.length) (j - x.length)
        simpa [List.getD] using this
    rw [hs, hr, xorFrom_acc (l.drop (i + 1)), xorFrom_acc (l.drop (i + 1)) (_ ^^^ _)]
    generalize xorFrom 0 (l.take i) j = a
    generalize xorFrom 0 (l.drop (i + 1)) j = b
    generalize x.getD j 0 = c
    rw [Nat.xor_assoc a c b, Nat.xor_comm c b, ← Nat.xor_assoc a b c, ← Nat.xor_assoc, Nat.xor_self, Nat.zero_xor]

/-! ## bytes.Sum, hurdleref01.Xor, hurdleref01.Sum -/
theorem bsum_rounds1 {E : Env} {v : DV} {h : H} {l : List (List Nat)} (hv : RowAt h v (strsV l)) (hl : l.length < 1000000000) : ∀ (rest p : List (List Nat)) (m n : Nat), l = p ++ rest →
    L35_2 E v v (.int .i64 (.ofNat l.length)) (m + (rest.length + 1)) (.int .i64 (.ofNat n)) (.int .i64 (.ofNat p.length)) h = J35_1 E v (.int .i64 (.ofNat (maxFrom n rest))) h := by
  intro rest
  induction rest with
  | nil =>
    intro p m n e
    show B35_2 E _ _ _ (L35_2 E _ _ _ m) _ _ h = _
    unfold B35_2
    have d : decide (p.length < l.length) = false := by rw [e]; simp
    rw [v_lss_nat, vK_some, d, bK_false]; rfl
  | cons s rest ih =>
    intro p m n e
    show B35_2 E _ _ _ (L35_2 E _ _ _ (m + (rest.length + 1))) _ _ h = _
    unfold B35_2
    have d : decide (p.length < l.length) = true := by rw [e]; simp
    have hlt : p.length < l.length := by rw [e]; simp
    obtain ⟨b, o, f1, f2⟩ := hv.at (j := p.length) (x := .str s) (strsV_get (by rw [e]; simp)) .i64
    rw [v_lss_nat, vK_some, d, bK_true, f1, vK_some, f2, vK_some, v_lenS_str, vK_some, v_mx_nat, vK_some, v_add_one (by omega), vK_some]
    have := ih (p ++ [s]) m (max n s.length) (by rw [e]; simp)
    rw [List.length_append] at this
    exact this
theorem bsum_rounds2 {E G : Env} (hE : E 47 = some (S47 G)) {v : DV} {h0 : H} {l : List (List Nat)} (hv : RowAt h0 v (strsV l)) (hl : l.length < 1000000000) {n : Nat} (hn : n < 140737488355328) (hok : ∀ s ∈ l, okStr s = true) (hle : ∀ s ∈ l, s.length ≤ n) :
    ∀ (rest p : List (List Nat)) (m : Nat) (L : List Nat) (h : H), l = p ++ rest → L.length = n → okStr L = true → BytesAt h h0.size L → Grown h0 h →
    ∃ h', L35_4 E (.slc h0.size 0 n n false) v (.int .i64 (.ofNat l.length)) (m + (rest.length + 1)) (.int .i64 (.ofNat p.length)) h = some (.str (sumFrom L rest), h') ∧ Grown h0 h' := by
  intro rest
  induction rest with
  | nil =>
    intro p m L h e hL hokL hb hg
    show ∃ h', B35_4 E _ _ _ (L35_4 E _ _ _ m) _ h = _ ∧ _
    unfold B35_4
    have d : decide (p.length < l.length) = false := by rw [e]; simp
    rw [v_lss_nat, vK_some, d, bK_false]
    unfold J35_3
    have := hb.str hokL n false
    rw [hL] at this
    rw [this, vK_some]
    exact ⟨h, rfl, hg⟩
  | cons s rest ih =>
    intro p m L h e hL hokL hb hg
    show ∃ h', B35_4 E _ _ _ (L35_4 E _ _ _ (m + (rest.length + 1))) _ h = _ ∧ _
    unfold B35_4
    have hs : s ∈ l := by rw [e]; simp
    have d : decide (p.length < l.length) = true := by rw [e]; simp
    have hlt : p.length < l.length := by rw [e]; simp
    obtain ⟨b, o, f1, f2⟩ := (hv.grown hg).at (j := p.length) (x := .str s) (strsV_get (by rw [e]; simp)) .i64
    obtain ⟨h1, g1, g2, g3⟩ := into_eq (E := G) (c := n) (op := false) (hok s hs) hokL (by rw [hL]; exact hle s hs) (by omega) hb
    rw [hL] at g1
    have hlen : (xorL L s).length = n := by rw [xorL_length, hL]; have := hle s hs; omega
    obtain ⟨h', k1, k2⟩ := ih (p ++ [s]) m (xorL L s) h1 (by rw [e]; simp) hlen (xorL_ok hokL (hok s hs)) g2 (But.grown hg (Nat.le_refl _) g3)
    rw [List.length_append] at k1
    refine ⟨h', ?_, k2⟩
    rw [v_lss_nat, vK_some, d, bK_true, f1, vK_some, f2, vK_some, callK_some hE, g1, wK_some, v_add_one (by omega), vK_some]
    exact k1
theorem bsum_run {E G : Env} (hE : E 47 = some (S47 G)) {v : DV} {h : H} {l : List (List Nat)} (hv : RowAt h v (strsV l)) (hl : l.length < 1000000000) (hok : ∀ s ∈ l, okStr s = true) (hlt : ∀ s ∈ l, s.length < 140737488355328) :
    ∃ h', S35 E [v] h = some (.str (sumL l), h') ∧ Grown h h' := by
  show ∃ h', J35_0 E v h = _ ∧ _
  unfold J35_0
  rw [hv.len, strsV_length, vK_some]
  have e1 := bsum_rounds1 (E := E) hv hl l [] (FUEL - (l.length + 1)) 0 rfl
  rw [show FUEL - (l.length + 1) + (l.length + 1) = FUEL from by unfold FUEL; omega] at e1
  replace e1 : L35_2 E v v (.int .i64 (.ofNat l.length)) FUEL (.int .i64 (.ofNat 0)) (.int .i64 (.ofNat 0)) h = J35_1 E v (.int .i64 (.ofNat (maxFrom 0 l))) h := e1
  rw [e1]
  unfold J35_1
  have hm : maxFrom 0 l < 140737488355328 := maxFrom_lt _ l 0 (by omega) hlt
  rw [make_bytes hm, hv.len, strsV_length, vK_some]
  obtain ⟨h', k1, k2⟩ := bsum_rounds2 hE hv hl hm hok (maxFrom_le l 0).2 l [] (FUEL - (l.length + 1)) (List.replicate (maxFrom 0 l) 0) _ rfl (by simp) (okStr_zeros _) (BytesAt.made hm) (Grown.push h _)
  rw [show FUEL - (l.length + 1) + (l.length + 1) = FUEL from by unfold FUEL; omega, sumL_zeros] at k1
  exact ⟨h', k1, k2⟩
theorem rxor_rounds {E : Env} {n0 : Nat} {a b : List Nat} (ha : okStr a = true) (hb : okStr b = true) (la : a.length < 140737488355328) (lb : b.length < 140737488355328) : ∀ (k i m : Nat) (v : DV) (h : H), i + k = max a.length b.length → n0 ≤ h.size → OpenAt n0 h v (bytesV ((xorL a b).take i)) →
    ∃ h', L34_2 E (.str a) (.str b) (m + (k + 1)) v (.int .i64 (.ofNat i)) h = some (.str (xorL a b), h') ∧ Keeps n0 h h' := by
  intro k
  induction k with
  | zero =>
    intro i m v h e hn ho
    show ∃ h', B34_2 E _ _ (L34_2 E _ _ m) _ _ h = _ ∧ _
    unfold B34_2
    have d1 : decide (i < a.length) = false := by simp; omega
    have d2 : decide (i < b.length) = false := by simp; omega
    simp only [v_lenS_str, vK_some, v_lss_nat, d1, d2, gdK_ff, v_pick_f]
    rw [bK_false]
    unfold J34_1
    rw [List.take_of_length_le (by rw [xorL_length]; omega)] at ho
    rw [ho.text (xorL_ok ha hb), vK_some]
    exact ⟨h, rfl, Keeps.refl _ _⟩
  | succ k ih =>
    intro i m v h e hn ho
    have hlt : i < (xorL a b).length := by rw [xorL_length]; omega
    have hz : (xorL a b)[i]? = some (a.getD i 0 ^^^ b.getD i 0) := by
      rw [← xorL_getD, List.getD_eq_getElem?_getD, List.getElem?_eq_getElem hlt]; rfl
    obtain ⟨v1, h1, f1, f2, f3⟩ := ho.push1 (x := byteV (a.getD i 0 ^^^ b.getD i 0)) (z := byteV 0) (bytes := 1) hn rfl (by rw [bytesV_length, List.length_take]; unfold smallRoom; omega) (by rw [bytesV_length, List.length_take]; unfold smallRoom; omega)
    have f2' : OpenAt n0 h1 v1 (bytesV ((xorL a b).take (i + 1))) := by
      rw [List.take_add_one, hz, Option.toList_some, bytesV_append]; exact f2
    obtain ⟨h', g1, g2⟩ := ih (i + 1) m v1 h1 (by omega) (Nat.le_trans hn f3.size) f2'
    refine ⟨h', ?_, f3.trans g2⟩
    show B34_2 E _ _ (L34_2 E _ _ (m + (k + 1))) _ _ h = _
    have ga : ∀ {s : List Nat}, okStr s = true → i < s.length → s[i]? = some (s.getD i 0) ∧ s.getD i 0 < 256 := fun {s} hs h => by
      rw [List.getD_eq_getElem?_getD, List.getElem?_eq_getElem h]
      exact ⟨rfl, (okStr_all s).1 hs _ (List.getElem_mem h)⟩
    have gz : ∀ {s : List Nat}, ¬ i < s.length → s.getD i 0 = 0 := fun {s} h => by
      rw [List.getD_eq_getElem?_getD, List.getElem?_eq_none (by omega)]; rfl
    have five : ∀ (x : Nat), x = a.getD i 0 ^^^ b.getD i 0 → J34_5 E (L34_2 E (.str a) (.str b) (m + (k + 1))) v (.int .i64 (.ofNat i)) (byteV x) h = some (.str (xorL a b), h') := fun x hx => by
      subst hx
      unfold J34_5 J34_3
      rw [show (DV.int .u8 (.ofNat 0)) = byteV 0 from rfl, f1, v_add_one (by omega), vK_some]
      exact g1
    have four : ∀ (x : Nat), x = a.getD i 0 → x < 256 → J34_4 E (L34_2 E (.str a) (.str b) (m + (k + 1))) (.str b) v (.int .i64 (.ofNat i)) (byteV x) h = some (.str (xorL a b), h') := fun x hx hx2 => by
      unfold J34_4
      rw [v_lenS_str, vK_some, v_lss_nat, vK_some]
      by_cases h2 : i < b.length
      · rw [decide_eq_true h2, bK_true, v_ixS_str (ga hb h2).1, vK_some, show (DV.int .u8 (.ofNat (b.getD i 0))) = byteV (b.getD i 0) from rfl, v_xor_byte hx2 (ga hb h2).2, vK_some]
        exact five _ (by rw [hx])
      · rw [decide_eq_false h2, bK_false]
        exact five _ (by rw [hx, gz h2, Nat.xor_zero])
    unfold B34_2
    have hcond : (i < a.length ∨ i < b.length) := by omega
    by_cases h1 : i < a.length
    · simp only [v_lenS_str, vK_some, v_lss_nat, decide_eq_true h1, gdK_tf, v_pick_t]
      rw [bK_true, bK_true, v_ixS_str (ga ha h1).1, vK_some]
      rw [show (DV.int .u8 (.ofNat (a.getD i 0))) = byteV (a.getD i 0) from rfl, show (DV.int .u8 (.ofNat 0)) = byteV 0 from rfl, v_xor_byte (by omega) (ga ha h1).2, vK_some, Nat.zero_xor]
      exact four _ rfl (ga ha h1).2
    · have h2 : i < b.length := hcond.resolve_left h1
      simp only [v_lenS_str, vK_some, v_lss_nat, decide_eq_false h1, decide_eq_true h2, gdK_ff, v_pick_f]
      rw [bK_true, bK_false]
      exact four 0 (gz h1).symm (by omega)
theorem rxor_run {E : Env} {a b : List Nat} (ha : okStr a = true) (hb : okStr b = true) (la : a.length < 140737488355328) (lb : b.length < 140737488355328) (h : H) :
    ∃ h', S34 E [.str a, .str b] h = some (.str (xorL a b), h') ∧ Grown h h' := by
  obtain ⟨h', e1, e2⟩ := rxor_rounds (E := E) (n0 := h.size) ha hb la lb (max a.length b.length) 0 (FUEL - (max a.length b.length + 1)) .nils h (by omega) (Nat.le_refl _) (OpenAt.nil _ _)
  rw [show FUEL - (max a.length b.length + 1) + (max a.length b.length + 1) = FUEL from by unfold FUEL; omega] at e1
  exact ⟨h', e1, e2.grown⟩
theorem rsum_rounds {E G : Env} (hE : E 34 = some (S34 G)) {v : DV} {h0 : H} {l : List (List Nat)} (hv : RowAt h0 v (strsV l)) (hl : l.length < 1000000000) (hok : ∀ s ∈ l, okStr s = true) (hlt : ∀ s ∈ l, s.length < 140737488355328) :
    ∀ (rest p : List (List Nat)) (m : Nat) (a : List Nat) (h : H), l = p ++ rest → okStr a = true → a.length < 140737488355328 → Grown h0 h →
    ∃ h', L36_2 E v (m + (rest.length + 1)) (.str a) (.int .i64 (.ofNat p.length)) h = some (.str (sumFrom a rest), h') ∧ Grown h0 h' := by
  intro rest
  induction rest with
  | nil =>
    intro p m a h e hoka hla hg
    show ∃ h', B36_2 E _ (L36_2 E _ m) _ _ h = _ ∧ _
    unfold B36_2
    have d : decide (p.length < l.length) = false := by rw [e]; simp
    rw [(hv.grown hg).len, strsV_length, vK_some, v_lss_nat, vK_some, d, bK_false]
    exact ⟨h, rfl, hg⟩
  | cons s rest ih =>
    intro p m a h e hoka hla hg
    show ∃ h', B36_2 E _ (L36_2 E _ (m + (rest.length + 1))) _ _ h = _ ∧ _
    unfold B36_2
    have hs : s ∈ l := by rw [e]; simp
    have d : decide (p.length < l.length) = true := by rw [e]; simp
    have hltp : p.length < l.length := by rw [e]; simp
    obtain ⟨b, o, f1, f2⟩ := (hv.grown hg).at (j := p.length) (x := .str s) (strsV_get (by rw [e]; simp)) .i64
    obtain ⟨h1, g1, g2⟩ := rxor_run (E := G) hoka (hok s hs) hla (hlt s hs) h
    have hl2 := hlt s hs
    obtain ⟨h', k1, k2⟩ := ih (p ++ [s]) m (xorL a s) h1 (by rw [e]; simp) (xorL_ok hoka (hok s hs)) (by rw [xorL_length]; omega) (hg.trans g2)
    rw [List.length_append] at k1
    refine ⟨h', ?_, k2⟩
    rw [(hv.grown hg).len, strsV_length, vK_some, v_lss_nat, vK_some, d, bK_true, f1, vK_some, f2, vK_some, callK_some hE, g1, wK_some, v_add_one (by omega), vK_some]
    exact k1
theorem rsum_run {E G : Env} (hE : E 34 = some (S34 G)) {v : DV} {h : H} {l : List (List Nat)} (hv : RowAt h v (strsV l)) (hl : l.length < 1000000000) (hok : ∀ s ∈ l, okStr s = true) (hlt : ∀ s ∈ l, s.length < 140737488355328) :
    ∃ h', S36 E [v] h = some (.str (sumL l), h') ∧ Grown h h' := by
  obtain ⟨h', k1, k2⟩ := rsum_rounds hE hv hl hok hlt l [] (FUEL - (l.length + 1)) [] h rfl rfl (by simp) (Grown.refl _)
  rw [show FUEL - (l.length + 1) + (l.length + 1) = FUEL from by unfold FUEL; omega] at k1
  exact ⟨h', k1, k2⟩
/-! ## bytes.Same, hurdleref01.Same, hurdleref01.Zero -/
def sameL : List Nat → List Nat → Nat
  | a :: s, b :: t => if a = b then sameL s t + 1 else 0
  | _, _ => 0
theorem bsame_rounds {E : Env} {a b : List Nat} (la : a.length < 140737488355328) {h : H} : ∀ (s t p q : List Nat) (m : Nat), a = p ++ s → b = q ++ t → p.length = q.length →
    L37_2 E (.str a) (.str b) (.int .i64 (.ofNat (min a.length b.length))) (.int .i64 (.ofNat (min a.length b.length))) (m + (s.length + 1)) (.int .i64 (.ofNat p.length)) h = some (.int .i64 (.ofNat (p.length + sameL s t)), h) := by
  intro s
  induction s with
  | nil =>
    intro t p q m ea eb hpq
    show B37_2 E _ _ _ _ (L37_2 E _ _ _ _ m) _ h = _
    unfold B37_2
    have hl : min a.length b.length = p.length := by rw [ea, eb]; simp; omega
    have d : decide (p.length < min a.length b.length) = false := by rw [hl]; simp
    rw [v_lss_nat, vK_some, d, bK_false]
    unfold J37_1
    rw [hl]; rfl
  | cons x s ih =>
    intro t p q m ea eb hpq
    show B37_2 E _ _ _ _ (L37_2 E _ _ _ _ (m + (s.length + 1))) _ h = _
    unfold B37_2
    cases t with
    | nil =>
      have hl : min a.length b.length = p.length := by rw [ea, eb]; simp; omega
      have d : decide (p.length < min a.length b.length) = false := by rw [hl]; simp
      rw [v_lss_nat, vK_some, d, bK_false]
      unfold J37_1
      rw [hl]; rfl
    | cons y t =>
      have d : decide (p.length < min a.length b.length) = true := by rw [ea, eb]; simp; omega
      have hlt : p.length < a.length := by rw [ea]; simp
      rw [v_lss_nat, vK_some, d, bK_true, v_ixS_str (b := x) (by rw [ea]; simp), vK_some, v_ixS_str (b := y) (by rw [eb, hpq]; simp), vK_some, v_neq_nat, vK_some]
      by_cases hxy : x = y
      · subst hxy
        have hd : (!decide (x = x)) = false := by simp
        rw [hd, bK_false, v_add_one (by omega), vK_some]
        have := ih t (p ++ [x]) (q ++ [x]) m (by rw [ea]; simp) (by rw [eb]; simp) (by simp [hpq])
        rw [List.length_append] at this
        refine Eq.trans this ?_
        simp only [sameL, if_true, List.length_singleton]
        rw [show p.length + 1 + sameL s t = p.length + (sameL s t + 1) from by omega]
      · have hd : (!decide (x = y)) = true := by simp [hxy]
        rw [hd, bK_true]
        simp only [sameL, if_neg hxy, Nat.add_zero]
theorem bsame_run {E : Env} {a b : List Nat} (la : a.length < 140737488355328) (h : H) : S37 E [.str a, .str b] h = some (.int .i64 (.ofNat (sameL a b)), h) := by
  show J37_0 E (.str a) (.str b) h = _
  unfold J37_0
  rw [v_lenS_str, vK_some, v_lenS_str, vK_some, v_mn_nat, vK_some]
  have := bsame_rounds (E := E) (h := h) (b := b) la a b [] [] (FUEL - (a.length + 1)) rfl rfl rfl
  rw [show FUEL - (a.length + 1) + (a.length + 1) = FUEL from by unfold FUEL; omega] at this
  refine Eq.trans this ?_
  simp
theorem rsame_rounds {E : Env} {a b : List Nat} (la : a.length < 140737488355328) {h : H} : ∀ (s t p q : List Nat) (m : Nat), a = p ++ s → b = q ++ t → p.length = q.length →
    L38_2 E (.str a) (.str b) (m + (s.length + 1)) (.int .i64 (.ofNat p.length)) h = some (.int .i64 (.ofNat (p.length + sameL s t)), h) := by
  intro s
  induction s with
  | nil =>
    intro t p q m ea eb hpq
    show B38_2 E _ _ (L38_2 E _ _ m) _ h = _
    unfold B38_2
    have d : decide (p.length < a.length) = false := by rw [ea]; simp
    simp only [v_lenS_str, vK_some, v_lss_nat, d, gdK_ft, gdK_tup, v_pick_f]
    rw [bK_false]; rfl
  | cons x s ih =>
    intro t p q m ea eb hpq
    show B38_2 E _ _ (L38_2 E _ _ (m + (s.length + 1))) _ h = _
    unfold B38_2
    have d : decide (p.length < a.length) = true := by rw [ea]; simp
    have hlt : p.length < a.length := by rw [ea]; simp
    have ix : v_ixS (.str a) (.int .i64 (.ofNat p.length)) = some (.int .u8 (.ofNat x)) := v_ixS_str (b := x) (by rw [ea]; simp) _
    cases t with
    | nil =>
      have d2 : decide (p.length < b.length) = false := by rw [eb]; simp; omega
      simp only [v_lenS_str, vK_some, v_lss_nat, d, gdK_tt, d2, v_pick_t, gdK_ft, gdK_tup, v_pick_f]
      rw [bK_false]; rfl
    | cons y t =>
      have d2 : decide (p.length < b.length) = true := by rw [eb]; simp; omega
      have iy : v_ixS (.str b) (.int .i64 (.ofNat p.length)) = some (.int .u8 (.ofNat y)) := v_ixS_str (b := y) (by rw [eb, hpq]; simp) _
      simp only [v_lenS_str, vK_some, v_lss_nat, d, gdK_tt, d2, v_pick_t, ix, iy, v_eql_nat]
      by_cases hxy : x = y
      · subst hxy
        rw [decide_eq_true rfl, bK_true, v_add_one (by omega), vK_some]
        have := ih t (p ++ [x]) (q ++ [x]) m (by rw [ea]; simp) (by rw [eb]; simp) (by simp [hpq])
        rw [List.length_append] at this
        refine Eq.trans this ?_
        simp only [sameL, if_true, List.length_singleton]
        rw [show p.length + 1 + sameL s t = p.length + (sameL s t + 1) from by omega]
      · rw [decide_eq_false hxy, bK_false]
        simp only [sameL, if_neg hxy, Nat.add_zero]; rfl
theorem rsame_run {E : Env} {a b : List Nat} (la : a.length < 140737488355328) (h : H) : S38 E [.str a, .str b] h = some (.int .i64 (.ofNat (sameL a b)), h) := by
  have := rsame_rounds (E := E) (h := h) (b := b) la a b [] [] (FUEL - (a.length + 1)) rfl rfl rfl
  rw [show FUEL - (a.length + 1) + (a.length + 1) = FUEL from by unfold FUEL; omega] at this
  refine Eq.trans this ?_
  simp
theorem rzero_rounds {E : Env} {a : List Nat} (la : a.length < 140737488355328) {h : H} : ∀ (s p : List Nat) (m : Nat), a = p ++ s →
    L39_2 E (.str a) (m + (s.length + 1)) (.int .i64 (.ofNat p.length)) h = some (.bool (allZero s), h) := by
  intro s
  induction s with
  | nil =>
    intro p m ea
    show B39_2 E _ (L39_2 E _ m) _ h = _
    unfold B39_2
    have d : decide (p.length < a.length) = false := by rw [ea]; simp
    rw [v_lenS_str, vK_some, v_lss_nat, vK_some, d, bK_false]; rfl
  | cons x s ih =>
    intro p m ea
    show B39_2 E _ (L39_2 E _ (m + (s.length + 1))) _ h = _
    unfold B39_2
    have d : decide (p.length < a.length) = true := by rw [ea]; simp
    have hlt : p.length < a.length := by rw [ea]; simp
    rw [v_lenS_str, vK_some, v_lss_nat, vK_some, d, bK_true, v_ixS_str (b := x) (by rw [ea]; simp), vK_some, v_neq_nat, vK_some]
    by_cases hx : x = 0
    · subst hx
      have hd : (!decide ((0 : Nat) = 0)) = false := rfl
      rw [hd, bK_false, v_add_one (by omega), vK_some]
      have := ih (p ++ [0]) m (by rw [ea]; simp)
      rw [List.length_append] at this
      exact this
    · have hd : (!decide (x = 0)) = true := by simp [hx]
      rw [hd, bK_true]
      unfold allZero
      rw [List.all_cons, show (x == 0) = false from by simp [hx]]; rfl
theorem rzero_run {E : Env} {a : List Nat} (la : a.length < 140737488355328) (h : H) : S39 E [.str a] h = some (.bool (allZero a), h) := by
  have := rzero_rounds (E := E) (h := h) la a [] (FUEL - (a.length + 1)) rfl
  rw [show FUEL - (a.length + 1) + (a.length + 1) = FUEL from by unfold FUEL; omega] at this
  exact this
theorem v_eqv_bool (rd : Rd) (a b : Bool) : v_eqv .bool false rd (.bool a) (.bool b) = some (.bool (a == b)) := by
  cases a <;> cases b <;> rfl
/-! ## The laws BytesXors, BytesLost -/
theorem xors_run {E : Env} {B34 B35 B36 B37 B38 B39 : Fun} (e32 : E 32 = some F_xor) (e33 : E 33 = some F_zero) (e25 : E 25 = some F_true) (e34 : E 34 = some B34) (e35 : E 35 = some B35) (e36 : E 36 = some B36) (e37 : E 37 = some B37) (e38 : E 38 = some B38) (e39 : E 39 = some B39)
    {F G K M : Env} (h34 : B34 = S34 F) (h35 : B35 = S35 F) (h36 : B36 = S36 K) (h37 : B37 = S37 F) (h38 : B38 = S38 F) (h39 : B39 = S39 F) (hF : F 47 = some (S47 G)) (hK : K 34 = some (S34 M))
    {a b : List Nat} {v : DV} {l : List (List Nat)} {h : H} (ha : okStr a = true) (la : a.length < 140737488355328) (hb : okStr b = true) (lb : b.length < 140737488355328) (hv : RowAt h v (strsV l)) (hok : ∀ s ∈ l, okStr s = true) (hlt : ∀ s ∈ l, s.length < 140737488355328) :
    (S11 E [.str a, .str b, v] h).map (fun x => x.1) = some (.bool true) := by
  have c7 : ∀ h, F_true [] h = some (.bool true, h) := fun h => rfl
  show (J11_0 E (.str a) (.str b) v h).map (fun x => x.1) = _
  unfold J11_0
  rw [hv.len, strsV_length, vK_some, v_gtr_nat, vK_some]
  by_cases c1 : 40 < l.length
  · rw [decide_eq_true c1, bK_true, callK_some e25, c7]; rfl
  · rw [decide_eq_false c1, bK_false, callK_some e32, F_xor_val ha hb la lb, wK_some]
    obtain ⟨h1, f1, f2⟩ := rxor_run (E := F) ha hb la lb h
    obtain ⟨h2, g1, g2⟩ := bsum_run (E := F) hF (hv.grown f2) (by omega) hok hlt
    obtain ⟨h3, k1, k2⟩ := rsum_run (E := K) hK ((hv.grown f2).grown g2) (by omega) hok hlt
    have s1 := bsame_run (E := F) (b := b) la h3
    have s2 := rsame_run (E := F) (b := b) la h3
    have s3 := F_zero_val la h3
    have s4 := rzero_run (E := F) la h3
    subst h34 h35 h36 h37 h38 h39
    have bs : ∀ x : Bool, (x == x) = true := fun x => by cases x <;> rfl
    simp only [callK_some e33, callK_some e34, callK_some e35, callK_some e36, callK_some e37, callK_some e38, callK_some e39, callK_some e25, f1, g1, k1, s1, s2, s3, s4, c7, wK_some, vK_some, v_eql_str, v_eql_nat, v_eqv_bool, bs, beq_self_str, decide_true, gdK_tt, v_pick_t, Option.map_some]
theorem lost_run {E : Env} (e33 : E 33 = some F_zero) (e25 : E 25 = some F_true) {F G : Env} (e35 : E 35 = some (S35 F)) (hF : F 47 = some (S47 G))
    {v : DV} {l : List (List Nat)} {a : Int} {h : H} (hv : RowAt h v (strsV l)) (hok : ∀ s ∈ l, okStr s = true) (hlt : ∀ s ∈ l, s.length < 140737488355328) :
    (S12 E [v, .int .i64 a] h).map (fun x => x.1) = some (.bool true) := by
  have c7 : ∀ h, F_true [] h = some (.bool true, h) := fun h => rfl
  show (J12_0 E v (.int .i64 a) h).map (fun x => x.1) = _
  unfold J12_0
  rw [hv.len, strsV_length, vK_some, v_eql_nat, vK_some]
  by_cases c0 : l.length = 0
  · simp only [decide_eq_true c0, gdK_tf, gdK_tup, v_pick_t, vK_some]
    rw [bK_true, callK_some e25, c7]; rfl
  simp only [decide_eq_false c0, gdK_ff, hv.len, strsV_length, vK_some, v_gtr_nat, v_pick_f]
  by_cases c1 : 40 < l.length
  · rw [decide_eq_true c1, bK_true, callK_some e25, c7]; rfl
  rw [decide_eq_false c1, bK_false]
  obtain ⟨i, hi, a1, a2, a3, a4⟩ := at_mod a (n := l.length) (by omega) (by omega)
  obtain ⟨x, hx⟩ : ∃ x, l[i]? = some x := ⟨l[i], List.getElem?_eq_getElem hi⟩
  have hxm : x ∈ l := List.mem_of_getElem? hx
  obtain ⟨v1, p1, p2⟩ := hv.cutTo (m := i) (by rw [strsV_length]; omega) .i64
  obtain ⟨v2, q1, q2⟩ := hv.cutFrom (l := i + 1) (by rw [strsV_length]; omega) .i64
  rw [strsV_take] at p2
  rw [strsV_drop] at q2
  obtain ⟨w1, h1, f1, f2, f3⟩ := (OpenAt.nil h.size h).appendRow (bytes := 16) (Nat.le_refl _) p2 (strsV_one _) (by simp [strsV]; unfold smallRoom; omega) (by simp [strsV]; unfold smallRoom; omega)
  obtain ⟨w2, h2, g1, g2, g3⟩ := f2.appendRow (bytes := 16) f3.size (q2.grown f3.grown) (strsV_one _) (by simp [strsV]; unfold smallRoom; omega) (by simp [strsV]; unfold smallRoom; omega)
  have k2 := f3.trans g3
  obtain ⟨h3, s1, s2⟩ := bsum_run (E := F) hF (hv.grown k2.grown) (by omega) hok hlt
  have k3 := k2.trans (s2.keeps k2.size)
  have g2' := g2.keep (s2.keeps (Nat.le_refl _)) (Nat.le_refl _)
  obtain ⟨w3, h4, t1, t2, t3⟩ := g2'.push1 (x := .str (sumL l)) (z := .str []) (bytes := 16) k3.size rfl (by simp [strsV]; unfold smallRoom; omega) (by simp [strsV]; unfold smallRoom; omega)
  have k4 := k3.trans t3
  have hrow : RowAt h4 w3 (strsV (l.take i ++ l.drop (i + 1) ++ [sumL l])) := by
    have := t2.row
    rw [strsV_append, strsV_append]
    exact this
  have hsok : okStr (sumL l) = true := sumFrom_ok l [] rfl hok
  have hslt : (sumL l).length < 140737488355328 := by
    unfold sumL; rw [sumFrom_length]; exact maxFrom_lt _ l 0 (by omega) hlt
  have hall : ∀ s ∈ l.take i ++ l.drop (i + 1) ++ [sumL l], s ∈ l ∨ s = sumL l := fun s hs => by
    rcases List.mem_append.1 hs with hs | hs
    · rcases List.mem_append.1 hs with hs | hs
      · exact .inl (List.mem_of_mem_take hs)
      · exact .inl (List.mem_of_mem_drop hs)
    · exact .inr (by simpa using hs)
  obtain ⟨h5, u1, u2⟩ := bsum_run (E := F) hF hrow (by simp; omega) (fun s hs => (hall s hs).elim (hok s) fun e => by rw [e]; exact hsok) (fun s hs => (hall s hs).elim (hlt s) fun e => by rw [e]; exact hslt)
  rw [sum_lost hx] at u1
  have k5 := k4.grown.trans u2
  obtain ⟨b, o, x1, x2⟩ := (hv.grown k5).at (strsV_get hx) .i64
  have hm : maxFrom 0 l < 140737488355328 := maxFrom_lt _ l 0 (by omega) hlt
  have hxm2 : x.length ≤ maxFrom 0 l := (maxFrom_le l 0).2 x hxm
  have d1 : decide (x.length ≤ (x ++ List.replicate (maxFrom 0 l - x.length) 0).length) = true := by simp
  have s3 : v_slS (.str (x ++ List.replicate (maxFrom 0 l - x.length) 0)) none (some (.int .i64 (.ofNat x.length))) = some (.str x) := by
    rw [v_slS_to (by simp), take_append_len]
  have s4 : v_slS (.str (x ++ List.replicate (maxFrom 0 l - x.length) 0)) (some (.int .i64 (.ofNat x.length))) none = some (.str (List.replicate (maxFrom 0 l - x.length) 0)) := by
    rw [v_slS_from (by simp), drop_append_len]
  have z1 := F_zero_val (s := List.replicate (maxFrom 0 l - x.length) 0) (by simp; omega) h5
  rw [allZero_zeros] at z1
  have ai : v_add (.int .i64 (.ofNat i)) (.int .i64 (.ofNat 1)) = some (.int .i64 (.ofNat (i + 1))) := v_add_one (by omega)
  simp only [a1, a2, a3, a4, p1, ai, q1, f1, g1, vK_some, wK_some, callK_some e35, s1, t1, u1, v_lenS_str, x1, x2, v_geq_nat, d1, gdK_tt, s3, v_eql_str, beq_self_str, v_pick_t, s4, callK_some e33, z1, callK_some e25, c7, Option.map_some]
noncomputable def EL2 : Env := SE baseC table (FUEL - 2)
theorem xors_law {a b : List Nat} {v : DV} {l : List (List Nat)} {h : H} (ha : okStr a = true) (la : a.length < 140737488355328) (hb : okStr b = true) (lb : b.length < 140737488355328) (hv : RowAt h v (strsV l)) (hok : ∀ s ∈ l, okStr s = true) (hlt : ∀ s ∈ l, s.length < 140737488355328) :
    (S11 EC [.str a, .str b, v] h).map (fun x => x.1) = some (.bool true) :=
  xors_run (E := EC) (F := EC1) (G := EL2) (K := EC1) (M := EL2) (by kernel_rfl) (by kernel_rfl) (by kernel_rfl) (B34 := S34 EC1) (B35 := S35 EC1) (B36 := S36 EC1) (B37 := S37 EC1) (B38 := S38 EC1) (B39 := S39 EC1) (by kernel_rfl) (by kernel_rfl) (by kernel_rfl) (by kernel_rfl) (by kernel_rfl) (by kernel_rfl)
    rfl rfl rfl rfl rfl rfl (by kernel_rfl) (by kernel_rfl) ha la hb lb hv hok hlt
theorem lost_law {v : DV} {l : List (List Nat)} {a : Int} {h : H} (hv : RowAt h v (strsV l)) (hok : ∀ s ∈ l, okStr s = true) (hlt : ∀ s ∈ l, s.length < 140737488355328) :
    (S12 EC [v, .int .i64 a] h).map (fun x => x.1) = some (.bool true) :=
  lost_run (E := EC) (F := EC1) (G := EL2) (by kernel_rfl) (by kernel_rfl) (by kernel_rfl) (by kernel_rfl) hv hok hlt
end Go.Proofs.YtgipaebiihefpaaDoor
