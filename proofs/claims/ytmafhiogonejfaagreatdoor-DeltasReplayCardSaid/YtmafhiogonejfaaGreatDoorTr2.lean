/- Directories, numbers and texts as bytes: what they compute. No condition. -/
import Derived.Test.YtmafhiogonejfaaGreatDoorTr1
import Derived.KernelRfl
set_option linter.unusedVariables false
set_option linter.unusedSimpArgs false
noncomputable section
namespace Go.Proofs.YtmafhiogonejfaaGreatDoor
open Go.DI
theorem aYv {L N R : List DV} {i n : Nat} (hL : L.length = n * 2) (hN : N.length = 2) (hi : i < n) (hR : (L.take (i * 2) ++ R).length = (n + 1) * 2) :
   ((L.take (i * 2) ++ R).take (i * 2) ++ N ++ (L.take (i * 2) ++ R).drop (i * 2 + N.length)).take ((i + 1) * 2) ++ L.drop (i * 2) ++ ((L.take (i * 2) ++ R).take (i * 2) ++ N ++ (L.take (i * 2) ++ R).drop (i * 2 + N.length)).drop ((i + 1) * 2 + (L.drop (i * 2)).length) =
     L.take (i * 2) ++ N ++ L.drop (i * 2) := by
 have tl : (L.take (i * 2)).length = i * 2 := by rw [List.length_take]; omega
 have e0 : (L.take (i * 2) ++ R).take (i * 2) = L.take (i * 2) := by
   conv => lhs; rw [<- tl]
   rw [tl, List.take_append_of_le_length (by omega), List.take_of_length_le (by omega)]
 rw [e0]; generalize hX : (L.take (i * 2) ++ R).drop (i * 2 + N.length) = X; have lX : X.length = (n + 1) * 2 - (i * 2 + 2) := by rw [<- hX, List.length_drop, hR, hN]
 have lA : (L.take (i * 2) ++ N).length = (i + 1) * 2 := by rw [List.length_append, tl, hN]; omega
 have h1 : (L.take (i * 2) ++ N ++ X).take ((i + 1) * 2) = L.take (i * 2) ++ N := by rw [<- lA, List.take_left]
 have h2 : (L.take (i * 2) ++ N ++ X).drop ((i + 1) * 2 + (L.drop (i * 2)).length) = [] := List.drop_of_length_le (by rw [List.length_append, lA, lX, List.length_drop, hL]; omega)
 rw [h1, h2, List.append_nil]
theorem aHw {E : bJ} (b n c i vb vo vc : Nat) (vop pl : Bool) (h : H) (L N : List DV) (V : Blk) (t : Tr DV) (hi : i <= n) (hc : n <= c) (hn : n < 1000000) (hL : L.length = n * 2) (hN : N.length = 2) (hL1 : L.all DV.one = true) (hN1 : N.all DV.one = true) (hvb : vb < b) (hb : b < h.size)
   (hB : h.get b = some (.blk ⟨c * 2, 0, false, pl, t⟩)) (ht : ∀ j x, L[j]? = some x -> t.at_ j = some x) (hV : h.get vb = some (.blk V)) (hp : V.pl = true) (hr : rdCells h.get vb vo 2 = some N) :
   ∃ v h', aKw E [.slc b 0 n c false, .int .i64 (.ofNat i), .slc vb vo 1 vc vop] h = some (v, h') /\ bBs 2 b n (L.take (i * 2) ++ N ++ L.drop (i * 2)) h v h' := by
 have hP : fI h b (c * 2) 0 L := ⟨hb, by omega, pl, t, hB, ht⟩
 have hdn : (L.drop (i * 2)).all DV.one = true := List.all_eq_true.2 λ x hx => List.all_eq_true.1 hL1 x (List.mem_of_mem_drop hx)
 show ∃ v h', aDj E (.slc b 0 n c false) (.int .i64 (.ofNat i)) (.slc vb vo 1 vc vop) h = _ /\ _; unfold aDj; have e1 : ∃ x1, dU 2 (.slc b 0 n c false) (some (.int .i64 (.ofNat i))) none = some x1 := by
   by_cases hic : i < c
   · exact ⟨_, jI hi hc hic _⟩
   · have : i = n /\ c = n := by omega
     obtain ⟨rfl, rfl⟩ := this; exact ⟨_, aHQ _⟩
 obtain ⟨x1, e1⟩ := e1; rw [e1, aA, pY, aA, cB, aA, decide_eq_false (show ¬ (1 : Nat) = 0 by omega), aC, pY, aA, cB, aA]
 have hN2 : rdCells h.get vb vo (1 * 2) = some N := hr; by_cases hin : i = n
 · subst hin; rw [decide_eq_true rfl, aD]; have eL : L.take (i * 2) ++ N ++ L.drop (i * 2) = L ++ N := by rw [List.take_of_length_le (by omega), List.drop_of_length_le (by omega), List.append_nil]
   rw [eL]; by_cases hroom : i + 1 <= c
   · obtain ⟨h', f1, f2, f3⟩ := hP.store (vs := N) (o := i * 2) hN1 (by omega) (by omega)
     have ap : cE 2 24 (.slc b 0 i c false) (.slc vb vo 1 vc vop) h = some (.slc b 0 (i + 1) c false, h') := by
       rw [eN]; simp only [fR, srcLen, dR, hN2, Option.bind_some, bD, Nat.ble_eq_true_of_le hroom, cond_true, Nat.zero_add, f1, Option.map_some]
     rw [List.take_of_length_le (by omega), List.drop_of_length_le (by omega), List.append_nil] at f2
     obtain ⟨g1, g2, pl', t', g3, g4⟩ := f2; refine ⟨_, h', by rw [ap, aB], b, c, false, _, rfl, Nat.le_refl _, g3, rfl, rfl, by omega, .inl ⟨rfl, rfl⟩, g4, λ q hq => f3.get q (by omega), by rw [f3.size]; exact Nat.le_refl _⟩
   · have hcn : c = i := by omega
     subst hcn; have hold : rdCells h.get b 0 (c * 2) = some L := by
       have := hP.cells (o := 0) (k := c * 2) (by omega)
       rw [List.drop_zero, List.take_of_length_le (by omega)] at this; exact this
     have s1 : Nat.blt ((c + 1) * 24) aR = true := dS (by unfold aR; omega)
     have s2 : Nat.blt (c + 1) aR = true := dS (by unfold aR; omega)
     have ap : cE 2 24 (.slc b 0 c c false) (.slc vb vo 1 vc vop) h = some (.slc h.size 0 (c + 1) (c + 1) true, h.push (.blk ⟨(c + 1) * 2, 2, false, true, Tr.ofL (L ++ N)⟩)) := by
       rw [eN]; simp only [fR, srcLen, dR, hN2, Option.bind_some, bD, jC (show ¬ c + 1 <= c by omega), cond_false, s1, s2, Bool.and_self, cond_true, hB, hold, H.pushK_eq]
     refine ⟨_, _, by rw [ap, aB], h.size, c + 1, true, _, rfl, Nat.le_of_lt hb, by rw [H.get_push, if_pos rfl], rfl, rfl, Nat.le_refl _, .inr ⟨rfl, rfl⟩, λ j x hj => by rw [Tr.at_ofL]; exact hj, λ q hq => by rw [H.get_push, if_neg (by omega)], by simp⟩
 · rw [decide_eq_false hin, aC, bO (by omega), aA, aVI, aA, cW, aA]
   have hin' : i < n := by omega
   have hc0 : 0 < c := by omega
   have dl : (L.drop (i * 2)).length = (n - i) * 2 := by rw [List.length_drop, hL]; omega
   have ex1 : x1 = .slc b (0 + i * 2) (n - i) (c - i) false := Option.some.inj (e1.symm.trans (jI hi hc (by omega) _))
   subst ex1; by_cases hroom : c < n + 1
   · have hcn : c = n := by omega
     subst hcn; rw [decide_eq_true hroom, aD, xU (by omega) hc0, aA, aA, fY (by omega) (by omega), aA]
     have hold : rdCells h.get b 0 (i * 2) = some (L.take (i * 2)) := by
       have := hP.cells (o := 0) (k := i * 2) (by omega)
       rw [List.drop_zero] at this; exact this
     have need : i + (c + 1 - i) = c + 1 := by omega
     have ap : aOs 2 24 [(.str []), (.int .i64 (.ofNat 0))] (.slc b 0 i c false) (.int .i64 (.ofNat (c + 1 - i))) h = some (.slc h.size 0 (c + 1) (c + 1) true, h.push (.blk ⟨(c + 1) * 2, 2, false, true, Tr.ofL (L.take (i * 2) ++ gM [(DV.str []), (DV.int .i64 (.ofNat 0))] (c + 1 - i))⟩)) := by
       have s1 : Nat.blt ((c + 1) * 24) aR = true := dS (by unfold aR; omega)
       have s2 : Nat.blt (c + 1) aR = true := dS (by unfold aR; omega)
       simp only [aOs, bD, need, dS hroom, dS (show 0 < c + 1 - i by omega), s1, s2, dS (show 0 < 2 by omega), Bool.and_self, cond_true, hold, Option.bind_some, H.pushK_eq]
     rw [ap, aB]; have hlen : (L.take (i * 2) ++ gM [(DV.str []), (DV.int .i64 (.ofNat 0))] (c + 1 - i)).length = (c + 1) * 2 := by
       simp only [List.length_append, List.length_take, iR, hL, List.length_cons, List.length_nil]; omega
     obtain ⟨h1, eh1⟩ : ∃ x, x = h.push (.blk ⟨(c + 1) * 2, 2, false, true, Tr.ofL (L.take (i * 2) ++ gM [(DV.str []), (DV.int .i64 (.ofNat 0))] (c + 1 - i))⟩) := ⟨_, rfl⟩; have hP1 : fI h1 h.size ((c + 1) * 2) 2 (L.take (i * 2) ++ gM [(DV.str []), (DV.int .i64 (.ofNat 0))] (c + 1 - i)) := by
       have := fI.pushed (h := h) (es := 2) (pl := true) (L := L.take (i * 2) ++ gM [(DV.str []), (DV.int .i64 (.ofNat 0))] (c + 1 - i)); rw [hlen] at this; rw [eh1]; exact this
     have g1 : aH h h1 := by rw [eh1]; exact aH.push _ _
     have hPb1 := hP.grown g1; rw [<- eh1]; obtain ⟨h2, f1, f2, f3⟩ := hP1.store (vs := N) (o := i * 2) hN1 (by omega) (by omega)
     have hN3 : rdCells h1.get vb vo (1 * 2) = some N := by
       rw [<- hN2]; exact nV λ j _ _ => kS (g1.get vb (by omega))
     rw [jI (by omega) (Nat.le_refl _) (by omega), aA, yO (k := 1) (new := N) (h2 := h2) (by rw [Nat.min_eq_left (by omega)]) hN3 (by rw [Nat.zero_add]; exact f1), aB, bO (by omega), aA,
       jI (by omega) (Nat.le_refl _) (by omega), aA, aA]
     have hlen2 : ((L.take (i * 2) ++ gM [(DV.str []), (DV.int .i64 (.ofNat 0))] (c + 1 - i)).take (i * 2) ++ N ++ (L.take (i * 2) ++ gM [(DV.str []), (DV.int .i64 (.ofNat 0))] (c + 1 - i)).drop (i * 2 + N.length)).length = (c + 1) * 2 := by
       simp only [List.length_append, List.length_take, List.length_drop, hlen, hN]; omega
     obtain ⟨h3, k1, k2, k3⟩ := f2.store (vs := L.drop (i * 2)) (o := (i + 1) * 2) hdn (by omega) (by omega)
     have hPb2 := hPb1.but (by omega) f3
     have hs3 : rdCells h2.get b (0 + i * 2) ((c - i) * 2) = some (L.drop (i * 2)) := by
       have := hPb2.cells (o := 0 + i * 2) (k := (c - i) * 2) (by omega)
       rw [Nat.zero_add] at this ⊢; rw [this, List.take_of_length_le (by omega)]
     rw [yO (k := c - i) (new := L.drop (i * 2)) (h2 := h3) (by rw [Nat.min_eq_left (by omega)]) hs3 (by rw [Nat.zero_add]; exact k1), aB]
     obtain ⟨y1, y2, pl', t', y3, y4⟩ := k2; have eL := aYv (R := gM [(DV.str []), (DV.int .i64 (.ofNat 0))] (c + 1 - i)) hL hN hin' hlen; refine ⟨_, h3, rfl, h.size, c + 1, true, _, rfl, Nat.le_of_lt hb, y3, rfl, rfl, Nat.le_refl _, .inr ⟨rfl, rfl⟩, λ j x hj => y4 j x (by rw [eL]; exact hj), λ q hq => ?_, ?_⟩
     · rw [k3.get q (by omega), f3.get q (by omega), g1.get q (by omega)]
     · rw [k3.size, f3.size]; exact g1.size
   · rw [decide_eq_false hroom, aC, aA, xU (by omega) hc0, aA, bO (by omega), aA, jI (by omega) (by omega) (by omega), aA,
       aMm hV hB (by omega) hp (by show c * 2 ≠ 0; omega), aA, gJ, aA, Bool.not_false, aD, aA, jI (by omega) (by omega) (by omega), aA, jI (by omega) (by omega) (by omega), aA]
     obtain ⟨h1, f1, f2, f3⟩ := hP.store (vs := L.drop (i * 2)) (o := (i + 1) * 2) hdn (by omega) (by omega)
     have hs3 : rdCells h.get b (0 + i * 2) ((n - i) * 2) = some (L.drop (i * 2)) := by
       have := hP.cells (o := 0 + i * 2) (k := (n - i) * 2) (by omega)
       rw [Nat.zero_add] at this ⊢; rw [this, List.take_of_length_le (by omega)]
     rw [yO (k := n - i) (new := L.drop (i * 2)) (h2 := h1) (by rw [Nat.min_eq_right (by omega)]; omega) hs3 (by rw [Nat.zero_add]; exact f1), aB, aA]
     have hlen2 : (L.take ((i + 1) * 2) ++ L.drop (i * 2) ++ L.drop ((i + 1) * 2 + (L.drop (i * 2)).length)).length = (n + 1) * 2 := by
       simp only [List.length_append, List.length_take, List.length_drop, hL]; omega
     obtain ⟨h2, k1, k2, k3⟩ := f2.store (vs := N) (o := i * 2) hN1 (by omega) (by omega)
     have hN3 : rdCells h1.get vb vo (1 * 2) = some N := by
       rw [<- hN2]; exact nV λ j _ _ => kS (f3.get vb (by omega))
     rw [yO (k := 1) (new := N) (h2 := h2) (by rw [Nat.min_eq_left (by omega)]) hN3 (by rw [Nat.zero_add]; exact k1), aB]
     obtain ⟨y1, y2, pl', t', y3, y4⟩ := k2; have eL : (L.take (i * 2) ++ N ++ L.drop (i * 2)) = ((L.take ((i + 1) * 2) ++ L.drop (i * 2) ++ L.drop ((i + 1) * 2 + (L.drop (i * 2)).length)).take (i * 2) ++ N ++ (L.take ((i + 1) * 2) ++ L.drop (i * 2) ++ L.drop ((i + 1) * 2 + (L.drop (i * 2)).length)).drop (i * 2 + N.length)) := by
       have tl : (L.take ((i + 1) * 2)).length = (i + 1) * 2 := by rw [List.length_take]; omega
       rw [List.drop_of_length_le (l := L) (i := (i + 1) * 2 + (L.drop (i * 2)).length) (by omega), List.append_nil]
       rw [List.take_append_of_le_length (by omega), List.take_take, Nat.min_eq_left (by omega), hN]
       congr 1
       rw [show i * 2 + 2 = (L.take ((i + 1) * 2)).length from by rw [tl]; omega, List.drop_left]
     refine ⟨_, h2, rfl, b, c, false, _, rfl, Nat.le_refl _, y3, rfl, rfl, by omega, .inl ⟨rfl, rfl⟩, λ j x hj => y4 j x (by rw [eL] at hj; exact hj), λ q hq => ?_, ?_⟩
     · rw [k3.get q (by omega), f3.get q (by omega)]
     · rw [k3.size, f3.size]; exact Nat.le_refl _
theorem aXI (a : Nat) (s : Ln) (b : Nat) (t : Ln) : tY (a :: s) (b :: t) = (Nat.blt a b || (Nat.beq a b && tY s t)) := rfl
theorem tX (a : Nat) (s : Ln) (b : Nat) (t : Ln) : tY (a :: s) (b :: t) = true ↔ a < b \/ (a = b /\ tY s t = true) := by
 rw [aXI]; simp only [Bool.or_eq_true, Bool.and_eq_true, Nat.blt_eq]; have : Nat.beq a b = true ↔ a = b := ⟨Nat.eq_of_beq_eq_true, λ h => by subst h; exact Nat.beq_refl _⟩
 rw [this]
theorem aEV : ∀ s : Ln, tY s s = false
 | [] => rfl
 | a :: s => by
   rw [Bool.eq_false_iff, ne_eq, tX]
   rintro (h | ⟨_, h⟩)
   · omega
   · rw [aEV s] at h; cases h
theorem aCe : ∀ {a b c : Ln}, tY a b = true -> tY b c = true -> tY a c = true
 | [], [], _, h, _ => by cases h
 | [], b :: s, [], _, h => by cases h
 | [], b :: s, c :: t, _, _ => rfl
 | a :: s, [], _, h, _ => by cases h
 | a :: s, b :: t, [], _, h => by cases h
 | a :: s, b :: t, c :: u, h, k => by
   rw [tX] at *; rcases h with h | ⟨rfl, h⟩ <;> rcases k with k | ⟨rfl, k⟩
   · exact .inl (by omega)
   · exact .inl h
   · exact .inl k
   · exact .inr ⟨rfl, aCe h k⟩
theorem aSZ : ∀ {a b : Ln}, tY a b = false -> tY b a = false -> a = b
 | [], [], _, _ => rfl
 | [], b :: s, h, _ => by cases h
 | a :: s, [], _, h => by cases h
 | a :: s, b :: t, h, k => by
   rw [Bool.eq_false_iff, ne_eq, tX, not_or] at *; have e : a = b := by omega
   subst e; have h2 : tY s t = false := by rw [Bool.eq_false_iff]; exact λ x => h.2 ⟨rfl, x⟩
   have k2 : tY t s = false := by rw [Bool.eq_false_iff]; exact λ x => k.2 ⟨rfl, x⟩
   rw [aSZ h2 k2]
abbrev EL := List (Ln × Nat)
def iC (l : EL) : Prop := l.Pairwise λ a b => tY a.1 b.1 = true
def dY (l : EL) (key : Ln) : Nat := (l.takeWhile λ e => tY e.1 key).length
def eS (l : EL) (key : Ln) : Bool := match l[dY l key]? with
 | some e => e.1 == key
 | none => false
theorem uK (l : EL) (key : Ln) : dY l key <= l.length := (List.takeWhile_sublist _).length_le
theorem nS {α : Type} {p : α -> Bool} : ∀ {l : List α} {e : α}, e ∈ l.takeWhile p -> p e = true
 | [], e, h => by cases h
 | x :: l, e, h => by
   rw [List.takeWhile_cons] at h; split at h
   · rename_i hx; rcases List.mem_cons.1 h with rfl | h
     · exact hx
     · exact nS h
   · cases h
theorem uL {l : EL} {key : Ln} : ∀ {i : Nat} {e : Ln × Nat}, i < dY l key -> l[i]? = some e -> tY e.1 key = true := by
 intro i e hi he; have h1 : (l.takeWhile λ e => tY e.1 key)[i]? = some e := by
   have : l = (l.takeWhile λ e => tY e.1 key) ++ l.dropWhile λ e => tY e.1 key := (List.takeWhile_append_dropWhile).symm
   rw [this, List.getElem?_append_left hi] at he; exact he
 have h2 := List.mem_of_getElem? h1; exact nS (p := λ e : Ln × Nat => tY e.1 key) h2
theorem aJM {l : EL} {key : Ln} {e : Ln × Nat} (he : l[dY l key]? = some e) : tY e.1 key = false := by
 induction l with
 | nil => simp at he
 | cons x l ih =>
   unfold dY at he ih; rw [List.takeWhile_cons] at he; split at he
   · simp only [List.length_cons, List.getElem?_cons_succ] at he; exact ih he
   · rename_i hx; simp only [List.length_nil, List.getElem?_cons_zero, Option.some.injEq] at he; subst he
     simpa using hx
theorem aFe {l : EL} (hs : iC l) {key : Ln} {i : Nat} {e : Ln × Nat} (hi : dY l key <= i) (he : l[i]? = some e) : tY e.1 key = false := by
 have hil := (List.getElem?_eq_some_iff.1 he).1; obtain ⟨p, hp⟩ : ∃ p, l[dY l key]? = some p := ⟨_, List.getElem?_eq_getElem (by omega)⟩
 have h0 := aJM hp; rcases Nat.lt_or_ge (dY l key) i with h | h
 · have h1 : tY p.1 e.1 = true := by
     have := List.pairwise_iff_getElem.1 hs (dY l key) i (by omega) hil h
     rw [List.getElem?_eq_some_iff] at hp he; obtain ⟨_, rfl⟩ := hp; obtain ⟨_, rfl⟩ := he; exact this
   rw [Bool.eq_false_iff]; intro h2; rw [aCe h1 h2] at h0; cases h0
 · have : i = dY l key := by omega
   subst this; rw [he] at hp; cases hp; exact h0
theorem bCg {l : EL} {key : Ln} {p : Nat} (hp : p <= l.length) (h1 : ∀ i e, i < p -> l[i]? = some e -> tY e.1 key = true) (h2 : ∀ e, l[p]? = some e -> tY e.1 key = false) : dY l key = p := by
 have hle := uK l key; rcases Nat.lt_or_ge (dY l key) p with h | h
 · have := h1 (dY l key) _ h (List.getElem?_eq_getElem (by omega))
   rw [aJM (List.getElem?_eq_getElem (by omega))] at this; cases this
 · rcases Nat.lt_or_ge p (dY l key) with h3 | h3
   · have := uL h3 (List.getElem?_eq_getElem (by omega))
     rw [h2 _ (List.getElem?_eq_getElem (by omega))] at this; cases this
   · omega
def jU (l : EL) (key : Ln) : Nat := if eS l key then (l[dY l key]?.map (·.2)).getD 0 else 0
def mK (l : EL) (key : Ln) : Nat := if eS l key then 0 else 7
def gQ (l : EL) (key : Ln) (n : Nat) : EL := l.take (dY l key) ++ (key, n) :: l.drop (dY l key)
def gF (l : EL) (key : Ln) : EL := l.take (dY l key) ++ l.drop (dY l key + 1)
theorem oU {l : EL} {key : Ln} (h : eS l key = true) : ∃ n, l[dY l key]? = some (key, n) /\ jU l key = n := by
 unfold jU; rw [if_pos h]; unfold eS at h; split at h
 · rename_i e he; rw [beq_iff_eq] at h; subst h; exact ⟨e.2, he, by rw [he]; rfl⟩
 · cases h
theorem mJ {l : EL} {key : Ln} (h : eS l key = true) : (key, jU l key) ∈ l := by
 obtain ⟨n, h1, h2⟩ := oU h; rw [h2]; exact List.mem_of_getElem? h1
theorem aDL {l : EL} (hs : iC l) {key : Ln} {n : Nat} (h : (key, n) ∈ l) : eS l key = true /\ jU l key = n := by
 obtain ⟨i, hi⟩ := List.mem_iff_getElem?.1 h; have hil := (List.getElem?_eq_some_iff.1 hi).1; have hp : dY l key = i := bCg (by omega) (λ j e hj he => by
   have := List.pairwise_iff_getElem.1 hs j i (by omega) hil hj
   rw [List.getElem?_eq_some_iff] at hi he; obtain ⟨_, q1⟩ := hi; obtain ⟨_, q2⟩ := he; rw [q1, q2] at this; exact this) (λ e he => by rw [hi] at he; cases he; exact aEV _)
 have hh : eS l key = true := by unfold eS; rw [hp, hi]; simp
 refine ⟨hh, ?_⟩; obtain ⟨m, h1, h2⟩ := oU hh; rw [h2]; rw [hp, hi] at h1; cases h1; rfl
theorem aMJ {l : EL} (h : iC l) (n : Nat) : iC (l.take n) := h.sublist (List.take_sublist _ _)
theorem aOO {l : EL} (hs : iC l) {key : Ln} {n : Nat} (hk : eS l key = false) : iC (gQ l key n) := by
 unfold gQ iC; rw [List.pairwise_append]; have hd : ∀ e ∈ l.drop (dY l key), tY key e.1 = true := by
   intro e he; obtain ⟨i, hi⟩ := List.mem_iff_getElem?.1 he; rw [List.getElem?_drop] at hi; have h1 := aFe (key := key) hs (by omega) hi
   cases h2 : tY key e.1 with
   | true => rfl
   | false =>
     have e1 := aSZ h1 h2; have hm : (key, e.2) ∈ l := by rw [<- e1]; exact List.mem_of_getElem? hi
     rw [(aDL hs hm).1] at hk; cases hk
 have ht : ∀ e ∈ l.take (dY l key), tY e.1 key = true := by
   intro e he; obtain ⟨i, hi⟩ := List.mem_iff_getElem?.1 he; rw [List.getElem?_take] at hi; split at hi
   · rename_i h; exact uL h hi
   · cases hi
 refine ⟨aMJ hs _, ?_, ?_⟩
 · rw [List.pairwise_cons]; exact ⟨λ e he => hd e he, hs.sublist (List.drop_sublist _ _)⟩
 · intro a ha b hb; rcases List.mem_cons.1 hb with rfl | hb
   · exact ht a ha
   · exact aCe (ht a ha) (hd b hb)
theorem aNf {l : EL} (hs : iC l) (key : Ln) : iC (gF l key) := by
 unfold gF; refine hs.sublist ?_
 conv => rhs; rw [<- List.take_append_drop (dY l key) l]
 exact (List.Sublist.refl _).append (List.drop_sublist_drop_left l (by omega))
theorem aDU (l : EL) (key : Ln) (n : Nat) : (gQ l key n).length = l.length + 1 := by
 have := uK l key; simp [gQ]; omega
theorem aZz {l : EL} {key : Ln} {n : Nat} {e : Ln × Nat} : e ∈ gQ l key n ↔ e = (key, n) \/ e ∈ l := by
 unfold gQ; rw [List.mem_append, List.mem_cons]
 conv => rhs; rw [<- List.take_append_drop (dY l key) l, List.mem_append]
 constructor
 · rintro (h | h | h)
   · exact .inr (.inl h)
   · exact .inl h
   · exact .inr (.inr h)
 · rintro (h | h | h)
   · exact .inr (.inl h)
   · exact .inl h
   · exact .inr (.inr h)
theorem aNe {l : EL} {key : Ln} {e : Ln × Nat} (h : e ∈ gF l key) : e ∈ l := by
 unfold gF at h; rcases List.mem_append.1 h with h | h
 · exact List.mem_of_mem_take h
 · exact List.mem_of_mem_drop h
def eA (l : EL) : List DV := l.flatMap λ e => [DV.str e.1, ii e.2]
theorem yM (e : Ln × Nat) (l : EL) : eA (e :: l) = [DV.str e.1, ii e.2] ++ eA l := rfl
theorem oW (a b : EL) : eA (a ++ b) = eA a ++ eA b := by unfold eA; rw [List.flatMap_append]
theorem bI : ∀ l : EL, (eA l).length = l.length * 2
 | [] => rfl
 | e :: l => by rw [yM, List.length_append, bI l]; simp; omega
theorem qN : ∀ l : EL, (eA l).all DV.one = true
 | [] => rfl
 | e :: l => by rw [yM, List.all_append, qN l]; rfl
theorem aNX : ∀ {l : EL} {i : Nat} {e : Ln × Nat}, l[i]? = some e -> (eA l)[i * 2]? = some (.str e.1) /\ (eA l)[i * 2 + 1]? = some (ii e.2)
 | [], i, e, h => by simp at h
 | x :: l, 0, e, h => by simp at h; subst h; exact ⟨rfl, rfl⟩
 | x :: l, i + 1, e, h => by
   simp only [List.getElem?_cons_succ] at h; obtain ⟨h1, h2⟩ := aNX h; rw [yM, show (i + 1) * 2 = [DV.str x.1, ii x.2].length + i * 2 from by simp; omega]
   constructor
   · rw [List.getElem?_append_right (by omega)]; simpa using h1
   · rw [List.getElem?_append_right (by omega)]; rw [show [DV.str x.1, ii x.2].length + i * 2 + 1 - [DV.str x.1, ii x.2].length = i * 2 + 1 from by omega]; exact h2
theorem sW (l : EL) (i : Nat) : (eA l).take (i * 2) = eA (l.take i) := by
 rcases Nat.lt_or_ge l.length i with h | h
 · rw [List.take_of_length_le (by rw [bI]; omega), List.take_of_length_le (by omega)]
 · conv => lhs; rw [<- List.take_append_drop i l, oW]
   rw [List.take_append_of_le_length (by rw [bI, List.length_take]; omega), List.take_of_length_le (by rw [bI, List.length_take]; omega)]
theorem nO (l : EL) (i : Nat) : (eA l).drop (i * 2) = eA (l.drop i) := by
 rcases Nat.lt_or_ge l.length i with h | h
 · rw [List.drop_of_length_le (by rw [bI]; omega), List.drop_of_length_le (by omega)]; rfl
 · conv => lhs; rw [<- List.take_append_drop i l, oW]
   rw [show i * 2 = (eA (l.take i)).length from by rw [bI, List.length_take]; omega, List.drop_left]
theorem aIx (l : EL) (key : Ln) (n : Nat) : (eA l).take (dY l key * 2) ++ [DV.str key, ii n] ++ (eA l).drop (dY l key * 2) = eA (gQ l key n) := by
 rw [sW, nO]; unfold gQ; rw [oW, yM]; simp
theorem aWC (l : EL) (key : Ln) : (eA l).take (dY l key * 2) ++ (eA l).drop ((dY l key + 1) * 2) = eA (gF l key) := by
 rw [sW, nO]; unfold gF; rw [oW]
abbrev aPs : Nat -> Prop := λ _ => True
theorem aBU (s t : Ln) : dA (.str s) (.str t) = some (.bool (tY s t)) := by
 show aSY s t = _; unfold aSY; rw [gH]
theorem kX {A : Nat -> Prop} {h : H} {v : DV} {l : EL} (r : RowE A 2 h v (eA l)) {i : Nat} {e : Ln × Nat} (he : l[i]? = some e) (k : IntKind) :
   ∃ b o, cD 2 v (.int k (.ofNat i)) = some (.ptr b o) /\ rdCell h.get b o = some (.str e.1) /\ rdCell h.get b (o + 1) = some (ii e.2) /\ aM 2 h.get (.ptr b o) = some (.agg [.str e.1, ii e.2]) /\
     aI 0 (.ptr b o) = some (.ptr b o) /\ aI 1 (.ptr b o) = some (.ptr b (o + 1)) /\ aF h.get (.ptr b o) = some (.str e.1) /\ aF h.get (.ptr b (o + 1)) = some (ii e.2) := by
 obtain ⟨b, o, h1, h2⟩ := r.ix (i := i) (n := l.length) (bI l) (List.getElem?_eq_some_iff.1 he).1 (by omega) k
 obtain ⟨g1, g2⟩ := aNX he; have c0 := h2 0 _ (by omega) g1
 have c1 := h2 1 _ (by omega) g2
 rw [Nat.add_zero] at c0; refine ⟨b, o, h1, c0, c1, ?_, by rw [aJ, Nat.add_zero], aJ 1 b o, by simp only [aF, cL]; exact c0, by simp only [aF, cL]; exact c1⟩
 have hc : rdCells h.get b o 2 = some [.str e.1, ii e.2] := by simp only [rdCells, c0, c1]
 simp only [aM, cM, hc]; rfl
theorem aOd {E : bJ} (s : Ln) (n : Nat) (h : H) : ∃ h', aWZ E [.agg [.str s, ii n]] h = some (.str s, h') /\ aH h h' := by
 refine ⟨h.push (.blk ⟨2, 2, false, true, Tr.ofL [.str s, ii n]⟩), ?_, aH.push h _⟩; show aKN E (.agg [.str s, ii n]) h = _; unfold aKN; rw [hU, aJ, aA, (aX.pushed (h := h) (L := [.str s, ii n])).read (j := 0 + 0) rfl, aA]; rfl
def aAs (B : cF) : Prop := ∀ (A : Nat -> Prop) (v : DV) (l : EL) (key : Ln) (h : H), RowE A 2 h v (eA l) -> iC l -> l.length < 1000000 ->
 ∃ h', B [v, .str key, .fn (.func 163) [] []] h = some (.tup [ii ((dY l key)), .bool (eS l key)], h') /\ aH h h'
theorem aHd {E F : bJ} (hC : E 163 = some (aWZ F)) {A : Nat -> Prop} {v : DV} {l : EL} {key : Ln} (hl : l.length < 1000000) (hs : iC l) :
   ∀ (k low high m : Nat) (h : H), RowE A 2 h v (eA l) -> high - low <= k -> low <= dY l key -> dY l key <= high -> high <= l.length ->
   ∃ h', aCT E v (.str key) (.fn (.func 163) [] []) (m + (k + 1)) (ii low) (ii high) h = some (.tup [ii ((dY l key)), .bool (eS l key)], h') /\ aH h h' := by
 intro k
 induction k with
 | zero =>
   intro low high m h r hk h1 h2 h3; have hp : low = dY l key := by omega
   have hh : high = dY l key := by omega
   rw [hp, hh]; show ∃ h', aGC E v _ _ (aCT E v _ _ m) _ _ h = _ /\ _; unfold aGC; rw [aP, aA, decide_eq_false (Nat.lt_irrefl _), aC]; unfold aKO; obtain ⟨n, e1, e2⟩ := r.len; have hn : n = l.length := by rw [bI] at e1; omega
   subst hn; rw [e2, aA, aP, aA]; by_cases hlt : dY l key < l.length
   · obtain ⟨e, he⟩ : ∃ e, l[dY l key]? = some e := ⟨_, List.getElem?_eq_getElem hlt⟩; obtain ⟨b, o, q1, q2, q3, q4, q5, q6, q7, q8⟩ := kX r he .i64; obtain ⟨h', f1, f2⟩ := aOd (E := F) e.1 e.2 h; refine ⟨h', ?_, f2⟩; have hc : kZ E (.fn (.func 163) [] []) [.agg [.str e.1, ii e.2]] h = some (.str e.1, h') := by
       show aE E 163 ([] ++ [.agg [.str e.1, ii e.2]] ++ []) h = _; rw [cN hC]; exact f1
     have hb : eS l key = (e.1 == key) := by unfold eS; rw [he]
     simp only [decide_eq_true hlt, gT, q1, aA, q4, hc, aB, gI, bZ, hb]
   · refine ⟨h, ?_, aH.refl h⟩; have hb : eS l key = false := by unfold eS; rw [List.getElem?_eq_none (by omega)]
     simp only [decide_eq_false hlt, wJ, eD, bT, aA, hb]
 | succ k ih =>
   intro low high m h r hk h1 h2 h3; rcases Nat.lt_or_ge low high with hlh | hlh
   · show ∃ h', aGC E v _ _ (aCT E v _ _ (m + (k + 1))) _ _ h = _ /\ _; unfold aGC; have hmid : (low + high) / 2 < l.length := by omega
     obtain ⟨e, he⟩ : ∃ e, l[(low + high) / 2]? = some e := ⟨_, List.getElem?_eq_getElem hmid⟩; obtain ⟨b, o, q1, q2, q3, q4, q5, q6, q7, q8⟩ := kX r he .i64; obtain ⟨h1', f1, f2⟩ := aOd (E := F) e.1 e.2 h; have hc : kZ E (.fn (.func 163) [] []) [.agg [.str e.1, ii e.2]] h = some (.str e.1, h1') := by
       show aE E 163 ([] ++ [.agg [.str e.1, ii e.2]] ++ []) h = _; rw [cN hC]; exact f1
     rw [aP, aA, decide_eq_true hlh, aD, bO (by omega), aA, aVE (by omega) (by omega), aA, q1, aA, q4, aA, hc, aB, aBU, aA]
     have r' := r.grown f2; by_cases hlt : tY e.1 key = true
     · rw [hlt, aD, bO (by omega), aA]
       have hpm : (low + high) / 2 < dY l key := by
         rcases Nat.lt_or_ge ((low + high) / 2) (dY l key) with h5 | h5
         · exact h5
         · rw [aFe hs h5 he] at hlt; cases hlt
       obtain ⟨h', g1, g2⟩ := ih ((low + high) / 2 + 1) high m h1' r' (by omega) (by omega) h2 h3
       exact ⟨h', g1, f2.trans g2⟩
     · rw [Bool.not_eq_true] at hlt; rw [hlt, aC]; have hpm : dY l key <= (low + high) / 2 := by
         rcases Nat.lt_or_ge ((low + high) / 2) (dY l key) with h5 | h5
         · rw [uL h5 he] at hlt; cases hlt
         · exact h5
       obtain ⟨h', g1, g2⟩ := ih low ((low + high) / 2) m h1' r' (by omega) h1 hpm (by omega)
       exact ⟨h', g1, f2.trans g2⟩
   · exact ih low high (m + 1) h r (by omega) h1 h2 h3 |>.imp λ h' x => by rw [show m + (k + 1 + 1) = m + 1 + (k + 1) from by omega]; exact x
theorem aMN {E F : bJ} (hC : E 163 = some (aWZ F)) : aAs (aZO E) := by
 intro A v l key h r hs hl; obtain ⟨n, e1, e2⟩ := r.len; have hn : n = l.length := by rw [bI] at e1; omega
 subst hn; obtain ⟨h', f1, f2⟩ := aHd (E := E) hC (key := key) hl hs l.length 0 l.length (aQ - (l.length + 1)) h r (by omega) (by omega) (uK l key) (Nat.le_refl _)
 rw [show aQ - (l.length + 1) + (l.length + 1) = aQ from by unfold aQ; omega] at f1
 refine ⟨h', ?_, f2⟩; show aKP E v (.str key) (.fn (.func 163) [] []) h = _; unfold aKP; rw [e2, aA]; exact f1
def aAG (A : Nat -> Prop) (h : H) (d : Nat) (l : EL) : Prop := ∃ v, aX h d [v] /\ RowE A 2 h v (eA l)
theorem aAG.grown {A : Nat -> Prop} {h h' : H} {d : Nat} {l : EL} (r : aAG A h d l) (g : aH h h') : aAG A h' d l := by
 obtain ⟨v, h1, h2⟩ := r; exact ⟨v, h1.grown g, h2.grown g⟩
def xN (B : cF) : Prop := ∀ (A : Nat -> Prop) (d : Nat) (l : EL) (key : Ln) (h : H), aAG A h d l -> iC l -> l.length < 1000000 ->
 ∃ h', B [.ptr d 0, .str key] h = some (.tup [ii ((dY l key)), .bool (eS l key)], h') /\ aH h h'
theorem aRn {E : bJ} (hS : bL E 162 aAs) : xN (bAc E) := by
 obtain ⟨B, hB, sB⟩ := hS.call; intro A d l key h r hs hl; obtain ⟨v, h1, h2⟩ := r; obtain ⟨h', f1, f2⟩ := sB A v l key h h2 hs hl; refine ⟨h', ?_, f2⟩; show aLe E (.ptr d 0) (.str key) h = _; unfold aLe; rw [cO, aA, aC, bA, aA, aJ, aA, h1.read (j := 0 + 0) rfl, aA, hB, f1, aB, aL, aA, aK, aA]
def xH (B : cF) : Prop := ∀ (A : Nat -> Prop) (d : Nat) (l : EL) (key : Ln) (h : H), aAG A h d l -> iC l -> l.length < 1000000 ->
 ∃ h', B [.ptr d 0, .str key] h = some (.tup [ii ((jU l key)), ii ((mK l key))], h') /\ aH h h'
theorem aRl {E : bJ} (hS : bL E 142 xN) : xH (aZZ E) := by
 obtain ⟨B, hB, sB⟩ := hS.call; intro A d l key h r hs hl; obtain ⟨h', f1, f2⟩ := sB A d l key h r hs hl; obtain ⟨v, h1, h2⟩ := r.grown f2; refine ⟨h', ?_, f2⟩; show aLb E (.ptr d 0) (.str key) h = _; unfold aLb; rw [hB, f1, aB, aL, aA, aK, aA, gJ, aA]; cases hh : eS l key with
 | false =>
   have e1 : jU l key = 0 := by unfold jU; rw [hh]; rfl
   have e2 : mK l key = 7 := by unfold mK; rw [hh]; rfl
   rw [e1, e2, Bool.not_false, aD]
 | true =>
   obtain ⟨n, g1, g2⟩ := oU hh; have e2 : mK l key = 0 := by unfold mK; rw [hh]; rfl
   obtain ⟨b, o, q1, q2, q3, q4, q5, q6, q7, q8⟩ := kX h2 g1 .i64; rw [g2, e2, Bool.not_true, aC, bA, aA, aJ, aA, h1.read (j := 0 + 0) rfl, aA, q1, aA, q6, aA, q8, aA]
def aEw (B : cF) : Prop := ∀ (A : Nat -> Prop) (d : Nat) (l : EL) (h : H), aAG A h d l -> B [.ptr d 0] h = some (ii l.length, h)
theorem aWG {E : bJ} : aEw (S97 E) := by
 intro A d l h r; obtain ⟨v, h1, h2⟩ := r; obtain ⟨n, e1, e2⟩ := h2.len; have hn : n = l.length := by rw [bI] at e1; omega
 subst hn; show aUf E (.ptr d 0) h = _; unfold aUf; rw [cO, aA, aC, bA, aA, aJ, aA, h1.read (j := 0 + 0) rfl, aA, e2, aA]
def tF (B : cF) : Prop := ∀ (A : Nat -> Prop) (v : DV) (l : EL) (key : Ln) (h : H), RowE A 2 h v (eA l) -> l.length < 1000000 -> B [v, .str key] h = some (.tup [ii ((dY l key)), .bool (eS l key)], h)
theorem aJB {E : bJ} {A : Nat -> Prop} {v : DV} {l : EL} {key : Ln} {h : H} (r : RowE A 2 h v (eA l)) (hl : l.length < 1000000) :
   ∀ (k i m : Nat), dY l key - i = k -> i <= dY l key -> aCR E v (.str key) (m + (k + 1)) (ii i) h = some (.tup [ii ((dY l key)), .bool (eS l key)], h) := by
 obtain ⟨n, e1, e2⟩ := r.len; have hn : n = l.length := by rw [bI] at e1; omega
 subst hn; have hple := uK l key; have fin : aGj E v (.str key) (ii (dY l key)) h = some (.tup [ii ((dY l key)), .bool (eS l key)], h) := by
   unfold aGj; rw [e2, aA, aP, aA]; by_cases hlt : dY l key < l.length
   · obtain ⟨e, he⟩ : ∃ e, l[dY l key]? = some e := ⟨_, List.getElem?_eq_getElem hlt⟩; obtain ⟨b, o, q1, q2, q3, q4, q5, q6, q7, q8⟩ := kX r he .i64; have hb : eS l key = (e.1 == key) := by unfold eS; rw [he]
     simp only [decide_eq_true hlt, gT, q1, aA, q5, q7, gI, bZ, hb]
   · have hb : eS l key = false := by unfold eS; rw [List.getElem?_eq_none (by omega)]
     simp only [decide_eq_false hlt, wJ, eD, bT, aA, hb]
 intro k
 induction k with
 | zero =>
   intro i m hk hi; have : i = dY l key := by omega
   subst this; show aGA E v _ (aCR E v _ m) _ h = _; unfold aGA; rw [e2, aA, aP, aA]; by_cases hlt : dY l key < l.length
   · obtain ⟨e, he⟩ : ∃ e, l[dY l key]? = some e := ⟨_, List.getElem?_eq_getElem hlt⟩; obtain ⟨b, o, q1, q2, q3, q4, q5, q6, q7, q8⟩ := kX r he .i64; simp only [decide_eq_true hlt, gT, q1, aA, q5, q7, aBU, bZ, aJM he]; rw [aC]; exact fin
   · simp only [decide_eq_false hlt, wJ, eD, bT, aA]; rw [aC]; exact fin
 | succ k ih =>
   intro i m hk hi; show aGA E v _ (aCR E v _ (m + (k + 1))) _ h = _; unfold aGA; rw [e2, aA, aP, aA]; have hlt : i < l.length := by omega
   obtain ⟨e, he⟩ : ∃ e, l[i]? = some e := ⟨_, List.getElem?_eq_getElem hlt⟩; obtain ⟨b, o, q1, q2, q3, q4, q5, q6, q7, q8⟩ := kX r he .i64; simp only [decide_eq_true hlt, gT, q1, aA, q5, q7, aBU, bZ, uL (show i < dY l key by omega) he]
   rw [aD, bO (by omega), aA]
   exact ih (i + 1) m (by omega) (by omega)
theorem aQt {E : bJ} : tF (aZM E) := by
 intro A v l key h r hl; have hple := uK l key; have := aJB (E := E) r (key := key) hl (dY l key) 0 (aQ - (dY l key + 1)) (by omega) (by omega)
 rw [show aQ - (dY l key + 1) + (dY l key + 1) = aQ from by unfold aQ; omega] at this
 exact this
def tE (B : cF) : Prop := ∀ (A : Nat -> Prop) (v : DV) (l : EL) (key : Ln) (h : H), RowE A 2 h v (eA l) -> l.length < 1000000 -> B [v, .str key] h = some (.tup [ii ((jU l key)), ii ((mK l key))], h)
theorem aQp {E : bJ} (hF : bL E 169 tF) : tE (aZV E) := by
 obtain ⟨B, hB, sB⟩ := hF.call; intro A v l key h r hl; show aKW E v (.str key) h = _; unfold aKW; rw [hB, sB A v l key h r hl, aB, aL, aA, aK, aA, gJ, aA]; cases hh : eS l key with
 | false =>
   have e1 : jU l key = 0 := by unfold jU; rw [hh]; rfl
   have e2 : mK l key = 7 := by unfold mK; rw [hh]; rfl
   rw [e1, e2, Bool.not_false, aD]
 | true =>
   obtain ⟨n, g1, g2⟩ := oU hh; have e2 : mK l key = 0 := by unfold mK; rw [hh]; rfl
   obtain ⟨b, o, q1, q2, q3, q4, q5, q6, q7, q8⟩ := kX r g1 .i64; rw [g2, e2, Bool.not_true, aC, q1, aA, q6, aA, q8, aA]
def kI (h : H) (d : Nat) (l : EL) (fp : Ln) : Prop := ∃ v, aX h d [v] /\ ((v = .nils /\ l = [] /\ fp = [d]) \/ ∃ b cap, v = .slc b 0 l.length cap true /\ fI h b (cap * 2) 2 (eA l) /\ b ≠ d /\ fp = [d, b])
theorem kI.view {h : H} {d : Nat} {l : EL} {fp : Ln} (r : kI h d l fp) {A : Nat -> Prop} (hA : ∀ c ∈ fp, A c) : aAG A h d l := by
 obtain ⟨v, h1, ⟨rfl, rfl, rfl⟩ | ⟨b, cap, rfl, h2, hne, rfl⟩⟩ := r
 · exact ⟨.nils, h1, RowE.nils⟩
 · refine ⟨_, h1, l.length, bI l, .inr (.inr ⟨b, 0, cap, true, rfl, ?_, hA b (by simp), h2.1, λ j x hj => by rw [Nat.zero_add]; exact h2.rd hj⟩)⟩
   have := h2.2.1; rw [bI] at this; omega
theorem kI.lt {h : H} {d : Nat} {l : EL} {fp : Ln} (r : kI h d l fp) : ∀ c ∈ fp, c < h.size := by
 obtain ⟨v, h1, ⟨rfl, rfl, rfl⟩ | ⟨b, cap, rfl, h2, hne, rfl⟩⟩ := r
 · intro c hc; simp at hc; subst hc; exact h1.1
 · intro c hc; simp at hc; rcases hc with rfl | rfl
   · exact h1.1
   · exact h2.1
theorem kI.off {h h' : H} {d : Nat} {l : EL} {fp : Ln} (r : kI h d l fp) {F : Nat -> Prop} (g : kJ F h h') (hF : ∀ c ∈ fp, ¬ F c) : kI h' d l fp := by
 obtain ⟨v, h1, h2⟩ := r; have hd : d ∈ fp := by rcases h2 with ⟨_, _, rfl⟩ | ⟨_, _, _, _, _, rfl⟩ <;> simp
 refine ⟨v, ?_, ?_⟩
 · obtain ⟨a1, es, t, a2, a3⟩ := h1; exact ⟨Nat.lt_of_lt_of_le a1 g.size, es, t, by rw [g.get d a1 (hF d hd)]; exact a2, a3⟩
 · rcases h2 with h2 | ⟨b, cap, e, ⟨a1, a2, pl, t, a3, a4⟩, hne, rfl⟩
   · exact .inl h2
   · exact .inr ⟨b, cap, e, ⟨Nat.lt_of_lt_of_le a1 g.size, a2, pl, t, by rw [g.get b a1 (hF b (by simp))]; exact a3, a4⟩, hne, rfl⟩
theorem aIk {R : Type} {y z a b : DV} (ha : a.one = true) (hb : b.one = true) (h : H) (k : DV -> H -> Option R) : fG 1 2 [y, z] [(0, 2, .agg [a, b])] h k = k (.slc h.size 0 1 1 false) (h.push (.blk ⟨2, 2, false, true, Tr.ofL [a, b]⟩)) := by
 have hf : gP (gM [y, z] 1) [(0, 2, .agg [a, b])] = some [a, b] := rfl; simp only [fG, hf, Option.bind_some, H.pushK_eq]
def aEx (B : cF) : Prop := (∀ args h r, aGs 2 args h = some r -> B args h = some r) /\
 ∀ (vb : Nat) (h : H) (N : List DV), rdCells h.get vb 0 2 = some N -> B [.nils, .int .i64 (.ofNat 0), .slc vb 0 1 1 false] h = some (.slc h.size 0 1 1 true, h.push (.blk ⟨2, 2, false, true, Tr.ofL N⟩))
theorem aQR {E : bJ} (vb : Nat) (h : H) (N : List DV) (hr : rdCells h.get vb 0 2 = some N) : aKw E [.nils, ii 0, .slc vb 0 1 1 false] h = some (.slc h.size 0 1 1 true, h.push (.blk ⟨2, 2, false, true, Tr.ofL N⟩)) := by
 show aDj E .nils (ii 0) (.slc vb 0 1 1 false) h = _; unfold aDj; have e1 : dU 2 .nils (some (ii 0)) none = some .nils := rfl; have e2 : cA .nils = some (ii 0) := rfl; have ap : cE 2 24 .nils (.slc vb 0 1 1 false) h = some (.slc h.size 0 1 1 true, h.push (.blk ⟨2, 2, false, true, Tr.ofL N⟩)) := by
   rw [eN]; have hs : dR 2 h.get (.slc vb 0 1 1 false) = some N := hr; have s1 : Nat.blt (1 * 24) aR = true := dS (by unfold aR; omega)
   have s2 : Nat.blt 1 aR = true := dS (by unfold aR; omega)
   simp only [fR, srcLen, hs, Option.bind_some, s1, s2, Bool.and_self, cond_true, H.pushK_eq]; rfl
 rw [e1, aA, pY, aA, cB, aA, decide_eq_false (by omega), aC, e2, aA, cB, aA, decide_eq_true rfl, aD, ap, aB]
def tJ (E : bJ) : cF := λ args h => Option.rec (motive := λ _ => Option (DV × H)) (aKw E args h) some (aGs 2 args h)
theorem aNG (E : bJ) : aEx (tJ E) := by
 refine ⟨λ args h r e => by unfold tJ; rw [e], λ vb h N hr => ?_⟩
 have e : aGs 2 [.nils, .int .i64 (.ofNat 0), .slc vb 0 1 1 false] h = none := rfl; unfold tJ; rw [e]; exact aQR vb h N hr
theorem bGJ {B : cF} (hI : aEx B) {h : H} {d : Nat} {l : EL} {fp : Ln} {v : DV} {key : Ln} {n i vb : Nat} (hd : aX h d [v]) (hv : (v = .nils /\ l = [] /\ fp = [d]) \/ ∃ b cap, v = .slc b 0 l.length cap true /\ fI h b (cap * 2) 2 (eA l) /\ b ≠ d /\ fp = [d, b])
   (hi : i <= l.length) (hl : l.length < 1000000) (hvb : vb ∉ fp) (hb : h.get vb = some (.blk ⟨2, 2, false, true, Tr.ofL [DV.str key, .int .i64 (.ofNat n)]⟩)) :
   ∃ w h' c, B [v, .int .i64 (.ofNat i), .slc vb 0 1 1 false] h = some (w, h') /\ w = .slc c 0 (l.length + 1) (l.length + 1) true /\ fI h' c ((l.length + 1) * 2) 2 ((eA l).take (i * 2) ++ [DV.str key, .int .i64 (.ofNat n)] ++ (eA l).drop (i * 2)) /\ h.size <= c /\ kJ (λ x => x ∈ fp /\ x ≠ d) h h' := by
 have hN : rdCells h.get vb 0 2 = some [DV.str key, .int .i64 (.ofNat n)] := by
   have c0 : rdCell h.get vb 0 = some (.str key) := by rw [kT hb (by show 0 < 2; omega)]; exact Tr.at_ofL _ _
   have c1 : rdCell h.get vb 1 = some (.int .i64 (.ofNat n)) := by rw [kT hb (by show 1 < 2; omega)]; exact Tr.at_ofL _ _
   simp only [rdCells, c0, c1]
 rcases hv with ⟨rfl, rfl, rfl⟩ | ⟨b, cap, rfl, hP, hne, rfl⟩
 · have hi0 : i = 0 := by simpa using hi
   subst hi0; refine ⟨_, _, h.size, hI.2 vb h _ hN, rfl, ?_, Nat.le_refl _, (aH.push h _).off _⟩; exact fI.pushed (L := [DV.str key, .int .i64 (.ofNat n)])
 · have hcap : l.length <= cap := by have := hP.2.1; rw [bI] at this; omega
   have hL := hP.cells (o := 0) (k := l.length * 2) (by rw [bI]; omega)
   rw [List.drop_zero, List.take_of_length_le (by rw [bI]; omega)] at hL
   obtain ⟨hblt, _, pl, t, hB, _⟩ := hP; have hvb' : vb ≠ b := λ e => hvb (by simp [e])
   have e1 : Nat.beq vb b = false := by rw [Bool.eq_false_iff]; intro hh; exact hvb' (Nat.eq_of_beq_eq_true hh)
   have hF : aGs 2 [.slc b 0 l.length cap true, .int .i64 (.ofNat i), .slc vb 0 1 1 false] h = some (.slc h.size 0 (l.length + 1) (l.length + 1) true, (h.put b .dead).push (.blk ⟨(l.length + 1) * 2, 2, false, false, Tr.ofL ((eA l).take (i * 2) ++ [DV.str key, .int .i64 (.ofNat n)] ++ (eA l).drop (i * 2))⟩)) := by
     simp only [aGs, hB, hb, e1, Nat.beq_refl, Nat.ble_eq_true_of_le hcap, Nat.ble_eq_true_of_le hi, dS hl, Bool.not_false, Bool.and_self, cond_true, hL, Option.bind_some, hN, qN]
     rfl
   refine ⟨_, _, h.size, hI.1 _ _ _ hF, rfl, ?_, Nat.le_refl _, ⟨by simp, λ c hc hf => ?_⟩⟩
   · have := fI.pushed (h := h.put b .dead) (es := 2) (pl := false) (L := (eA l).take (i * 2) ++ [DV.str key, .int .i64 (.ofNat n)] ++ (eA l).drop (i * 2)); have hlen : ((eA l).take (i * 2) ++ [DV.str key, .int .i64 (.ofNat n)] ++ (eA l).drop (i * 2)).length = (l.length + 1) * 2 := by
       simp only [List.length_append, List.length_take, List.length_drop, bI, List.length_cons, List.length_nil]; omega
     rw [hlen] at this; exact this
   · have hcb : c ≠ b := λ e => hf ⟨by simp [e], λ e2 => hne (e ▸ e2)⟩
     rw [H.get_push, if_neg (by simp; omega), H.get_put, if_neg hcb]
def tL (B : cF) : Prop := ∀ (d : Nat) (l : EL) (fp : Ln) (key : Ln) (n : Nat) (h : H), kI h d l fp -> iC l -> l.length < 100000 -> 1 <= n -> n < 256 -> eJ key = true -> eS l key = false ->
 ∃ h' fp', B [.ptr d 0, .str key, ii n] h = some (ii 0, h') /\ kI h' d (gQ l key n) fp' /\ kJ (λ x => x ∈ fp) h h' /\ (∀ c ∈ fp', c ∈ fp \/ h.size <= c)
theorem uP {key : Ln} (h : eJ key = true) : key.length <= 28 := by
 unfold eJ at h; simp only [Bool.and_eq_true, decide_eq_true_eq] at h; exact h.2.1
theorem aWM {E : bJ} (hN : bL E 146 jZ) (hF : bL E 142 xN) (hI : bL E 147 aEx) : tL (bAF E) := by
 obtain ⟨B1, b1, s1⟩ := hN.call; obtain ⟨B2, b2, s2⟩ := hF.call; obtain ⟨B3, b3, s3⟩ := hI.call; intro d l fp key n h r hs hl hn1 hn2 hk hh; obtain ⟨h1, f1, g1⟩ := s2 aPs d l key h (r.view λ _ _ => trivial) hs (by omega)
 have r1 : kI h1 d l fp := r.off (g1.off λ _ => False) λ _ _ hf => hf
 have rlt := r1.lt; obtain ⟨v, hd, hv⟩ := r1; obtain ⟨h2, e2, g2, hb2⟩ : ∃ x, x = h1.push (.blk ⟨2, 2, false, true, Tr.ofL [DV.str key, ii n]⟩) /\ aH h1 x /\ x.get h1.size = some (.blk ⟨2, 2, false, true, Tr.ofL [DV.str key, ii n]⟩) := ⟨_, rfl, aH.push _ _, by rw [H.get_push, if_pos rfl]⟩
 have hd2 := hd.grown g2; have hv2 : (v = .nils /\ l = [] /\ fp = [d]) \/ ∃ b cap, v = .slc b 0 l.length cap true /\ fI h2 b (cap * 2) 2 (eA l) /\ b ≠ d /\ fp = [d, b] := by
   rcases hv with hv | ⟨b, cap, q1, q2, q3, q4⟩
   · exact .inl hv
   · exact .inr ⟨b, cap, q1, q2.grown g2, q3, q4⟩
 obtain ⟨w, h3, c, f3, rfl, p3, c3, o3⟩ := bGJ s3 hd2 hv2 (uK l key) (by omega) (λ hm => by have := rlt _ hm; omega) hb2
 have hd3 : aX h3 d [v] := by
   obtain ⟨a1, es, t, a2, a3⟩ := hd2; exact ⟨Nat.lt_of_lt_of_le a1 o3.size, es, t, by rw [o3.get d a1 (λ x => x.2 rfl)]; exact a2, a3⟩
 obtain ⟨h4, f4, p4, k4⟩ := hd3.set (v := .slc c 0 (l.length + 1) (l.length + 1) true) (j := 0) rfl (by simp)
 have hdlt : d < h2.size := hd2.1; have hcd : c ≠ d := by omega
 have hdfp : d ∈ fp := by rcases hv with ⟨_, _, rfl⟩ | ⟨_, _, _, _, _, rfl⟩ <;> simp
 have hsz : h.size <= h2.size := Nat.le_trans g1.size g2.size; refine ⟨h4, [d, c], ?_, ⟨_, p4, .inr ⟨c, l.length + 1, by rw [aDU], ?_, hcd, rfl⟩⟩, ?_, λ x hx => ?_⟩
 · show aLR E (.ptr d 0) (.str key) (ii n) h = _; unfold aLR; have d1 : decide (n < 1) = false := by simp; omega
   have d2 : decide (256 <= n) = false := by simp; omega
   have bld : dO [(.str []), (ii 0)] [(0, 1, .str key), (1, 1, ii n)] = some (.agg [.str key, ii n]) := rfl; have nl := uP hk; have na : B1 [.str key] h = some (.bool true, h) := by rw [s1 key h (by omega), hk]
   rw [hh] at f1; have fa0 : aI 0 (.ptr d 0) = some (.ptr d 0) := by rw [aJ]
   simp only [cO, aA, dQ, aP, d1, bT, fZ, d2]; rw [aC, b1, na, aB, gJ, aA, Bool.not_true, aC, b2, f1, aB, aL, aA, aK, aA, aC, bA, aA, fa0, aA, hd.read (j := 0) rfl, aA, bld, aA,
     aIk rfl rfl, <- e2, b3, f3, aB, aA, fa0, aA, f4, aB]
 · have hcb := p3.but hcd k4; rw [<- aIx]; exact hcb
 · have o12 : kJ (λ x => x ∈ fp) h h2 := (g1.trans g2).off _
   exact (o12.trans (o3.weak λ x _ hx => hx.1)).trans (k4.off hdfp)
 · simp at hx; rcases hx with rfl | rfl
   · exact .inl hdfp
   · exact .inr (by omega)
def aGv (B : cF) : Prop := ∀ (b cap i : Nat) (l : EL) (h : H), fI h b (cap * 2) 2 (eA l) -> i < l.length -> l.length < 100000 -> ∃ h', B [.slc b 0 l.length cap true, ii i, ii ((i + 1))] h = some (.slc b 0 (l.length - 1) cap true, h') /\ fI h' b (cap * 2) 2 (eA (l.take i ++ l.drop (i + 1))) /\ zD b h h'
theorem aWL {E : bJ} : aGv (bAb E) := by
 intro b cap i l h hP hi hl; have hcap : l.length <= cap := by have := hP.2.1; rw [bI] at this; omega
 have hc0 : 0 < cap := by omega
 show ∃ h', aLd E (.slc b 0 l.length cap true) (ii i) (ii (i + 1)) h = _ /\ _; unfold aLd; have e1 : ∃ x, zL 2 (.slc b 0 l.length cap true) (some (ii i)) (ii (i + 1)) (ii l.length) = some x := by
   simp only [zL, dL, dHi, dLo]; rw [Nat.ble_eq_true_of_le hcap, cond_true, Nat.ble_eq_true_of_le (show i + 1 <= l.length by omega), cond_true, Nat.ble_eq_true_of_le (show i <= i + 1 by omega), cond_true, dS hi, cond_true]
   simp only [bD]; exact ⟨_, rfl⟩
 obtain ⟨x, e1⟩ := e1; have hd1 : decide (i = i + 1) = false := by simp
 rw [pY, aA, e1, aA, cB, aA, hd1, aC, aA, xU (by omega) hc0, aA]
 have hnew1 : ((eA l).drop ((i + 1) * 2)).all DV.one = true := by rw [nO]; exact qN _
 have hlen1 : ((eA l).drop ((i + 1) * 2)).length = (l.length - (i + 1)) * 2 := by rw [nO, bI, List.length_drop]
 have hsrc : ∃ y, dU 2 (.slc b 0 l.length cap true) (some (ii (i + 1))) none = some y /\ srcLen y = some (l.length - (i + 1)) /\ dR 2 h.get y = some ((eA l).drop ((i + 1) * 2)) := by
   have hrow : RowE aPs 2 h (.slc b 0 l.length cap true) (eA l) := ⟨l.length, bI l, .inr (.inr ⟨b, 0, cap, true, rfl, hcap, trivial, hP.1, λ j x hj => by rw [Nat.zero_add]; exact hP.rd hj⟩)⟩
   obtain ⟨y, q1, q2⟩ := hrow.from (i := i + 1) (bI l) (by omega) (by omega) .i64
   obtain ⟨n, q3, q4, q5⟩ := q2.src; have hn : n = l.length - (i + 1) := by omega
   subst hn; exact ⟨y, q1, q4, q5⟩
 obtain ⟨y, q1, q2, q3⟩ := hsrc; rw [q1, aA]; obtain ⟨h1, f1, f2, f3⟩ := hP.store (vs := (eA l).drop ((i + 1) * 2)) (o := i * 2) hnew1 (by rw [bI]; omega) (by have := hP.2.1; rw [bI] at this; omega)
 have hneed : i + (l.length - (i + 1)) = l.length - 1 := by omega
 have ap : cE 2 24 (.slc b 0 i cap true) y h = some (.slc b 0 (l.length - 1) cap true, h1) := by
   rw [eN]; simp only [fR, q2, q3, Option.bind_some, bD, hneed, Nat.ble_eq_true_of_le (show l.length - 1 <= cap by omega), cond_true, Nat.zero_add, f1, Option.map_some]
 rw [ap, aB, pY, aA]; have e2 : dU 2 (.slc b 0 (l.length - 1) cap true) (some (ii (l.length - 1))) (some (ii l.length)) = some (.slc b (0 + (l.length - 1) * 2) (l.length - (l.length - 1)) (cap - (l.length - 1)) true) := by
   simp only [dU, dL, dHi, dLo]; rw [Nat.ble_eq_true_of_le hcap, cond_true, Nat.ble_eq_true_of_le (show l.length - 1 <= l.length by omega), cond_true, dS (show l.length - 1 < cap by omega), cond_true]
   simp only [bD]
 rw [e2, aA]; have pre : (eA l).take (i * 2) ++ (eA l).drop ((i + 1) * 2) = eA (l.take i ++ l.drop (i + 1)) := by rw [sW, nO, oW]
 have prel : (eA (l.take i ++ l.drop (i + 1))).length = (l.length - 1) * 2 := by rw [bI, List.length_append, List.length_take, List.length_drop]; omega
 have hP1 : fI h1 b (cap * 2) 2 (eA (l.take i ++ l.drop (i + 1))) := by
   have := f2.prefix (n := (l.length - 1) * 2); rw [pre, <- prel, List.take_left] at this; exact this
 have hone : l.length - (l.length - 1) = 1 := by omega
 obtain ⟨h2, k1, k2, k3⟩ := hP1.store (vs := gM [(DV.str []), (ii 0)] (l.length - (l.length - 1))) (o := (l.length - 1) * 2) (by rw [hone]; rfl) (by rw [prel]; exact Nat.le_refl _) (by rw [hone, iR]; simp; omega)
 have cl : wS [(.str []), (ii 0)] (.slc b (0 + (l.length - 1) * 2) (l.length - (l.length - 1)) (cap - (l.length - 1)) true) h1 = some (.tup [], h2) := by
   simp only [wS, Nat.zero_add, k1, Option.map_some]
 rw [cl, aB]; refine ⟨h2, rfl, ?_, f3.trans k3⟩; have := k2.prefix (n := (l.length - 1) * 2); rw [List.append_assoc, List.take_append_of_le_length (by rw [List.length_take, prel]; omega), List.take_take, Nat.min_self, List.take_of_length_le (by rw [prel]; exact Nat.le_refl _)] at this
 exact this
def tK (B : cF) : Prop := ∀ (d : Nat) (l : EL) (fp : Ln) (key : Ln) (h : H), kI h d l fp -> iC l -> l.length < 100000 -> eS l key = true ->
 ∃ h', B [.ptr d 0, .str key] h = some (.tup [ii ((jU l key)), ii 0], h') /\ kI h' d (gF l key) fp /\ kJ (λ x => x ∈ fp) h h'
theorem aWD {E : bJ} (hF : bL E 142 xN) (hD : bL E 143 aGv) : tK (S96 E) := by
 obtain ⟨B2, b2, s2⟩ := hF.call; obtain ⟨B3, b3, s3⟩ := hD.call; intro d l fp key h r hs hl hh; obtain ⟨h1, f1, g1⟩ := s2 aPs d l key h (r.view λ _ _ => trivial) hs (by omega)
 have r1 : kI h1 d l fp := r.off (g1.off λ _ => False) λ _ _ hf => hf
 obtain ⟨v', hd', hrow⟩ := r1.view (A := aPs) λ _ _ => trivial
 obtain ⟨n, q1, q2⟩ := oU hh; have hpl : dY l key < l.length := (List.getElem?_eq_some_iff.1 q1).1; obtain ⟨v, hd, hv⟩ := r1; have hvv : v' = v := by
   have a := hd'.read (j := 0) rfl; rw [hd.read (j := 0) rfl] at a; exact (Option.some.inj a).symm
 subst hvv; rcases hv with ⟨rfl, rfl, rfl⟩ | ⟨b, cap, rfl, hP, hne, rfl⟩
 · simp at hpl
 · obtain ⟨bb, o, i1, i2, i3, i4, i5, i6, i7, i8⟩ := kX hrow q1 .i64; obtain ⟨h2, f2, p2, k2⟩ := s3 b cap (dY l key) l h1 hP hpl hl; have hd2 := hd.but (Ne.symm hne) k2; obtain ⟨h3, f3, p3, k3⟩ := hd2.set (v := .slc b 0 (l.length - 1) cap true) (j := 0) rfl (by simp)
   have hp2 := p2.but hne k3; have hrl : (gF l key).length = l.length - 1 := by unfold gF; rw [List.length_append, List.length_take, List.length_drop]; omega
   refine ⟨h3, ?_, ⟨_, p3, .inr ⟨b, cap, by rw [hrl], hp2, hne, rfl⟩⟩, ?_⟩
   · show aUg E (.ptr d 0) (.str key) h = _; unfold aUg; rw [hh] at f1; have fa0 : aI 0 (.ptr d 0) = some (.ptr d 0) := by rw [aJ]
     rw [cO, aA, aC, b2, f1, aB, aL, aA, aK, aA, gJ, aA, Bool.not_true, aC, bA, aA, fa0, aA, hd.read (j := 0) rfl, aA, i1, aA, i6, aA, i8, aA,
       aA, fa0, aA, hd.read (j := 0) rfl, aA, eZ (by omega), aA, b3, f2, aB, aA, fa0, aA, f3, aB, q2]
   · exact (((g1.off _).trans (k2.off (by simp))).trans (k3.off (by simp)))
def aPH (u : Nat) : Int := if u % 2 = 0 then .ofNat (u / 2) else .negSucc (u / 2)
theorem bBQ (n : Int) : aPH (zz n) = n := by
 cases n with
 | ofNat a =>
   show aPH (2 * a) = _; unfold aPH; rw [if_pos (by omega), show 2 * a / 2 = a from by omega]
 | negSucc a =>
   show aPH (2 * a + 1) = _; unfold aPH; rw [if_neg (by omega), show (2 * a + 1) / 2 = a from by omega]
theorem aMh {n : Int} (h1 : -9223372036854775808 <= n) (h2 : n < 9223372036854775808) : zz n < 18446744073709551616 := by
 cases n with
 | ofNat a => show 2 * a < _; simp only [Int.ofNat_eq_natCast] at h2; omega
 | negSucc a => show 2 * a + 1 < _; omega
def pH : Nat -> Nat -> Ln
 | 0, u => [u]
 | k + 1, u => if u < 128 then [u] else (u % 128 + 128) :: pH k (u / 128)
def grp : Nat -> Ln -> Nat -> Option (Nat × Ln)
 | _, [], _ => none
 | i, b :: s, acc => if 10 <= i \/ (i = 9 /\ 1 < b) \/ (0 < i /\ b = 0) then none else
     if b < 128 then some (acc + b * 128 ^ i, s) else grp (i + 1) s (acc + (b - 128) * 128 ^ i)
theorem aEg : ∀ (k u : Nat), u < 2 ^ (7 * k + 1) -> bB (pH k u) = true
 | 0, u, h => by simp only [pH, bB, Bool.and_true, Nat.blt_eq]; simp at h; omega
 | k + 1, u, h => by
   rw [pH]; split
   · rename_i h1; simp only [bB, Bool.and_true, Nat.blt_eq]; omega
   · simp only [bB, Bool.and_eq_true, Nat.blt_eq]; refine ⟨by omega, aEg k (u / 128) ?_⟩
     have : (2 : Nat) ^ (7 * (k + 1) + 1) = 128 * 2 ^ (7 * k + 1) := by
       rw [show 7 * (k + 1) + 1 = 7 + (7 * k + 1) from by omega, Nat.pow_add]
     rw [this] at h; exact Nat.div_lt_of_lt_mul h
theorem aMl : ∀ (k u : Nat), 1 <= (pH k u).length /\ (pH k u).length <= k + 1
 | 0, u => by simp [pH]
 | k + 1, u => by
   rw [pH]; split
   · simp
   · have := aMl k (u / 128); simp only [List.length_cons]; omega
theorem aIg (i : Nat) : 128 ^ (i + 1) = 128 * 128 ^ i := by rw [Nat.pow_succ, Nat.mul_comm]
theorem aNH (r : Ln) : ∀ (k i u acc : Nat), i + k = 9 -> u < 2 ^ (7 * k + 1) -> (0 < i -> 0 < u) -> grp i (pH k u ++ r) acc = some (acc + u * 128 ^ i, r)
 | 0, i, u, acc, hi, hu, hp => by
   have h9 : i = 9 := by omega
   subst h9; simp at hu; have := hp (by omega)
   have hu1 : u = 1 := by omega
   subst hu1; rw [pH, List.cons_append, grp, if_neg (by omega), if_pos (by omega)]; rfl
 | k + 1, i, u, acc, hi, hu, hp => by
   rw [pH]; by_cases h : u < 128
   · rw [if_pos h, List.cons_append, grp, if_neg (by
       rintro (h1 | h1 | h1)
       · omega
       · omega
       · have := hp h1.1; omega), if_pos h]; rfl
   · rw [if_neg h, List.cons_append, grp, if_neg (by omega), if_neg (by omega)]
     have h2 : (2 : Nat) ^ (7 * (k + 1) + 1) = 128 * 2 ^ (7 * k + 1) := by
       rw [show 7 * (k + 1) + 1 = 7 + (7 * k + 1) from by omega, Nat.pow_add]
     rw [h2] at hu; rw [aNH r k (i + 1) (u / 128) _ (by omega) (Nat.div_lt_of_lt_mul hu) (λ _ => by omega), aIg]
     congr 2
     rw [show u % 128 + 128 - 128 = u % 128 from by omega, Nat.add_assoc]
     congr 1
     have e : u / 128 * (128 * 128 ^ i) = 128 * (u / 128) * 128 ^ i := by rw [<- Nat.mul_assoc, Nat.mul_comm (u / 128) 128]
     rw [e, <- Nat.add_mul, Nat.mod_add_div]
theorem aNI : ∀ (k i : Nat) (s r : Ln) (acc v : Nat), i + k = 9 -> bB s = true -> grp i s acc = some (v, r) -> ∃ u, v = acc + u * 128 ^ i /\ s = pH k u ++ r /\ u < 2 ^ (7 * k + 1) /\ (0 < i -> 0 < u)
 | k, i, [], r, acc, v, _, _, h => by simp [grp] at h
 | k, i, b :: s, r, acc, v, hi, hs, h => by
   simp only [bB, Bool.and_eq_true, Nat.blt_eq] at hs; rw [grp] at h; split at h
   · cases h
   · rename_i hc; split at h
     · rename_i hb; cases h; refine ⟨b, rfl, ?_, ?_, λ h0 => ?_⟩
       · cases k with
         | zero => rfl
         | succ k => rw [pH, if_pos hb]; rfl
       · cases k with
         | zero => simp; omega
         | succ k =>
           have : (2 : Nat) ^ (7 * (k + 1) + 1) = 256 * 2 ^ (7 * k) := by
             rw [show 7 * (k + 1) + 1 = 8 + 7 * k from by omega, Nat.pow_add]
           rw [this]; have : 0 < 2 ^ (7 * k) := Nat.two_pow_pos _; omega
       · omega
     · rename_i hb; cases k with
       | zero => exact absurd (.inr (.inl ⟨by omega, by omega⟩)) hc
       | succ k =>
         obtain ⟨u, h1, h2, h3, h4⟩ := aNI k (i + 1) s r _ v (by omega) hs.2 h
         have hu := h4 (by omega)
         refine ⟨(b - 128) + 128 * u, ?_, ?_, ?_, λ _ => by omega⟩
         · rw [h1, aIg, Nat.add_assoc]
           congr 1
           rw [Nat.add_mul]
           congr 1
           rw [<- Nat.mul_assoc, Nat.mul_comm u 128]
         · rw [pH, if_neg (by omega), h2]
           rw [show (b - 128 + 128 * u) % 128 + 128 = b from by omega, show (b - 128 + 128 * u) / 128 = u from by omega]
           rfl
         · have : (2 : Nat) ^ (7 * (k + 1) + 1) = 128 * 2 ^ (7 * k + 1) := by
             rw [show 7 * (k + 1) + 1 = 7 + (7 * k + 1) from by omega, Nat.pow_add]
           rw [this]; omega
def fK (n : Int) : Ln := pH 9 (zz n)
def fW (s : Ln) : Ln := fK (.ofNat s.length) ++ s
def kG (s : Ln) : Option (Int × Ln) := (grp 0 s 0).map λ x => (aPH x.1, x.2)
def aEO (s : Ln) : Option (Nat × Ln) := match s with
 | [] => none
 | b :: s => some (b, s)
def gD (s : Ln) : Option (Ln × Ln) := match kG s with
 | some (.ofNat n, r) => if n <= r.length then some (r.take n, r.drop n) else none
 | _ => none
def iB (n : Int) : Prop := -9223372036854775808 <= n /\ n < 9223372036854775808
theorem lY {n : Int} (h : iB n) : bB (fK n) = true := aEg 9 _ (by have := aMh h.1 h.2; simpa using this)
theorem dF (n : Int) : 1 <= (fK n).length /\ (fK n).length <= 10 := aMl 9 _
theorem tU {n : Int} (h : iB n) (r : Ln) : kG (fK n ++ r) = some (n, r) := by
 unfold kG fK; rw [aNH r 9 0 (zz n) 0 rfl (by have := aMh h.1 h.2; simpa using this) (λ h => absurd h (by omega))]
 simp [bBQ]
theorem aNv {a b : Ln} (h : bB (a ++ b) = true) : bB b = true := by
 rw [fS] at *; exact λ x hx => h x (by simp [hx])
theorem sN {s : Ln} (hs : bB s = true) (hl : s.length < 9223372036854775808) : bB (fW s) = true :=
 cI (lY ⟨by simp only [Int.ofNat_eq_natCast]; omega, by simp only [Int.ofNat_eq_natCast]; omega⟩) hs
theorem qB {s : Ln} (hl : s.length < 9223372036854775808) (r : Ln) : gD (fW s ++ r) = some (s, r) := by
 unfold gD fW; rw [List.append_assoc, tU ⟨by simp only [Int.ofNat_eq_natCast]; omega, by simp only [Int.ofNat_eq_natCast]; omega⟩]
 show (if s.length <= (s ++ r).length then some ((s ++ r).take s.length, (s ++ r).drop s.length) else none) = _
 rw [if_pos (by simp), List.take_left, List.drop_left]
structure lV where
 kind : Int
 at_ : Int
 n : Int
 path : Ln
 other : Ln
 text : Ln
 deriving DecidableEq
def lV.ok (o : lV) : Prop := iB o.kind /\ iB o.at_ /\ iB o.n /\ bB o.path = true /\ bB o.other = true /\ bB o.text = true
def kD (o : lV) : List DV := [.int .i64 o.kind, .int .i64 o.at_, .int .i64 o.n, .str o.path, .str o.other, .str o.text]
def op0 : lV := ⟨0, 0, 0, [], [], []⟩
def gZ (o : lV) : Nat := if o.kind < 1 \/ 11 < o.kind then 1 else if 255 < o.path.length \/ 255 < o.other.length \/ 512 < o.text.length then 2 else 0
def aFG (o : lV) : Ln := [o.kind.toNat] ++ fK o.at_ ++ fK o.n ++ fW o.path ++ fW o.other ++ fW o.text
def bGS (o : lV) : Nat := gZ o
def aOa (o : lV) : Ln := if gZ o = 0 then aFG o else []
def aWI (s : Ln) : Option lV := do
 let (k, s) <- aEO s
 let (a, s) <- kG s
 let (n, s) <- kG s
 let (p, s) <- gD s
 let (q, s) <- gD s
 let (t, s) <- gD s
 if s = [] then some ⟨.ofNat k, a, n, p, q, t⟩ else none
def aZh (s : Ln) : lV := match aWI s with
 | some o => if gZ o = 0 then o else op0
 | none => op0
def aZi (s : Ln) : Nat := match aWI s with
 | some o => if gZ o = 0 then 0 else 3
 | none => 3
theorem uU {o : lV} (h : gZ o = 0) : 1 <= o.kind /\ o.kind <= 11 /\ o.path.length <= 255 /\ o.other.length <= 255 /\ o.text.length <= 512 := by
 unfold gZ at h; split at h
 · cases h
 · split at h
   · cases h
   · omega
theorem aKa {o : lV} (ho : o.ok) (h : gZ o = 0) : bB (aFG o) = true /\ (aFG o).length <= 2000 := by
 obtain ⟨b1, b2, b3, b4, b5⟩ := uU h; obtain ⟨_, h2, h3, h4, h5, h6⟩ := ho; have l1 := dF o.at_; have l2 := dF o.n; have tl : ∀ s : Ln, (fW s).length <= 10 + s.length := λ s => by
   unfold fW; have := dF (.ofNat s.length); rw [List.length_append]; omega
 have t1 := tl o.path; have t2 := tl o.other; have t3 := tl o.text; refine ⟨?_, by unfold aFG; simp only [List.length_append, List.length_singleton]; omega⟩
 unfold aFG; refine cI (cI (cI (cI (cI ?_ (lY h2)) (lY h3)) (sN h4 (by omega))) (sN h5 (by omega))) (sN h6 (by omega))
 simp only [bB, Bool.and_true, Nat.blt_eq]; omega
theorem bCW {o : lV} (ho : o.ok) (h : gZ o = 0) : aWI (aFG o) = some o := by
 obtain ⟨b1, b2, b3, b4, b5⟩ := uU h; obtain ⟨_, h2, h3, h4, h5, h6⟩ := ho; have e : aFG o = o.kind.toNat :: (fK o.at_ ++ (fK o.n ++ (fW o.path ++ (fW o.other ++ (fW o.text ++ []))))) := by unfold aFG; simp
 unfold aWI; rw [e]; simp only [aEO, Option.bind_eq_bind, Option.bind_some, tU h2, tU h3, qB (show o.path.length < 9223372036854775808 by omega), qB (show o.other.length < 9223372036854775808 by omega), qB (show o.text.length < 9223372036854775808 by omega), if_true]
 have : Int.ofNat o.kind.toNat = o.kind := by simp only [Int.ofNat_eq_natCast]; omega
 rw [this]
theorem aFj {E : bJ} {n0 : Nat} : ∀ (k m u : Nat) (s : Ln) (v : DV) (h : H), u < 2 ^ (7 * k + 1) -> k <= 9 -> s.length + k <= 1000000 -> n0 <= h.size -> aVy n0 h v (bU s) -> (∀ b o n c op, v = .slc b o n c op -> b < h.size) ->
   ∃ v' h', aDg E (m + (k + 1)) v (.int .u64 (.ofNat u)) h = some (v', h') /\ bS n0 h' v' (bU (s ++ pH k u)) /\ cK n0 h h' := by
 intro k
 induction k with
 | zero =>
   intro m u s v h hu hk9 hs hn ho hlt; simp at hu; show ∃ v' h', aGT E (aDg E m) _ _ h = _ /\ _; unfold aGT; have d : decide (128 <= u) = false := by simp; omega
   obtain ⟨v1, h1, g1, g2, g3⟩ := ho.push1 (x := eW (u % 256)) (z := eW 0) (bytes := 1) hlt hn rfl (by rw [cC]; unfold aR; omega) (by rw [cC]; unfold aR; omega)
   refine ⟨v1, h1, ?_, ?_, g3⟩
   · rw [fZ, aA, d, aC]; unfold aGp; rw [rV, aA, show (DV.int .u8 (.ofNat (u % 256))) = eW (u % 256) from rfl, show (DV.int .u8 (.ofNat 0)) = eW 0 from rfl, g1]
   · rw [pH, eK]; have : u % 256 = u := by omega
     rw [this] at g2; exact g2
 | succ k ih =>
   intro m u s v h hu hk9 hs hn ho hlt; show ∃ v' h', aGT E (aDg E (m + (k + 1))) _ _ h = _ /\ _; unfold aGT; rw [pH]; by_cases h128 : u < 128
   · have d : decide (128 <= u) = false := by simp; omega
     obtain ⟨v1, h1, g1, g2, g3⟩ := ho.push1 (x := eW (u % 256)) (z := eW 0) (bytes := 1) hlt hn rfl (by rw [cC]; unfold aR; omega) (by rw [cC]; unfold aR; omega)
     refine ⟨v1, h1, ?_, ?_, g3⟩
     · rw [fZ, aA, d, aC]; unfold aGp; rw [rV, aA, show (DV.int .u8 (.ofNat (u % 256))) = eW (u % 256) from rfl, show (DV.int .u8 (.ofNat 0)) = eW 0 from rfl, g1]
     · rw [if_pos h128, eK]; have : u % 256 = u := by omega
       rw [this] at g2; exact g2
   · have d : decide (128 <= u) = true := by simp; omega
     have h2 : (2 : Nat) ^ (7 * (k + 1) + 1) = 128 * 2 ^ (7 * k + 1) := by
       rw [show 7 * (k + 1) + 1 = 7 + (7 * k + 1) from by omega, Nat.pow_add]
     rw [h2] at hu; obtain ⟨v1, h1, g1, g2, g3⟩ := ho.push1 (x := eW (u % 128 + 128)) (z := eW 0) (bytes := 1) hlt hn rfl (by rw [cC]; unfold aR; omega) (by rw [cC]; unfold aR; omega)
     have g2' : bS n0 h1 v1 (bU (s ++ [u % 128 + 128])) := by rw [eK]; exact g2
     obtain ⟨v2, h3, k1, k2, k3⟩ := ih m (u / 128) (s ++ [u % 128 + 128]) v1 h1 (Nat.div_lt_of_lt_mul hu) (by omega) (by simp; omega) (Nat.le_trans hn g3.size) (.inl g2') g2'.lt_size
     have h64 : u < 18446744073709551616 := by
       have : (2 : Nat) ^ (7 * k + 1) <= 2 ^ 57 := Nat.pow_le_pow_right (by omega) (by omega)
       have e57 : (2 : Nat) ^ 57 = 144115188075855872 := by decide
       omega
     refine ⟨v2, h3, ?_, ?_, g3.trans k3⟩
     · rw [fZ, aA, d, aD, rV, aA, aSL (by omega), aA]
       rw [show u % 256 % 128 + 128 = u % 128 + 128 from by omega, show (DV.int .u8 (.ofNat 0)) = eW 0 from rfl, g1, aEj _ _ (by decide), aA]
       exact k1
     · rw [if_neg h128]
       simpa using k2
def aBK (B : cF) : Prop := ∀ (v : DV) (s : Ln) (n : Int) (h : H), aMa h v (bU s) -> s.length <= 100000 -> iB n -> ∃ v' h', B [v, .int .i64 n] h = some (v', h') /\ bS h.size h' v' (bU (s ++ fK n)) /\ cK h.size h h'
theorem aYh {E : bJ} : aBK (aRw E) := by
 intro v s n h hc hs hn; have hz := aMh hn.1 hn.2; obtain ⟨v', h', a1, a2, a3⟩ := aFj (E := E) (n0 := h.size) 9 (aQ - 10) (zz n) s v h (by simpa using hz) (Nat.le_refl _) (by omega) (Nat.le_refl _) hc.1 hc.2
 rw [show aQ - 10 + (9 + 1) = aQ from by unfold aQ; omega] at a1
 refine ⟨v', h', ?_, a2, a3⟩; obtain ⟨x, y, z, e1, e2, e3, w, e4, e5⟩ := aXm hn.1 hn.2; show aDl E v (.int .i64 n) h = _; unfold aDl; rw [e1, aA, e2, aA, e3, aA, e4, aA, e5, aA]; exact a1
def aKu (B : cF) : Prop := ∀ (v : DV) (s t : Ln) (h : H), aMa h v (bU s) -> s.length <= 100000 -> t.length <= 100000 -> ∃ v' h', B [v, .str t] h = some (v', h') /\ bS h.size h' v' (bU (s ++ fW t)) /\ cK h.size h h'
theorem fU {n : Nat} (h : n < 9223372036854775808) : iB (.ofNat n) := ⟨by simp only [Int.ofNat_eq_natCast]; omega, by simp only [Int.ofNat_eq_natCast]; omega⟩
theorem aXv {E : bJ} (hN : bL E 106 aBK) : aKu (aRv E) := by
 obtain ⟨B, hB, sB⟩ := hN.call; intro v s t h hc hs ht; obtain ⟨v1, h1, f1, f2, f3⟩ := sB v s (.ofNat t.length) h hc hs (fU (by omega))
 have hl := (dF (.ofNat t.length)).2; obtain ⟨v2, h2, g1, g2, g3⟩ := f2.appendStr f3.size t (by rw [List.length_append]; omega)
 refine ⟨v2, h2, ?_, ?_, f3.trans g3⟩
 · show aDk E v (.str t) h = _; unfold aDk; rw [aY, aA, hB, f1, aB, g1, aB]
 · unfold fW; rw [<- List.append_assoc]; exact g2
theorem aMY {E : bJ} {n0 : Nat} : ∀ (k m u : Nat) (s : Ln) (v : DV) (h : H), u < 2 ^ (7 * k + 1) -> k <= 9 -> s.length + k <= 1000000 -> bB s = true -> n0 <= h.size -> bS n0 h v (bU s) ->
   ∃ h', aIR E (m + (k + 1)) (.int .u64 (.ofNat u)) v h = some (.str (s ++ pH k u), h') /\ cK n0 h h' := by
 intro k
 induction k with
 | zero =>
   intro m u s v h hu hk9 hs hok hn ho; have hu' : u < 2 := by simpa using hu
   show ∃ h', aPk E (aIR E m) _ _ h = _ /\ _; unfold aPk; have d : decide (128 <= u) = false := by simp; omega
   obtain ⟨v1, h1, g1, g2, g3⟩ := ho.push1 (x := eW (u % 256)) (z := eW 0) (bytes := 1) hn rfl (by rw [cC]; unfold aR; omega) (by rw [cC]; unfold aR; omega)
   have hb : bS n0 h1 v1 (bU (s ++ pH 0 u)) := by
     rw [pH, eK]; have : u % 256 = u := by omega
     rw [this] at g2; exact g2
   refine ⟨h1, ?_, g3⟩; rw [fZ, aA, d, aC]; unfold aOU; rw [rV, aA, show (DV.int .u8 (.ofNat (u % 256))) = eW (u % 256) from rfl, show (DV.int .u8 (.ofNat 0)) = eW 0 from rfl, g1, hb.text (cI hok (aEg 0 u hu)), aA]
 | succ k ih =>
   intro m u s v h hu hk9 hs hok hn ho; have hu0 := hu; show ∃ h', aPk E (aIR E (m + (k + 1))) _ _ h = _ /\ _; unfold aPk; by_cases h128 : u < 128
   · have d : decide (128 <= u) = false := by simp; omega
     obtain ⟨v1, h1, g1, g2, g3⟩ := ho.push1 (x := eW (u % 256)) (z := eW 0) (bytes := 1) hn rfl (by rw [cC]; unfold aR; omega) (by rw [cC]; unfold aR; omega)
     have hb : bS n0 h1 v1 (bU (s ++ pH (k + 1) u)) := by
       rw [pH, if_pos h128, eK]; have : u % 256 = u := by omega
       rw [this] at g2; exact g2
     refine ⟨h1, ?_, g3⟩; rw [fZ, aA, d, aC]; unfold aOU; rw [rV, aA, show (DV.int .u8 (.ofNat (u % 256))) = eW (u % 256) from rfl, show (DV.int .u8 (.ofNat 0)) = eW 0 from rfl, g1, hb.text (cI hok (aEg (k + 1) u hu0)), aA]
   · have d : decide (128 <= u) = true := by simp; omega
     have h2 : (2 : Nat) ^ (7 * (k + 1) + 1) = 128 * 2 ^ (7 * k + 1) := by
       rw [show 7 * (k + 1) + 1 = 7 + (7 * k + 1) from by omega, Nat.pow_add]
     rw [h2] at hu; have h64 : u < 18446744073709551616 := by
       have : (2 : Nat) ^ (7 * k + 1) <= 2 ^ 57 := Nat.pow_le_pow_right (by omega) (by omega)
       have e57 : (2 : Nat) ^ 57 = 144115188075855872 := by decide
       omega
     obtain ⟨v1, h1, g1, g2, g3⟩ := ho.push1 (x := eW (u % 128 + 128)) (z := eW 0) (bytes := 1) hn rfl (by rw [cC]; unfold aR; omega) (by rw [cC]; unfold aR; omega)
     have g2' : bS n0 h1 v1 (bU (s ++ [u % 128 + 128])) := by rw [eK]; exact g2
     obtain ⟨h3, k1, k3⟩ := ih m (u / 128) (s ++ [u % 128 + 128]) v1 h1 (Nat.div_lt_of_lt_mul hu) (by omega) (by simp; omega) (cI hok (by simp only [bB, Bool.and_true, Nat.blt_eq]; omega)) (Nat.le_trans hn g3.size) g2'
     refine ⟨h3, ?_, g3.trans k3⟩; rw [fZ, aA, d, aD, aMp h64, aA, rV, aA, aSL (by omega), aA]
     rw [show u % 128 % 256 % 128 + 128 = u % 128 + 128 from by omega, show (DV.int .u8 (.ofNat 0)) = eW 0 from rfl, g1, aEj _ _ (by decide), aA, pH, if_neg h128]
     rw [List.append_assoc] at k1; exact k1
def nA (B : cF) : Prop := ∀ (n : Int) (h : H), iB n -> ∃ h', B [.int .i64 n] h = some (.str (fK n), h') /\ aH h h'
theorem aWc {E : bJ} : nA (S53 E) := by
 intro n h hn; have hz := aMh hn.1 hn.2; obtain ⟨h', a1, a3⟩ := aMY (E := E) (n0 := h.size) 9 (aQ - 10) (zz n) [] .nils h (by simpa using hz) (Nat.le_refl _) (by simp) rfl (Nat.le_refl _) (bS.nil _ _)
 rw [show aQ - 10 + (9 + 1) = aQ from by unfold aQ; omega, List.nil_append] at a1
 refine ⟨h', ?_, a3.grown⟩; obtain ⟨x, y, e1, e2, e3, e4⟩ := bBL hn.1 hn.2; show aUP E (.int .i64 n) h = _; unfold aUP; rw [e1, aA, e2, aA, eY, aA]; by_cases h0 : n < 0
 · rw [decide_eq_true (show n < Int.ofNat 0 from h0), aD, e4 h0, aA]
   exact a1
 · rw [decide_eq_false (show ¬ n < Int.ofNat 0 from h0), aC, e3 (by omega)]
   exact a1
def mP (B : cF) : Prop := ∀ (s : Ln) (h : H), s.length <= 100000 -> ∃ h', B [.str s] h = some (.str (fW s), h') /\ aH h h'
theorem aQe {E : bJ} (hI : bL E 53 nA) : mP (S54 E) := by
 obtain ⟨B, hB, sB⟩ := hI.call; intro s h hs; obtain ⟨h', f1, f2⟩ := sB (.ofNat s.length) h (fU (by omega))
 have hl := (dF (.ofNat s.length)).2; refine ⟨h', ?_, f2⟩; show aUO E (.str s) h = _; unfold aUO; rw [aY, aA, hB, f1, aB, fD (by unfold fQ; omega), aA]; rfl
def mY (h : H) (b : Nat) (s : Ln) : Prop := ∃ v, aX h b [ii 65536, v, ii 0] /\ bS (b + 1) h v (bU s)
theorem aOH {n0 b : Nat} {h h' : H} {v : DV} {L : List DV} (o : bS n0 h v L) (hb : b < n0) (k : zD b h h') : bS n0 h' v L := by
 rcases o with o | ⟨c, hc, e, hcell⟩
 · exact .inl o
 · exact .inr ⟨c, hc, e, hcell.but (by omega) k⟩
theorem bDe {n0 : Nat} {h : H} {v : DV} {L : List DV} (o : bS n0 h v L) : ∃ c, zL 1 v none (ii L.length) (ii L.length) = some c /\ aMa h c L := by
 rcases o with ⟨rfl, rfl⟩ | ⟨b, _, rfl, hb⟩
 · exact ⟨.nils, rfl, .inl (bS.nil _ _), λ b o n c op e => by cases e⟩
 · have hlt := hb.1; obtain ⟨_, pl, t, g1, g2⟩ := id hb; by_cases hL : 0 < L.length
   · refine ⟨.slc b 0 L.length L.length false, ?_, .inr ⟨b, 0, _, rfl, g1, λ j x hj => by rw [Nat.zero_add]; exact hb.rd hj⟩, λ b' o n c op e => by cases e; exact hlt⟩
     simp only [zL, dL, dHi, dLo]; rw [Nat.ble_eq_true_of_le (Nat.le_refl _), cond_true, cond_true, Nat.ble_eq_true_of_le (Nat.zero_le _), cond_true, dS hL, cond_true]; simp [bD]
   · have h0 : L.length = 0 := by omega
     have hn : L = [] := List.eq_nil_of_length_eq_zero h0; subst hn; exact ⟨.slc b 0 0 0 false, rfl, .inr ⟨b, 0, _, rfl, g1, λ j x hj => by cases hj⟩, λ b' o n c op e => by cases e; exact hlt⟩
theorem wH {h h' : H} {b : Nat} {s : Ln} (q : kJ (λ c => c = b) h h') (w : mY h b s) : cK b h h' := by
 obtain ⟨v, ho, _⟩ := w; exact ⟨q.size, λ c hc => q.get c (Nat.lt_trans hc ho.1) (by intro e; subst e; exact absurd hc (Nat.lt_irrefl _))⟩
def bSQ (E : bJ) (f : DV) (h : H) (s new : Ln) : Prop := ∀ c, aMa h c (bU s) -> ∃ v' h', kZ E f [c] h = some (v', h') /\ bS h.size h' v' (bU (s ++ new)) /\ cK h.size h h'
theorem aEl {E : bJ} {b : Nat} {s new : Ln} {f : DV} {h : H} (hw : mY h b s) (hf : bSQ E f h s new) (hl : s.length + new.length <= 65536) :
   ∃ h', aOP E [.ptr b 0, f] h = some (.tup [], h') /\ mY h' b (s ++ new) /\ kJ (λ c => c = b) h h' := by
 obtain ⟨v, ho, hv⟩ := hw; obtain ⟨c, hc1, hc2⟩ := bDe hv; obtain ⟨v', h1, f1, f2, f3⟩ := hf c hc2; have ho1 := ho.grown f3.grown; obtain ⟨h2, g1, g2, g3⟩ := ho1.set (v := v') (j := 1) (by rcases f2 with ⟨rfl, _⟩ | ⟨_, _, rfl, _⟩ <;> rfl) (by simp)
 have hb := ho.1; refine ⟨h2, ?_, ⟨v', g2, aOH (f2.mono (by omega)) (by omega) g3⟩, (f3.grown.off _).trans (g3.off rfl)⟩
 show aLP E (.ptr b 0) f h = _; unfold aLP; have fa : ∀ k, aI k (.ptr b 0) = some (.ptr b k) := λ k => by rw [aJ, Nat.zero_add]
 have d1 : decide (65536 < (bU (s ++ new)).length) = false := by rw [cC, List.length_append]; simp; omega
 simp only [cO, aA, dQ, bA, fa, ho.read (j := 2) rfl, bC, decide_true, Bool.not_true, bT]; rw [aC]; simp only [bA, aA, fa, ho.read (j := 1) rfl, hv.len, hc1, f1, aB, f2.len, ho1.read (j := 0) rfl, cW, d1]; rw [aC]; simp only [bA, aA, fa, g1, aB]
theorem aAL {h : H} {b : Nat} {s : Ln} (hw : mY h b s) (o : jH) : mY (h.push o) b s := by
 obtain ⟨v, ho, hv⟩ := hw; exact ⟨v, ho.grown (aH.push h o), hv.keep (cK.push (Nat.le_refl _) o) (Nat.le_refl _)⟩
theorem aIY {h h' : H} {b : Nat} {s : Ln} (hw : mY h b s) (k : cK h.size h h') : mY h' b s := by
 obtain ⟨v, ho, hv⟩ := hw; exact ⟨v, ho.grown k.grown, hv.keep k (Nat.le_refl _)⟩
def lD (B : cF) : Prop := ∀ (b : Nat) (s : Ln) (n : Int) (h : H), mY h b s -> iB n -> s.length + 10 <= 65536 -> ∃ h', B [.ptr b 0, .int .i64 n] h = some (.tup [], h') /\ mY h' b (s ++ fK n) /\ kJ (λ c => c = b) h h'
theorem aVz {E F G : bJ} (h1 : E 103 = some (aOP F)) (h2 : F 105 = some (bEN G)) (hN : bL G 106 aBK) : lD (S50 E) := by
 obtain ⟨B, hB, sB⟩ := hN.call; intro b s n h hw hn hs; have hbox : aX (h.push (.blk ⟨1, 1, false, true, Tr.ofL [.int .i64 n]⟩)) h.size [.int .i64 n] := aX.pushed (L := [.int .i64 n]); have hl := (dF n).2; have hb : b < h.size := by obtain ⟨v, ho, _⟩ := hw; exact ho.1
 obtain ⟨h', f1, f2, f3⟩ := aEl (E := F) (b := b) (s := s) (new := fK n) (f := .fn (.func 105) [] [.ptr h.size 0]) (aAL hw (.blk ⟨1, 1, false, true, Tr.ofL [.int .i64 n]⟩)) (by
   intro c hc; obtain ⟨v', h', a1, a2, a3⟩ := sB c s n _ hc (by omega) hn
   refine ⟨v', h', ?_, a2, a3⟩; show aE F 105 ([] ++ [c] ++ [.ptr h.size 0]) _ = _; rw [cN h2]; show aLN G c (.ptr h.size 0) _ = _; unfold aLN; rw [hbox.read (j := 0) rfl, aA, hB, a1, aB]) (by omega)
 refine ⟨h', ?_, f2, ((aH.push h _).off _).trans f3⟩; show aUS E (.ptr b 0) (.int .i64 n) h = _; unfold aUS; rw [pT rfl, cN h1, f1, aB]
def mO (B : cF) : Prop := ∀ (b : Nat) (s t : Ln) (h : H), mY h b s -> s.length + t.length + 10 <= 65536 -> ∃ h', B [.ptr b 0, .str t] h = some (.tup [], h') /\ mY h' b (s ++ fW t) /\ kJ (λ c => c = b) h h'
theorem aPx {E F G : bJ} (h1 : E 103 = some (aOP F)) (h2 : F 107 = some (bEK G)) (hN : bL G 108 aKu) : mO (S51 E) := by
 obtain ⟨B, hB, sB⟩ := hN.call; intro b s t h hw hs; have hbox : aX (h.push (.blk ⟨1, 1, false, true, Tr.ofL [.str t]⟩)) h.size [.str t] := aX.pushed (L := [.str t]); have hl := (dF (.ofNat t.length)).2; have hb : b < h.size := by obtain ⟨v, ho, _⟩ := hw; exact ho.1
 obtain ⟨h', f1, f2, f3⟩ := aEl (E := F) (b := b) (s := s) (new := fW t) (f := .fn (.func 107) [] [.ptr h.size 0]) (aAL hw (.blk ⟨1, 1, false, true, Tr.ofL [.str t]⟩)) (by
   intro c hc; obtain ⟨v', h', a1, a2, a3⟩ := sB c s t _ hc (by omega) (by omega)
   refine ⟨v', h', ?_, a2, a3⟩; show aE F 107 ([] ++ [c] ++ [.ptr h.size 0]) _ = _; rw [cN h2]; show aLM G c (.ptr h.size 0) _ = _; unfold aLM; rw [hbox.read (j := 0) rfl, aA, hB, a1, aB]) (by unfold fW; rw [List.length_append]; omega)
 refine ⟨h', ?_, f2, ((aH.push h _).off _).trans f3⟩; show aUR E (.ptr b 0) (.str t) h = _; unfold aUR; rw [pT rfl, cN h1, f1, aB]
def pU (B : cF) : Prop := ∀ (b : Nat) (s : Ln) (n : Nat) (h : H), mY h b s -> n < 256 -> s.length + 1 <= 65536 -> ∃ h', B [.ptr b 0, ii n] h = some (.tup [], h') /\ mY h' b (s ++ [n]) /\ kJ (λ c => c = b) h h'
theorem aPC {E F G : bJ} (h1 : E 103 = some (aOP F)) (h2 : F 104 = some (bEP G)) : pU (S49 E) := by
 intro b s n h hw hn hs; have hbox : aX (h.push (.blk ⟨1, 1, false, true, Tr.ofL [ii n]⟩)) h.size [ii n] := aX.pushed (L := [ii n]); have hb : b < h.size := by obtain ⟨v, ho, _⟩ := hw; exact ho.1
 have hw1 := aAL hw (.blk ⟨1, 1, false, true, Tr.ofL [ii n]⟩); obtain ⟨h', f1, f2, f3⟩ := aEl (E := F) (b := b) (s := s) (new := [n]) (f := .fn (.func 104) [] [.ptr h.size 0]) hw1 (by
   intro c hc; obtain ⟨v1, h3, g1, g2, g3⟩ := hc.1.push1 (x := eW n) (z := eW 0) (bytes := 1) hc.2 (Nat.le_refl _) rfl (by rw [cC]; unfold aR; omega) (by rw [cC]; unfold aR; omega)
   refine ⟨v1, h3, ?_, by rw [eK]; exact g2, g3⟩
   show aE F 104 ([] ++ [c] ++ [.ptr h.size 0]) _ = _; rw [cN h2]; show aLO G c (.ptr h.size 0) _ = _; unfold aLO; rw [hbox.read (j := 0) rfl, aA, rV, aA, Nat.mod_eq_of_lt hn, show (DV.int .u8 (.ofNat n)) = eW n from rfl, show (DV.int .u8 (.ofNat 0)) = eW 0 from rfl, g1]) (by simpa using hs)
 refine ⟨h', ?_, f2, ((aH.push h _).off _).trans f3⟩; show aUU E (.ptr b 0) (ii n) h = _; unfold aUU; obtain ⟨v, ho, hv⟩ := hw1; have fa : ∀ k, aI k (.ptr b 0) = some (.ptr b k) := λ k => by rw [aJ, Nat.zero_add]
 have d1 : decide (n < 0) = false := by simp
 have d2 : decide (255 < n) = false := by simp; omega
 rw [pT rfl]; simp only [mR, aA, gT, bA, fa, ho.read (j := 2) rfl, cB, decide_true, bZ, hbox.read (j := 0) rfl, aP, d1, dQ, cW, d2, bT]; rw [aC]; unfold aUT; rw [cN h1, f1, aB]
def jD (B : cF) : Prop := ∀ (b : Nat) (s : Ln) (h : H), mY h b s -> bB s = true -> B [.ptr b 0] h = some (.tup [.str s, ii 0], h)
theorem aPB {E : bJ} : jD (S52 E) := by
 intro b s h hw hok; obtain ⟨v, ho, hv⟩ := hw; show aUQ E (.ptr b 0) h = _; unfold aUQ; have fa : ∀ k, aI k (.ptr b 0) = some (.ptr b k) := λ k => by rw [aJ, Nat.zero_add]
 rw [cO, aA, aC]; simp only [bA, aA, fa, ho.read (j := 2) rfl, bC, decide_true, Bool.not_true]; rw [aC]; simp only [bA, aA, fa, ho.read (j := 1) rfl, hv.text hok]
def nB (B : cF) : Prop := ∀ (h : H), ∃ h', B [ii 65536] h = some (.ptr h.size 0, h') /\ mY h' h.size [] /\ aH h h'
theorem aWn {E : bJ} : nB (S48 E) := by
 intro h; have hb : dO [(ii 0), .nils, (ii 0)] [(0, 1, ii 65536)] = some (.agg [ii 65536, .nils, ii 0]) := rfl; refine ⟨h.push (.blk ⟨3, 3, false, true, Tr.ofL [ii 65536, .nils, ii 0]⟩), ?_, ⟨.nils, aX.pushed (L := [ii 65536, .nils, ii 0]), bS.nil _ _⟩, aH.push h _⟩; show aUV E (ii 65536) h = _; unfold aUV; rw [aEE, aA, oF, aA]; rw [show min (max 65536 0) 65536 = 65536 from rfl, hb, aA, hU]; rfl
theorem aQM (o : lV) : (kD o).length = 6 := rfl
def rX (B : cF) : Prop := ∀ (o : lV) (h : H), ∃ h', B [.agg (kD o)] h = some (ii ((gZ o)), h') /\ aH h h'
theorem aOA {E : bJ} : rX (S17 E) := by
 intro o h; have ho : aX (h.push (.blk ⟨(kD o).length, (kD o).length, false, true, Tr.ofL (kD o)⟩)) h.size (kD o) := aX.pushed; refine ⟨h.push (.blk ⟨(kD o).length, (kD o).length, false, true, Tr.ofL (kD o)⟩), ?_, aH.push h _⟩; show aVt E (.agg (kD o)) h = _; unfold aVt; have fa : ∀ k, aI k (.ptr h.size 0) = some (.ptr h.size k) := λ k => by rw [aJ, Nat.zero_add]
 rw [hU]; simp only [fa, aA, ho.read (j := 0) rfl, eY]; unfold gZ; by_cases c1 : o.kind < 1
 · simp only [decide_eq_true (show o.kind < Int.ofNat 1 from c1), fL, eD, bZ, aA]
   rw [aD, if_pos (.inl c1)]
 · simp only [decide_eq_false (show ¬ o.kind < Int.ofNat 1 from c1), dQ, fa, aA, ho.read (j := 0) rfl, xW, bT]
   by_cases c2 : 11 < o.kind
   · rw [decide_eq_true (show Int.ofNat 11 < o.kind from c2), aD, if_pos (.inr c2)]
   · rw [decide_eq_false (show ¬ Int.ofNat 11 < o.kind from c2), aC, if_neg (by omega)]
     simp only [fa, aA, ho.read (j := 3) rfl, aY, cW]; by_cases c3 : 255 < o.path.length
     · simp only [decide_eq_true c3, fL, eD, bZ, aA]; rw [aD, if_pos (.inl c3)]
     · simp only [decide_eq_false c3, dQ, fa, aA, ho.read (j := 4) rfl, aY, cW, bT]; by_cases c4 : 255 < o.other.length
       · simp only [decide_eq_true c4, fL, eD, bZ, aA]; rw [aD, if_pos (.inr (.inl c4))]
       · simp only [decide_eq_false c4, dQ, fa, aA, ho.read (j := 5) rfl, aY, cW, bT]; by_cases c5 : 512 < o.text.length
         · rw [decide_eq_true c5, aD, if_pos (.inr (.inr c5))]
         · rw [decide_eq_false c5, aC, if_neg (by omega)]
theorem aWf {E : bJ} : rX (S18 E) := by
 intro o h; have : S18 E [.agg (kD o)] h = S17 E [.agg (kD o)] h := by kernel_rfl
 rw [this]; exact aOA (E := E) o h
def aAF (B : cF) : Prop := ∀ (o : lV) (h : H), o.ok -> ∃ h', B [.agg (kD o)] h = some (.tup [.str (aOa o), ii ((bGS o))], h') /\ aH h h'
theorem aYr {o : lV} (h : gZ o = 0) : o.kind = .ofNat o.kind.toNat /\ o.kind.toNat < 256 := by
 obtain ⟨b1, b2, _⟩ := uU h; refine ⟨by simp only [Int.ofNat_eq_natCast]; omega, by omega⟩
theorem aNZ {E : bJ} (hC : bL E 17 rX) (hN : bL E 48 nB) (hB : bL E 49 pU) (hI : bL E 50 lD) (hT : bL E 51 mO) (hD : bL E 52 jD) : aAF (S13 E) := by
 obtain ⟨B1, b1, s1⟩ := hC.call; obtain ⟨B2, b2, s2⟩ := hN.call; obtain ⟨B3, b3, s3⟩ := hB.call; obtain ⟨B4, b4, s4⟩ := hI.call; obtain ⟨B5, b5, s5⟩ := hT.call; obtain ⟨B6, b6, s6⟩ := hD.call; intro o h hok; have ho : aX (h.push (.blk ⟨(kD o).length, (kD o).length, false, true, Tr.ofL (kD o)⟩)) h.size (kD o) := aX.pushed; obtain ⟨h1, f1, g1⟩ := s1 o (h.push (.blk ⟨(kD o).length, (kD o).length, false, true, Tr.ofL (kD o)⟩)); have hg1 : aH h h1 := (aH.push h _).trans g1; show ∃ h', aVv E (.agg (kD o)) h = _ /\ _; unfold aVv; have fa : ∀ k, aI k (.ptr h.size 0) = some (.ptr h.size k) := λ k => by rw [aJ, Nat.zero_add]
 have hld : aM 6 (h.push (.blk ⟨(kD o).length, (kD o).length, false, true, Tr.ofL (kD o)⟩)).get (.ptr h.size 0) = some (.agg (kD o)) := by
   rw [ho.readN (by rw [aQM]; omega)]; rfl
 rw [hU, hld, aA, b1, f1, aB, bC, aA]; unfold aOa bGS; by_cases h0 : gZ o = 0
 · obtain ⟨k1, k2⟩ := aYr h0; obtain ⟨c1, c2, c3, c4, c5⟩ := uU h0; obtain ⟨e1, e2⟩ := aKa hok h0; obtain ⟨hk, ha, hn, hp, hq, ht⟩ := hok; have ho1 := ho.grown g1; obtain ⟨h2, f2, w2, g2⟩ := s2 h1; have hbw : h.size < h1.size := by have := ho1.1; exact this
   have ho2 := ho1.grown g2; have l1 := (dF o.at_).2; have l2 := (dF o.n).2; have tl : ∀ s : Ln, (fW s).length <= 10 + s.length := λ s => by
     unfold fW; have := (dF (.ofNat s.length)).2; rw [List.length_append]; omega
   have t1 := tl o.path; have t2 := tl o.other; obtain ⟨h3, f3, w3, q3⟩ := s3 h1.size [] o.kind.toNat h2 w2 k2 (by simp)
   have g3 := wH q3 w2; obtain ⟨h4, f4, w4, q4⟩ := s4 h1.size _ o.at_ h3 w3 ha (by simp)
   have g4 := wH q4 w3; obtain ⟨h5, f5, w5, q5⟩ := s4 h1.size _ o.n h4 w4 hn (by simp; omega)
   have g5 := wH q5 w4; obtain ⟨h6, f6, w6, q6⟩ := s5 h1.size _ o.path h5 w5 (by simp; omega)
   have g6 := wH q6 w5; obtain ⟨h7, f7, w7, q7⟩ := s5 h1.size _ o.other h6 w6 (by simp; omega)
   have g7 := wH q7 w6; obtain ⟨h8, f8, w8, q8⟩ := s5 h1.size _ o.text h7 w7 (by simp; omega)
   have g8 := wH q8 w7; have e : ([] ++ [o.kind.toNat] ++ fK o.at_ ++ fK o.n ++ fW o.path ++ fW o.other ++ fW o.text) = aFG o := by unfold aFG; simp
   rw [e] at w8; have f9 := s6 h1.size (aFG o) h8 w8 e1; have ho3 := ho2.keep g3 hbw; have ho4 := ho3.keep g4 hbw; have ho5 := ho4.keep g5 hbw; have ho6 := ho5.keep g6 hbw; have ho7 := ho6.keep g7 hbw
   replace f3 : B3 [.ptr h1.size 0, .int .i64 o.kind] h2 = some (.tup [], h3) := by rw [k1]; exact f3
   refine ⟨h8, ?_, ?_⟩
   · rw [h0]; simp only [decide_true, Bool.not_true]; rw [aC, b2, f2, aB]; simp only [fa, aA, ho2.read (j := 0) (x := .int .i64 o.kind) rfl, b3, f3, aB, ho3.read (j := 1) (x := .int .i64 o.at_) rfl, b4, f4, ho4.read (j := 2) (x := .int .i64 o.n) rfl, f5, ho5.read (j := 3) (x := .str o.path) rfl, b5, f6, ho6.read (j := 4) (x := .str o.other) rfl, f7, ho7.read (j := 5) (x := .str o.text) rfl, f8, b6, f9, aL, aK]
     rfl
   · have k38 := ((((g3.trans g4).trans g5).trans g6).trans g7).trans g8; exact ⟨Nat.le_trans (hg1.trans g2).size k38.size, λ c hc => (k38.get c (Nat.lt_of_lt_of_le hc hg1.size)).trans ((hg1.trans g2).get c hc)⟩
 · have d : (!decide (gZ o = 0)) = true := by simp [h0]
   refine ⟨h1, ?_, hg1⟩; rw [d, aD, if_neg h0]
def aGf (B : cF) : Prop := ∀ (d : Nat) (l : EL) (h : H), aAG (λ c => c < h.size) h d l -> l.length < 100000 -> ∃ v h', B [.ptr d 0] h = some (v, h') /\ dE h' v (cU (l.map (·.1))) /\ aH h h'
theorem strsV_append (a b : List (Ln)) : cU (a ++ b) = cU a ++ cU b := by unfold cU; rw [List.map_append]
theorem aKk {E : bJ} {n0 : Nat} {w : DV} {l : EL} (hl : l.length < 100000) : ∀ (k i m : Nat) (v : DV) (h : H), l.length - i = k -> i <= l.length -> n0 <= h.size -> RowE (λ c => c < n0) 2 h w (eA l) -> bS n0 h v (cU ((l.take i).map (·.1))) ->
   ∃ v' h', aIN E w (ii l.length) (m + (k + 1)) v (ii i) h = some (v', h') /\ bS n0 h' v' (cU (l.map (·.1))) /\ cK n0 h h' := by
 intro k
 induction k with
 | zero =>
   intro i m v h hk hi hn r o; have : i = l.length := by omega
   subst this; refine ⟨v, h, ?_, by rw [List.take_length] at o; exact o, cK.refl _ _⟩
   show aPg E w _ (aIN E w _ m) _ _ h = _; unfold aPg; rw [aP, aA, decide_eq_false (Nat.lt_irrefl _), aC]; rfl
 | succ k ih =>
   intro i m v h hk hi hn r o; have hlt : i < l.length := by omega
   obtain ⟨e, he⟩ : ∃ e, l[i]? = some e := ⟨_, List.getElem?_eq_getElem hlt⟩; obtain ⟨b, oo, q1, q2, q3, q4, q5, q6, q7, q8⟩ := kX r he .i64; obtain ⟨h1, e1, g1, o1⟩ := aO h 2 2 [(.str []), (ii 0)] rfl; obtain ⟨h2, f2, o2, k2⟩ := o1.setAll (n := 2) (cs := [.str e.1, ii e.2]) rfl rfl rfl; have kk2 : cK n0 h h2 := (g1.keeps hn).trans (k2.keeps hn); have ov : bS n0 h2 v (cU ((l.take i).map (·.1))) := o.keep ((g1.keeps (Nat.le_refl h.size)).trans (k2.keeps (Nat.le_refl h.size))) (Nat.le_refl _); obtain ⟨v3, h3, f3, o3, k3⟩ := ov.push1 (x := .str e.1) (z := .str []) (bytes := 16) (Nat.le_trans hn kk2.size) rfl (by unfold aR; rw [bH, List.length_map, List.length_take]; omega) (by unfold aR; rw [bH, List.length_map, List.length_take]; omega)
   have etk : cU ((l.take (i + 1)).map (·.1)) = cU ((l.take i).map (·.1)) ++ [.str e.1] := by
     rw [List.take_add_one, he, List.map_append, strsV_append]; rfl
   rw [<- etk] at o3; obtain ⟨v', h', f4, o4, k4⟩ := ih (i + 1) m v3 h3 (by omega) (by omega) (Nat.le_trans hn (Nat.le_trans kk2.size k3.size)) ((r.keeps kk2).keeps k3) o3
   refine ⟨v', h', ?_, o4, (kk2.trans k3).trans k4⟩; show aPg E w _ (aIN E w _ (m + (k + 1))) _ _ h = _; unfold aPg; rw [aP, aA, decide_eq_true hlt, aD, q1, aA, q4, aA, bG, <- e1, f2, aB, aJ, aA, o2.read (j := 0 + 0) rfl, aA, f3, bO (by omega), aA]
   exact f4
theorem aRm {E : bJ} : aGf (S88 E) := by
 intro d l h r hl; obtain ⟨v, h1, h2⟩ := r; obtain ⟨n, e1, e2⟩ := h2.len; have hn : n = l.length := by rw [bI] at e1; omega
 subst hn; obtain ⟨v', h', f1, f2, f3⟩ := aKk (E := E) (n0 := h.size) hl l.length 0 (aQ - (l.length + 1)) .nils h (by omega) (by omega) (Nat.le_refl _) h2 (bS.nil _ _)
 rw [show aQ - (l.length + 1) + (l.length + 1) = aQ from by unfold aQ; omega] at f1
 refine ⟨v', h', ?_, f2.row, dH f3⟩; show aUm E (.ptr d 0) h = _; unfold aUm; rw [cO, aA, aC, bA, aA, aJ, aA, h1.read (j := 0 + 0) rfl, aA, e2, aA]; exact f1
def aAA (B : cF) : Prop := ∀ (v : DV) (l : EL) (h : H), RowE (λ c => c < h.size) 2 h v (eA l) -> l.length < 100000 -> ∃ v' h', B [v] h = some (v', h') /\ dE h' v' (cU (l.map (·.1))) /\ aH h h'
theorem aHm {E : bJ} {n0 : Nat} {w : DV} {l : EL} (hl : l.length < 100000) : ∀ (k i m : Nat) (v : DV) (h : H), l.length - i = k -> i <= l.length -> n0 <= h.size -> RowE (λ c => c < n0) 2 h w (eA l) -> bS n0 h v (cU ((l.take i).map (·.1))) ->
   ∃ v' h', aDa E w (m + (k + 1)) v (ii i) h = some (v', h') /\ bS n0 h' v' (cU (l.map (·.1))) /\ cK n0 h h' := by
 intro k
 induction k with
 | zero =>
   intro i m v h hk hi hn r o; have : i = l.length := by omega
   subst this; obtain ⟨n, e1, e2⟩ := r.len; have hn' : n = l.length := by rw [bI] at e1; omega
   subst hn'; refine ⟨v, h, ?_, by rw [List.take_length] at o; exact o, cK.refl _ _⟩
   show aGK E w (aDa E w m) _ _ h = _; unfold aGK; rw [e2, aA, aP, aA, decide_eq_false (Nat.lt_irrefl _), aC]; rfl
 | succ k ih =>
   intro i m v h hk hi hn r o; have hlt : i < l.length := by omega
   obtain ⟨n, e1, e2⟩ := r.len; have hn' : n = l.length := by rw [bI] at e1; omega
   subst hn'; obtain ⟨e, he⟩ : ∃ e, l[i]? = some e := ⟨_, List.getElem?_eq_getElem hlt⟩; obtain ⟨b, oo, q1, q2, q3, q4, q5, q6, q7, q8⟩ := kX r he .i64; obtain ⟨v3, h3, f3, o3, k3⟩ := o.push1 (x := .str e.1) (z := .str []) (bytes := 16) hn rfl (by unfold aR; rw [bH, List.length_map, List.length_take]; omega) (by unfold aR; rw [bH, List.length_map, List.length_take]; omega)
   have etk : cU ((l.take (i + 1)).map (·.1)) = cU ((l.take i).map (·.1)) ++ [.str e.1] := by
     rw [List.take_add_one, he, List.map_append, strsV_append]; rfl
   rw [<- etk] at o3; obtain ⟨v', h', f4, o4, k4⟩ := ih (i + 1) m v3 h3 (by omega) (by omega) (Nat.le_trans hn k3.size) (r.keeps k3) o3
   refine ⟨v', h', ?_, o4, k3.trans k4⟩; show aGK E w (aDa E w (m + (k + 1))) _ _ h = _; unfold aGK; rw [e2, aA, aP, aA, decide_eq_true hlt, aD, q1, aA, q5, aA, q7, aA, f3, bO (by omega), aA]
   exact f4
theorem aMW {E : bJ} : aAA (bAg E) := by
 intro v l h r hl; obtain ⟨v', h', f1, f2, f3⟩ := aHm (E := E) (n0 := h.size) hl l.length 0 (aQ - (l.length + 1)) .nils h (by omega) (by omega) (Nat.le_refl _) r (bS.nil _ _)
 rw [show aQ - (l.length + 1) + (l.length + 1) = aQ from by unfold aQ; omega] at f1
 exact ⟨v', h', f1, f2.row, dH f3⟩
def qO (e : Ln × Nat) : Ln := fW e.1 ++ fK (.ofNat e.2)
def zN (l : EL) : Ln := fK (.ofNat l.length) ++ l.flatMap qO
def vF (e : Ln × Nat) : Prop := e.1.length <= 28 /\ bB e.1 = true /\ e.2 < 256
theorem sO (s : Ln) : 1 <= (fW s).length /\ (fW s).length <= 10 + s.length := by
 have := dF (.ofNat s.length); unfold fW; rw [List.length_append]; omega
theorem aNY {e : Ln × Nat} (h : vF e) : (qO e).length <= 48 := by
 have h1 := (dF (.ofNat e.1.length)).2; have h2 := (dF (.ofNat e.2)).2; have := h.1; unfold qO fW; simp only [List.length_append]; omega
theorem yL : ∀ {l : EL}, (∀ e ∈ l, vF e) -> (l.flatMap qO).length <= 48 * l.length
 | [], _ => by simp
 | e :: l, h => by
   have h1 := aNY (h e (by simp))
   have h2 := yL (l := l) λ x hx => h x (by simp [hx])
   simp only [List.flatMap_cons, List.length_append, List.length_cons]; omega
theorem bCu {e : Ln × Nat} (h : vF e) : bB (qO e) = true := by
 have := h.1; have h3 := h.2.2; exact cI (sN h.2.1 (by omega)) (lY (fU (by omega)))
theorem aFF : ∀ {l : EL}, (∀ e ∈ l, vF e) -> bB (l.flatMap qO) = true
 | [], _ => rfl
 | e :: l, h => by
   rw [List.flatMap_cons]; exact cI (bCu (h e (by simp))) (aFF λ x hx => h x (by simp [hx]))
theorem aXB {l : EL} (h : ∀ e ∈ l, vF e) (hl : l.length <= 256) : bB (zN l) = true /\ (zN l).length <= 12300 := by
 refine ⟨cI (lY (fU (by omega))) (aFF h), ?_⟩
 have h1 := (dF (.ofNat l.length)).2; have h2 := yL h; unfold zN; rw [List.length_append]; omega
def aDo (B : cF) : Prop := ∀ (d : Nat) (l : EL) (h : H), aAG (λ c => c < h.size) h d l -> l.length <= 256 -> (∀ e ∈ l, vF e) -> ∃ h', B [.ptr d 0] h = some (.str (zN l), h') /\ aH h h'
theorem aHW {l : EL} {i : Nat} {e : Ln × Nat} (he : l[i]? = some e) : (l.take (i + 1)).flatMap qO = (l.take i).flatMap qO ++ qO e := by
 rw [List.take_add_one, he, List.flatMap_append]; simp
theorem aKf {E : bJ} (hI : bL E 50 lD) (hT : bL E 51 mO) (hD : bL E 52 jD) {n0 : Nat} {w : DV} {l : EL} (hl : l.length <= 256) (hok : ∀ e ∈ l, vF e) {s0 : Ln} (hs0 : s0.length <= 10) (hs0k : bB s0 = true) :
   ∀ (k i m : Nat) (h : H), l.length - i = k -> i <= l.length -> n0 < h.size -> RowE (λ c => c < n0) 2 h w (eA l) -> mY h n0 (s0 ++ (l.take i).flatMap qO) ->
   ∃ h', aCO E (.ptr n0 0) w (ii l.length) (m + (k + 1)) (ii i) h = some (.str (s0 ++ l.flatMap qO), h') /\ cK n0 h h' := by
 obtain ⟨B1, b1, s1⟩ := hI.call; obtain ⟨B2, b2, s2⟩ := hT.call; obtain ⟨B3, b3, s3⟩ := hD.call; intro k
 induction k with
 | zero =>
   intro i m h hk hi hn r o; have : i = l.length := by omega
   subst this; rw [List.take_length] at o; refine ⟨h, ?_, cK.refl _ _⟩; show aGx E _ w _ (aCO E _ w _ m) _ h = _; unfold aGx; rw [aP, aA, decide_eq_false (Nat.lt_irrefl _), aC]; unfold aKB; rw [b3, s3 n0 _ h o (cI hs0k (aFF hok)), aB, aL, aA, aK, aA]
 | succ k ih =>
   intro i m h hk hi hn r o; have hlt : i < l.length := by omega
   obtain ⟨e, he⟩ : ∃ e, l[i]? = some e := ⟨_, List.getElem?_eq_getElem hlt⟩; have hoe := hok e (List.mem_of_getElem? he); obtain ⟨b, oo, q1, q2, q3, q4, q5, q6, q7, q8⟩ := kX r he .i64; obtain ⟨h1, e1, g1, o1⟩ := aO h 2 2 [(.str []), (ii 0)] rfl; obtain ⟨h2, f2, o2, k2⟩ := o1.setAll (n := 2) (cs := [.str e.1, ii e.2]) rfl rfl rfl; have hw2 : mY h2 n0 (s0 ++ (l.take i).flatMap qO) := aIY o ((g1.keeps (Nat.le_refl h.size)).trans (k2.keeps (Nat.le_refl h.size))); have hlen := yL (l := l.take i) λ x hx => hok x (List.mem_of_mem_take hx)
   have hlt2 : (l.take i).length <= 255 := by rw [List.length_take]; omega
   have hsl : (s0 ++ (l.take i).flatMap qO).length <= 12300 := by rw [List.length_append]; omega
   have hoe1 := hoe.1; have hoe3 := hoe.2.2; obtain ⟨h3, f3, w3, p3⟩ := s2 n0 _ e.1 h2 hw2 (by omega)
   have o3 : aX h3 h.size [.str e.1, ii e.2] := o2.off p3 (by omega)
   have hb3 := (sO e.1).2; obtain ⟨h4, f4, w4, p4⟩ := s1 n0 _ (.ofNat e.2) h3 w3 (fU (by omega)) (by simp only [List.length_append] at hsl ⊢; omega)
   have kk : cK n0 h h4 := (((g1.keeps (Nat.le_of_lt hn)).trans (k2.keeps (Nat.le_of_lt hn))).trans (wH p3 hw2)).trans (wH p4 w3); have etk : s0 ++ (l.take (i + 1)).flatMap qO = s0 ++ (l.take i).flatMap qO ++ fW e.1 ++ fK (.ofNat e.2) := by
     rw [aHW he]; unfold qO; simp
   rw [<- etk] at w4; obtain ⟨h', f5, k5⟩ := ih (i + 1) m h4 (by omega) (by omega) (Nat.lt_of_lt_of_le hn kk.size) (r.keeps kk) w4
   refine ⟨h', ?_, kk.trans k5⟩; show aGx E _ w _ (aCO E _ w _ (m + (k + 1))) _ h = _; unfold aGx; rw [aP, aA, decide_eq_true hlt, aD, q1, aA, q4, aA, bG, <- e1, f2, aB, aJ, aA, o2.read (j := 0 + 0) rfl, aA, b2, f3, aB, aJ, aA, o3.read (j := 0 + 1) rfl, aA, b1, f4, aB, bO (by omega), aA]
   exact f5
theorem aRi {E : bJ} (hN : bL E 48 nB) (hI : bL E 50 lD) (hT : bL E 51 mO) (hD : bL E 52 jD) : aDo (aZE E) := by
 obtain ⟨B0, b0, s0⟩ := hN.call; obtain ⟨B1, b1, s1⟩ := hI.call; intro d l h r hl hok; obtain ⟨h1, f1, w1, g1⟩ := s0 h; obtain ⟨v, o, rr⟩ := r; have o1 := o.grown g1; obtain ⟨h2, f2, w2, p2⟩ := s1 h.size [] (.ofNat l.length) h1 w1 (fU (by omega)) (by simp)
 have hdlt : d < h.size := o.1; have o2 := o1.off p2 (by omega)
 have rr2 := (rr.keeps (g1.keeps (Nat.le_refl _))).keeps (wH p2 w1); obtain ⟨n, e1, e2⟩ := rr.len; have hn : n = l.length := by rw [bI] at e1; omega
 subst hn; have hw : h.size < h2.size := by
   obtain ⟨_, x, _⟩ := w2; exact x.1
 obtain ⟨h3, f3, k3⟩ := aKf (E := E) hI hT hD hl hok (dF (.ofNat l.length)).2 (lY (fU (by omega))) l.length 0 (aQ - (l.length + 1)) h2 (by omega) (by omega) hw rr2 (by simpa using w2)
 rw [show aQ - (l.length + 1) + (l.length + 1) = aQ from by unfold aQ; omega] at f3
 refine ⟨h3, ?_, dH (((g1.keeps (Nat.le_refl _)).trans (wH p2 w1)).trans k3)⟩; show aKC E (.ptr d 0) h = _; unfold aKC; have fa0 : aI 0 (.ptr d 0) = some (.ptr d 0) := by rw [aJ]
 rw [cO, aA, aC, b0, f1, aB, bA, aA, fa0, aA, o1.read (j := 0) rfl, aA, e2, aA, b1, f2, aB, aA, fa0, aA, o2.read (j := 0) rfl, aA, e2, aA]; exact f3
def aGd (B : cF) : Prop := ∀ (v : DV) (l : EL) (key : Ln) (n : Nat) (h : H), RowE (λ c => c < h.size) 2 h v (eA l) -> l.length < 100000 -> 1 <= n -> n < 256 -> eJ key = true -> eS l key = false ->
 ∃ v' h', B [v, .str key, ii n] h = some (.tup [v', ii 0], h') /\ jF h.size 2 h' v' (eA (gQ l key n)) /\ aH h h'
theorem iK {a b : Nat} (h : a + b < 1000000) (bytes : Nat) (hb : bytes <= 100) : (a + b) * bytes < aR /\ a + b < aR := by
 have : (a + b) * bytes <= 1000000 * 100 := Nat.mul_le_mul (by omega) hb
 unfold aR; omega
theorem aWh {E : bJ} (hN : bL E 170 jZ) (hF : bL E 169 tF) : aGd (aZU E) := by
 obtain ⟨B1, b1, s1⟩ := hN.call; obtain ⟨B2, b2, s2⟩ := hF.call; intro v l key n h r hl hn1 hn2 hk hh; have hple := uK l key; obtain ⟨v1, e1, r1⟩ := r.to (i := dY l key) (bI l) hple (by omega) .i64
 obtain ⟨v2, e2, r2⟩ := r.from (i := dY l key) (bI l) hple (by omega) .i64
 obtain ⟨h1, eh1, g1, hb⟩ := aO h 2 2 [DV.str key, ii n] rfl; have hs1 : h1.size = h.size + 1 := by rw [eh1]; exact H.size_push _ _
 obtain ⟨k1, q1, q2, q3⟩ := (r1.grown g1).src; have l1 : ((eA l).take (dY l key * 2)).length = dY l key * 2 := by rw [List.length_take, bI]; omega
 have hk1 : k1 = dY l key := by omega
 subst hk1; obtain ⟨w1, h2, f2, o2, p2⟩ := (jF.nil (n0 := h1.size) (es := 2) (h := h1)).app (Nat.le_refl _) (x := v1) (bytes := 24) q2 q3 l1 (by rw [sW]; exact qN _) (by omega) (λ m hm => iK (by simp at hm; omega) 24 (by omega))
 have hb2 : aX h2 h.size [DV.str key, ii n] := hb.keep p2 (by omega)
 have hN2 : dR 2 h2.get (.slc h.size 0 1 1 false) = some [DV.str key, ii n] := by
   have := hb2.cells (o := 0) (k := 2) (by simp)
   exact this
 obtain ⟨w2, h3, f3, o3, p3⟩ := o2.app p2.size (x := .slc h.size 0 1 1 false) (k := 1) (bytes := 24) rfl hN2 rfl rfl (by omega) (λ m hm => iK (by simp [l1] at hm; omega) 24 (by omega))
 have r23 : RowE (λ c => c < h.size) 2 h3 v2 ((eA l).drop (dY l key * 2)) := (r2.grown g1).move (Nat.le_trans p2.size p3.size) (λ c hc _ => (p3.get c (by omega)).trans (p2.get c (by omega))) λ _ hc _ => hc
 obtain ⟨k2, u1, u2, u3⟩ := r23.src; have l2 : ((eA l).drop (dY l key * 2)).length = (l.length - dY l key) * 2 := by rw [List.length_drop, bI]; omega
 have hk2 : k2 = l.length - dY l key := by omega
 subst hk2; obtain ⟨w3, h4, f4, o4, p4⟩ := o3.app (Nat.le_trans p2.size p3.size) (x := v2) (bytes := 24) u2 u3 l2 (by rw [nO]; exact qN _) (by omega) (λ m hm => iK (by
   simp only [List.nil_append, List.length_append, l1, List.length_cons, List.length_nil] at hm; omega) 24 (by omega))
 have ecells : [] ++ (eA l).take (dY l key * 2) ++ [DV.str key, ii n] ++ (eA l).drop (dY l key * 2) = eA (gQ l key n) := by rw [List.nil_append]; exact aIx l key n
 rw [ecells] at o4; refine ⟨w3, h4, ?_, o4.mono (by omega), g1.trans (dH ((p2.trans p3).trans p4))⟩
 show aKV E v (.str key) (ii n) h = _; unfold aKV; have d1 : decide (n < 1) = false := by simp; omega
 have d2 : decide (256 <= n) = false := by simp; omega
 have bld : dO [(.str []), (ii 0)] [(0, 1, .str key), (1, 1, ii n)] = some (.agg [.str key, ii n]) := rfl; have nl := uP hk; have na : B1 [.str key] h = some (.bool true, h) := by rw [s1 key h (by omega), hk]
 have fd := s2 _ v l key h r (by omega)
 rw [hh] at fd; simp only [aP, d1, aA, dQ, fZ, d2, bT]; rw [aC, b1, na, aB, gJ, aA, Bool.not_true, aC, b2, fd, aB, aL, aA, aK, aA, aC, e1, aA, bld, aA, aIk rfl rfl, <- eh1, e2, aA, f2, aB, f3, aB, f4, aB]
def aGa (B : cF) : Prop := ∀ (v : DV) (l : EL) (key : Ln) (h : H), RowE (λ c => c < h.size) 2 h v (eA l) -> l.length < 100000 -> eS l key = true ->
 ∃ v' h', B [v, .str key] h = some (.tup [v', ii ((jU l key)), ii 0], h') /\ jF h.size 2 h' v' (eA (gF l key)) /\ aH h h'
theorem aVX {E : bJ} (hF : bL E 169 tF) : aGa (aZR E) := by
 obtain ⟨B2, b2, s2⟩ := hF.call; intro v l key h r hl hh; obtain ⟨n, q1, q2⟩ := oU hh; have hpl : dY l key < l.length := (List.getElem?_eq_some_iff.1 q1).1; obtain ⟨v1, e1, r1⟩ := r.to (i := dY l key) (bI l) (by omega) (by omega) .i64
 obtain ⟨v2, e2, r2⟩ := r.from (i := dY l key + 1) (bI l) (by omega) (by omega) .i64
 obtain ⟨k1, z1, z2, z3⟩ := r1.src; have l1 : ((eA l).take (dY l key * 2)).length = dY l key * 2 := by rw [List.length_take, bI]; omega
 have hk1 : k1 = dY l key := by omega
 subst hk1; obtain ⟨w1, h2, f2, o2, p2⟩ := (jF.nil (n0 := h.size) (es := 2) (h := h)).app (Nat.le_refl _) (x := v1) (bytes := 24) z2 z3 l1 (by rw [sW]; exact qN _) (by omega) (λ m hm => iK (by simp at hm; omega) 24 (by omega))
 obtain ⟨k2, u1, u2, u3⟩ := (r2.keeps p2).src; have l2 : ((eA l).drop ((dY l key + 1) * 2)).length = (l.length - (dY l key + 1)) * 2 := by rw [List.length_drop, bI]; omega
 have hk2 : k2 = l.length - (dY l key + 1) := by omega
 subst hk2; obtain ⟨w3, h4, f4, o4, p4⟩ := o2.app p2.size (x := v2) (bytes := 24) u2 u3 l2 (by rw [nO]; exact qN _) (by omega) (λ m hm => iK (by
   simp only [List.nil_append, l1] at hm; omega) 24 (by omega))
 have ecells : [] ++ (eA l).take (dY l key * 2) ++ (eA l).drop ((dY l key + 1) * 2) = eA (gF l key) := by rw [List.nil_append]; exact aWC l key
 rw [ecells] at o4; obtain ⟨b, o, i1, i2, i3, i4, i5, i6, i7, i8⟩ := kX r q1 .i64; have hblt : aF h2.get (.ptr b (o + 1)) = some (ii n) := by
   obtain ⟨b', o', j1, j2, j3, j4, j5, j6, j7, j8⟩ := kX (r.keeps p2) q1 .i64; rw [i1] at j1; cases j1; exact j8
 have hblt4 : aF h4.get (.ptr b (o + 1)) = some (ii n) := by
   obtain ⟨b', o', j1, j2, j3, j4, j5, j6, j7, j8⟩ := kX ((r.keeps p2).keeps p4) q1 .i64; rw [i1] at j1; cases j1; exact j8
 refine ⟨w3, h4, ?_, o4, dH (p2.trans p4)⟩; have fd := s2 _ v l key h r (by omega)
 rw [hh] at fd; show aKS E v (.str key) h = _; unfold aKS; rw [b2, fd, aB, aL, aA, aK, aA, gJ, aA, Bool.not_true, aC, e1, aA, eZ (by omega), aA, e2, aA, i1, aA, i6, aA, i8, aA, f2, aB, hblt, gS, eQ, f4, aB, hblt4, gS, eQ, q2]
def vA (B : cF) : Prop := ∀ (v : DV) (l : EL) (h : H), RowE (λ c => c < h.size) 2 h v (eA l) -> l.length <= 256 -> (∀ e ∈ l, vF e) -> ∃ h', B [v] h = some (.str (zN l), h') /\ aH h h'
theorem aHq {E : bJ} (hI : bL E 53 nA) (hT : bL E 54 mP) {n0 : Nat} {w : DV} {l : EL} (hl : l.length <= 256) (hok : ∀ e ∈ l, vF e) {s0 : Ln} (hs0 : s0.length <= 10) :
   ∀ (k i m : Nat) (h : H), l.length - i = k -> i <= l.length -> n0 <= h.size -> RowE (λ c => c < n0) 2 h w (eA l) ->
   ∃ h', aIO E w (m + (k + 1)) (.str (s0 ++ (l.take i).flatMap qO)) (ii i) h = some (.str (s0 ++ l.flatMap qO), h') /\ aH h h' := by
 obtain ⟨B1, b1, s1⟩ := hI.call; obtain ⟨B2, b2, s2⟩ := hT.call; intro k
 induction k with
 | zero =>
   intro i m h hk hi hn r; have : i = l.length := by omega
   subst this; obtain ⟨n, e1, e2⟩ := r.len; have hn' : n = l.length := by rw [bI] at e1; omega
   subst hn'; rw [List.take_length]; refine ⟨h, ?_, aH.refl _⟩; show aPh E w (aIO E w m) _ _ h = _; unfold aPh; rw [e2, aA, aP, aA, decide_eq_false (Nat.lt_irrefl _), aC]; rfl
 | succ k ih =>
   intro i m h hk hi hn r; have hlt : i < l.length := by omega
   obtain ⟨n, e1, e2⟩ := r.len; have hn' : n = l.length := by rw [bI] at e1; omega
   subst hn'; obtain ⟨e, he⟩ : ∃ e, l[i]? = some e := ⟨_, List.getElem?_eq_getElem hlt⟩; have hoe := hok e (List.mem_of_getElem? he); have hoe1 := hoe.1; have hoe3 := hoe.2.2; obtain ⟨b, oo, q1, q2, q3, q4, q5, q6, q7, q8⟩ := kX r he .i64; obtain ⟨h1, f1, g1⟩ := s2 e.1 h (by omega)
   have r1 := r.grown g1; have q8' : aF h1.get (.ptr b (oo + 1)) = some (ii e.2) := by
     obtain ⟨b', o', j1, j2, j3, j4, j5, j6, j7, j8⟩ := kX r1 he .i64; rw [q1] at j1; cases j1; exact j8
   obtain ⟨h2, f2, g2⟩ := s1 (.ofNat e.2) h1 (fU (by omega))
   obtain ⟨h', f3, g3⟩ := ih (i + 1) m h2 (by omega) (by omega) (Nat.le_trans hn (g1.trans g2).size) (r1.grown g2)
   refine ⟨h', ?_, (g1.trans g2).trans g3⟩; have hlen := yL (l := l.take i) λ x hx => hok x (List.mem_of_mem_take hx)
   have hlt2 : (l.take i).length <= 255 := by rw [List.length_take]; omega
   have hb := aNY hoe; have a1 : bN (.str (fW e.1)) (.str (fK (.ofNat e.2))) = some (.str (qO e)) := fD (by unfold qO at hb; rw [List.length_append] at hb; unfold fQ; omega)
   have a2 : bN (.str (s0 ++ (l.take i).flatMap qO)) (.str (qO e)) = some (.str (s0 ++ (l.take (i + 1)).flatMap qO)) := by
     rw [aHW he, <- List.append_assoc]; exact fD (by rw [List.length_append]; unfold fQ; omega)
   show aPh E w (aIO E w (m + (k + 1))) _ _ h = _; unfold aPh; rw [e2, aA, aP, aA, decide_eq_true hlt, aD, q1, aA, q5, aA, q7, aA, aA, q6, aA, q8, aA, b2, f1, aB, q8', gS, eQ, b1, f2, aB, a1, aA, a2, aA, bO (by omega), aA]
   exact f3
theorem aHp {E : bJ} (hI : bL E 53 nA) (hT : bL E 54 mP) : vA (S77 E) := by
 obtain ⟨B1, b1, s1⟩ := hI.call; intro v l h r hl hok; obtain ⟨n, e1, e2⟩ := r.len; have hn' : n = l.length := by rw [bI] at e1; omega
 subst hn'; obtain ⟨h1, f1, g1⟩ := s1 (.ofNat l.length) h (fU (by omega))
 obtain ⟨h2, f2, g2⟩ := aHq (E := E) hI hT (n0 := h.size) hl hok (dF (.ofNat l.length)).2 l.length 0 (aQ - (l.length + 1)) h1 (by omega) (by omega) g1.size (r.grown g1)
 rw [show aQ - (l.length + 1) + (l.length + 1) = aQ from by unfold aQ; omega] at f2
 refine ⟨h2, ?_, g1.trans g2⟩; show aUv E v h = _; unfold aUv; rw [List.take_zero, List.flatMap_nil, List.append_nil] at f2; rw [e2, aA, b1, f1, aB]; exact f2
end Go.Proofs.YtmafhiogonejfaaGreatDoor
end
