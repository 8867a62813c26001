/- Directories, numbers and texts as bytes: what they compute. No condition. -/
import Derived.Test.YtmafhiogonejfaaGreatDoorTr1
import Derived.KernelRfl
set_option linter.unusedVariables false
set_option linter.unusedSimpArgs false
noncomputable section
namespace Go.Proofs.YtmafhiogonejfaaGreatDoor
open Go.DI
theorem aVR {L N R : List DV} {i n : Nat} (hL : L.length = n * 2) (hN : N.length = 2) (hi : i < n) (hR : (L.take (i * 2) ++ R).length = (n + 1) * 2) :
   ((L.take (i * 2) ++ R).take (i * 2) ++ N ++ (L.take (i * 2) ++ R).drop (i * 2 + N.length)).take ((i + 1) * 2) ++ L.drop (i * 2) ++ ((L.take (i * 2) ++ R).take (i * 2) ++ N ++ (L.take (i * 2) ++ R).drop (i * 2 + N.length)).drop ((i + 1) * 2 + (L.drop (i * 2)).length) =
     L.take (i * 2) ++ N ++ L.drop (i * 2) := by
 have tl : (L.take (i * 2)).length = i * 2 := by rw [List.length_take]; omega
 have e0 : (L.take (i * 2) ++ R).take (i * 2) = L.take (i * 2) := by
   conv => lhs; rw [<- tl]
   rw [tl, List.take_append_of_le_length (by omega), List.take_of_length_le (by omega)]
 rw [e0]; generalize hX : (L.take (i * 2) ++ R).drop (i * 2 + N.length) = X; have lX : X.length = (n + 1) * 2 - (i * 2 + 2) := by rw [<- hX, List.length_drop, hR, hN]
 have lA : (L.take (i * 2) ++ N).length = (i + 1) * 2 := by rw [List.length_append, tl, hN]; omega
 have h1 : (L.take (i * 2) ++ N ++ X).take ((i + 1) * 2) = L.take (i * 2) ++ N := by rw [<- lA, List.take_left]
 have h2 : (L.take (i * 2) ++ N ++ X).drop ((i + 1) * 2 + (L.drop (i * 2)).length) = [] := List.drop_of_length_le (by rw [List.length_append, lA, lX, List.length_drop, hL]; omega)
 rw [h1, h2, List.append_nil]
theorem aGk {E : bG} (b n c i vb vo vc : Nat) (vop pl : Bool) (h : H) (L N : List DV) (V : Blk) (t : Tr DV) (hi : i <= n) (hc : n <= c) (hn : n < 1000000) (hL : L.length = n * 2) (hN : N.length = 2) (hL1 : L.all DV.one = true) (hN1 : N.all DV.one = true) (hvb : vb < b) (hb : b < h.size)
   (hB : h.get b = some (.blk ⟨c * 2, 0, false, pl, t⟩)) (ht : ∀ j x, L[j]? = some x -> t.at_ j = some x) (hV : h.get vb = some (.blk V)) (hp : V.pl = true) (hr : rdCells h.get vb vo 2 = some N) :
   ∃ v h', aIU E [.slc b 0 n c false, .int .i64 (.ofNat i), .slc vb vo 1 vc vop] h = some (v, h') /\ aYP 2 b n (L.take (i * 2) ++ N ++ L.drop (i * 2)) h v h' := by
 have hP : fC h b (c * 2) 0 L := ⟨hb, by omega, pl, t, hB, ht⟩
 have hdn : (L.drop (i * 2)).all DV.one = true := List.all_eq_true.2 λ x hx => List.all_eq_true.1 hL1 x (List.mem_of_mem_drop hx)
 show ∃ v h', aCe E (.slc b 0 n c false) (.int .i64 (.ofNat i)) (.slc vb vo 1 vc vop) h = _ /\ _; unfold aCe; have e1 : ∃ x1, dO 2 (.slc b 0 n c false) (some (.int .i64 (.ofNat i))) none = some x1 := by
   by_cases hic : i < c
   · exact ⟨_, iO hi hc hic _⟩
   · have : i = n /\ c = n := by omega
     obtain ⟨rfl, rfl⟩ := this; exact ⟨_, aGA _⟩
 obtain ⟨x1, e1⟩ := e1; rw [e1, aA, oQ, aA, cJ, aA, decide_eq_false (show ¬ (1 : Nat) = 0 by omega), aC, oQ, aA, cJ, aA]
 have hN2 : rdCells h.get vb vo (1 * 2) = some N := hr; by_cases hin : i = n
 · subst hin; rw [decide_eq_true rfl, aD]; have eL : L.take (i * 2) ++ N ++ L.drop (i * 2) = L ++ N := by rw [List.take_of_length_le (by omega), List.drop_of_length_le (by omega), List.append_nil]
   rw [eL]; by_cases hroom : i + 1 <= c
   · obtain ⟨h', f1, f2, f3⟩ := hP.store (vs := N) (o := i * 2) hN1 (by omega) (by omega)
     have ap : cF 2 24 (.slc b 0 i c false) (.slc vb vo 1 vc vop) h = some (.slc b 0 (i + 1) c false, h') := by
       rw [eW]; simp only [fQ, srcLen, dT, hN2, Option.bind_some, aZ, Nat.ble_eq_true_of_le hroom, cond_true, Nat.zero_add, f1, Option.map_some]
     rw [List.take_of_length_le (by omega), List.drop_of_length_le (by omega), List.append_nil] at f2
     obtain ⟨g1, g2, pl', t', g3, g4⟩ := f2; refine ⟨_, h', by rw [ap, aB], b, c, false, _, rfl, Nat.le_refl _, g3, rfl, rfl, by omega, .inl ⟨rfl, rfl⟩, g4, λ q hq => f3.get q (by omega), by rw [f3.size]; exact Nat.le_refl _⟩
   · have hcn : c = i := by omega
     subst hcn; have hold : rdCells h.get b 0 (c * 2) = some L := by
       have := hP.cells (o := 0) (k := c * 2) (by omega)
       rw [List.drop_zero, List.take_of_length_le (by omega)] at this; exact this
     have s1 : Nat.blt ((c + 1) * 24) aU = true := dV (by unfold aU; omega)
     have s2 : Nat.blt (c + 1) aU = true := dV (by unfold aU; omega)
     have ap : cF 2 24 (.slc b 0 c c false) (.slc vb vo 1 vc vop) h = some (.slc h.size 0 (c + 1) (c + 1) true, h.push (.blk ⟨(c + 1) * 2, 2, false, true, Tr.ofL (L ++ N)⟩)) := by
       rw [eW]; simp only [fQ, srcLen, dT, hN2, Option.bind_some, aZ, iT (show ¬ c + 1 <= c by omega), cond_false, s1, s2, Bool.and_self, cond_true, hB, hold, H.pushK_eq]
     refine ⟨_, _, by rw [ap, aB], h.size, c + 1, true, _, rfl, Nat.le_of_lt hb, by rw [H.get_push, if_pos rfl], rfl, rfl, Nat.le_refl _, .inr ⟨rfl, rfl⟩, λ j x hj => by rw [Tr.at_ofL]; exact hj, λ q hq => by rw [H.get_push, if_neg (by omega)], by simp⟩
 · rw [decide_eq_false hin, aC, bQ (by omega), aA, aTh, aA, dC, aA]
   have hin' : i < n := by omega
   have hc0 : 0 < c := by omega
   have dl : (L.drop (i * 2)).length = (n - i) * 2 := by rw [List.length_drop, hL]; omega
   have ex1 : x1 = .slc b (0 + i * 2) (n - i) (c - i) false := Option.some.inj (e1.symm.trans (iO hi hc (by omega) _))
   subst ex1; by_cases hroom : c < n + 1
   · have hcn : c = n := by omega
     subst hcn; rw [decide_eq_true hroom, aD, wC (by omega) hc0, aA, aA, fM (by omega) (by omega), aA]
     have hold : rdCells h.get b 0 (i * 2) = some (L.take (i * 2)) := by
       have := hP.cells (o := 0) (k := i * 2) (by omega)
       rw [List.drop_zero] at this; exact this
     have need : i + (c + 1 - i) = c + 1 := by omega
     have ap : aMq 2 24 [(.str []), (.int .i64 (.ofNat 0))] (.slc b 0 i c false) (.int .i64 (.ofNat (c + 1 - i))) h = some (.slc h.size 0 (c + 1) (c + 1) true, h.push (.blk ⟨(c + 1) * 2, 2, false, true, Tr.ofL (L.take (i * 2) ++ gO [(DV.str []), (DV.int .i64 (.ofNat 0))] (c + 1 - i))⟩)) := by
       have s1 : Nat.blt ((c + 1) * 24) aU = true := dV (by unfold aU; omega)
       have s2 : Nat.blt (c + 1) aU = true := dV (by unfold aU; omega)
       simp only [aMq, aZ, need, dV hroom, dV (show 0 < c + 1 - i by omega), s1, s2, dV (show 0 < 2 by omega), Bool.and_self, cond_true, hold, Option.bind_some, H.pushK_eq]
     rw [ap, aB]; have hlen : (L.take (i * 2) ++ gO [(DV.str []), (DV.int .i64 (.ofNat 0))] (c + 1 - i)).length = (c + 1) * 2 := by
       simp only [List.length_append, List.length_take, iB, hL, List.length_cons, List.length_nil]; omega
     obtain ⟨h1, eh1⟩ : ∃ x, x = h.push (.blk ⟨(c + 1) * 2, 2, false, true, Tr.ofL (L.take (i * 2) ++ gO [(DV.str []), (DV.int .i64 (.ofNat 0))] (c + 1 - i))⟩) := ⟨_, rfl⟩; have hP1 : fC h1 h.size ((c + 1) * 2) 2 (L.take (i * 2) ++ gO [(DV.str []), (DV.int .i64 (.ofNat 0))] (c + 1 - i)) := by
       have := fC.pushed (h := h) (es := 2) (pl := true) (L := L.take (i * 2) ++ gO [(DV.str []), (DV.int .i64 (.ofNat 0))] (c + 1 - i)); rw [hlen] at this; rw [eh1]; exact this
     have g1 : aI h h1 := by rw [eh1]; exact aI.push _ _
     have hPb1 := hP.grown g1; rw [<- eh1]; obtain ⟨h2, f1, f2, f3⟩ := hP1.store (vs := N) (o := i * 2) hN1 (by omega) (by omega)
     have hN3 : rdCells h1.get vb vo (1 * 2) = some N := by
       rw [<- hN2]; exact mY λ j _ _ => jV (g1.get vb (by omega))
     rw [iO (by omega) (Nat.le_refl _) (by omega), aA, wX (k := 1) (new := N) (h2 := h2) (by rw [Nat.min_eq_left (by omega)]) hN3 (by rw [Nat.zero_add]; exact f1), aB, bQ (by omega), aA,
       iO (by omega) (Nat.le_refl _) (by omega), aA, aA]
     have hlen2 : ((L.take (i * 2) ++ gO [(DV.str []), (DV.int .i64 (.ofNat 0))] (c + 1 - i)).take (i * 2) ++ N ++ (L.take (i * 2) ++ gO [(DV.str []), (DV.int .i64 (.ofNat 0))] (c + 1 - i)).drop (i * 2 + N.length)).length = (c + 1) * 2 := by
       simp only [List.length_append, List.length_take, List.length_drop, hlen, hN]; omega
     obtain ⟨h3, k1, k2, k3⟩ := f2.store (vs := L.drop (i * 2)) (o := (i + 1) * 2) hdn (by omega) (by omega)
     have hPb2 := hPb1.but (by omega) f3
     have hs3 : rdCells h2.get b (0 + i * 2) ((c - i) * 2) = some (L.drop (i * 2)) := by
       have := hPb2.cells (o := 0 + i * 2) (k := (c - i) * 2) (by omega)
       rw [Nat.zero_add] at this ⊢; rw [this, List.take_of_length_le (by omega)]
     rw [wX (k := c - i) (new := L.drop (i * 2)) (h2 := h3) (by rw [Nat.min_eq_left (by omega)]) hs3 (by rw [Nat.zero_add]; exact k1), aB]
     obtain ⟨y1, y2, pl', t', y3, y4⟩ := k2; have eL := aVR (R := gO [(DV.str []), (DV.int .i64 (.ofNat 0))] (c + 1 - i)) hL hN hin' hlen; refine ⟨_, h3, rfl, h.size, c + 1, true, _, rfl, Nat.le_of_lt hb, y3, rfl, rfl, Nat.le_refl _, .inr ⟨rfl, rfl⟩, λ j x hj => y4 j x (by rw [eL]; exact hj), λ q hq => ?_, ?_⟩
     · rw [k3.get q (by omega), f3.get q (by omega), g1.get q (by omega)]
     · rw [k3.size, f3.size]; exact g1.size
   · rw [decide_eq_false hroom, aC, aA, wC (by omega) hc0, aA, bQ (by omega), aA, iO (by omega) (by omega) (by omega), aA,
       aKE hV hB (by omega) hp (by show c * 2 ≠ 0; omega), aA, fY, aA, Bool.not_false, aD, aA, iO (by omega) (by omega) (by omega), aA, iO (by omega) (by omega) (by omega), aA]
     obtain ⟨h1, f1, f2, f3⟩ := hP.store (vs := L.drop (i * 2)) (o := (i + 1) * 2) hdn (by omega) (by omega)
     have hs3 : rdCells h.get b (0 + i * 2) ((n - i) * 2) = some (L.drop (i * 2)) := by
       have := hP.cells (o := 0 + i * 2) (k := (n - i) * 2) (by omega)
       rw [Nat.zero_add] at this ⊢; rw [this, List.take_of_length_le (by omega)]
     rw [wX (k := n - i) (new := L.drop (i * 2)) (h2 := h1) (by rw [Nat.min_eq_right (by omega)]; omega) hs3 (by rw [Nat.zero_add]; exact f1), aB, aA]
     have hlen2 : (L.take ((i + 1) * 2) ++ L.drop (i * 2) ++ L.drop ((i + 1) * 2 + (L.drop (i * 2)).length)).length = (n + 1) * 2 := by
       simp only [List.length_append, List.length_take, List.length_drop, hL]; omega
     obtain ⟨h2, k1, k2, k3⟩ := f2.store (vs := N) (o := i * 2) hN1 (by omega) (by omega)
     have hN3 : rdCells h1.get vb vo (1 * 2) = some N := by
       rw [<- hN2]; exact mY λ j _ _ => jV (f3.get vb (by omega))
     rw [wX (k := 1) (new := N) (h2 := h2) (by rw [Nat.min_eq_left (by omega)]) hN3 (by rw [Nat.zero_add]; exact k1), aB]
     obtain ⟨y1, y2, pl', t', y3, y4⟩ := k2; have eL : (L.take (i * 2) ++ N ++ L.drop (i * 2)) = ((L.take ((i + 1) * 2) ++ L.drop (i * 2) ++ L.drop ((i + 1) * 2 + (L.drop (i * 2)).length)).take (i * 2) ++ N ++ (L.take ((i + 1) * 2) ++ L.drop (i * 2) ++ L.drop ((i + 1) * 2 + (L.drop (i * 2)).length)).drop (i * 2 + N.length)) := by
       have tl : (L.take ((i + 1) * 2)).length = (i + 1) * 2 := by rw [List.length_take]; omega
       rw [List.drop_of_length_le (l := L) (i := (i + 1) * 2 + (L.drop (i * 2)).length) (by omega), List.append_nil]
       rw [List.take_append_of_le_length (by omega), List.take_take, Nat.min_eq_left (by omega), hN]
       congr 1
       rw [show i * 2 + 2 = (L.take ((i + 1) * 2)).length from by rw [tl]; omega, List.drop_left]
     refine ⟨_, h2, rfl, b, c, false, _, rfl, Nat.le_refl _, y3, rfl, rfl, by omega, .inl ⟨rfl, rfl⟩, λ j x hj => y4 j x (by rw [eL] at hj; exact hj), λ q hq => ?_, ?_⟩
     · rw [k3.get q (by omega), f3.get q (by omega)]
     · rw [k3.size, f3.size]; exact Nat.le_refl _
theorem aVe (a : Nat) (s : Ln) (b : Nat) (t : Ln) : sI (a :: s) (b :: t) = (Nat.blt a b || (Nat.beq a b && sI s t)) := rfl
theorem sH (a : Nat) (s : Ln) (b : Nat) (t : Ln) : sI (a :: s) (b :: t) = true ↔ a < b \/ (a = b /\ sI s t = true) := by
 rw [aVe]; simp only [Bool.or_eq_true, Bool.and_eq_true, Nat.blt_eq]; have : Nat.beq a b = true ↔ a = b := ⟨Nat.eq_of_beq_eq_true, λ h => by subst h; exact Nat.beq_refl _⟩
 rw [this]
theorem aDP : ∀ s : Ln, sI s s = false
 | [] => rfl
 | a :: s => by
   rw [Bool.eq_false_iff, ne_eq, sH]
   rintro (h | ⟨_, h⟩)
   · omega
   · rw [aDP s] at h; cases h
theorem aBe : ∀ {a b c : Ln}, sI a b = true -> sI b c = true -> sI a c = true
 | [], [], _, h, _ => by cases h
 | [], b :: s, [], _, h => by cases h
 | [], b :: s, c :: t, _, _ => rfl
 | a :: s, [], _, h, _ => by cases h
 | a :: s, b :: t, [], _, h => by cases h
 | a :: s, b :: t, c :: u, h, k => by
   rw [sH] at *; rcases h with h | ⟨rfl, h⟩ <;> rcases k with k | ⟨rfl, k⟩
   · exact .inl (by omega)
   · exact .inl h
   · exact .inl k
   · exact .inr ⟨rfl, aBe h k⟩
theorem aQN : ∀ {a b : Ln}, sI a b = false -> sI b a = false -> a = b
 | [], [], _, _ => rfl
 | [], b :: s, h, _ => by cases h
 | a :: s, [], _, h => by cases h
 | a :: s, b :: t, h, k => by
   rw [Bool.eq_false_iff, ne_eq, sH, not_or] at *; have e : a = b := by omega
   subst e; have h2 : sI s t = false := by rw [Bool.eq_false_iff]; exact λ x => h.2 ⟨rfl, x⟩
   have k2 : sI t s = false := by rw [Bool.eq_false_iff]; exact λ x => k.2 ⟨rfl, x⟩
   rw [aQN h2 k2]
abbrev EL := List (Ln × Nat)
def gT (l : EL) : Prop := l.Pairwise λ a b => sI a.1 b.1 = true
def dU (l : EL) (key : Ln) : Nat := (l.takeWhile λ e => sI e.1 key).length
def eP (l : EL) (key : Ln) : Bool := match l[dU l key]? with
 | some e => e.1 == key
 | none => false
theorem sU (l : EL) (key : Ln) : dU l key <= l.length := (List.takeWhile_sublist _).length_le
theorem mV {α : Type} {p : α -> Bool} : ∀ {l : List α} {e : α}, e ∈ l.takeWhile p -> p e = true
 | [], e, h => by cases h
 | x :: l, e, h => by
   rw [List.takeWhile_cons] at h; split at h
   · rename_i hx; rcases List.mem_cons.1 h with rfl | h
     · exact hx
     · exact mV h
   · cases h
theorem sV {l : EL} {key : Ln} : ∀ {i : Nat} {e : Ln × Nat}, i < dU l key -> l[i]? = some e -> sI e.1 key = true := by
 intro i e hi he; have h1 : (l.takeWhile λ e => sI e.1 key)[i]? = some e := by
   have : l = (l.takeWhile λ e => sI e.1 key) ++ l.dropWhile λ e => sI e.1 key := (List.takeWhile_append_dropWhile).symm
   rw [this, List.getElem?_append_left hi] at he; exact he
 have h2 := List.mem_of_getElem? h1; exact mV (p := λ e : Ln × Nat => sI e.1 key) h2
theorem aIq {l : EL} {key : Ln} {e : Ln × Nat} (he : l[dU l key]? = some e) : sI e.1 key = false := by
 induction l with
 | nil => simp at he
 | cons x l ih =>
   unfold dU at he ih; rw [List.takeWhile_cons] at he; split at he
   · simp only [List.length_cons, List.getElem?_cons_succ] at he; exact ih he
   · rename_i hx; simp only [List.length_nil, List.getElem?_cons_zero, Option.some.injEq] at he; subst he
     simpa using hx
theorem aDY {l : EL} (hs : gT l) {key : Ln} {i : Nat} {e : Ln × Nat} (hi : dU l key <= i) (he : l[i]? = some e) : sI e.1 key = false := by
 have hil := (List.getElem?_eq_some_iff.1 he).1; obtain ⟨p, hp⟩ : ∃ p, l[dU l key]? = some p := ⟨_, List.getElem?_eq_getElem (by omega)⟩
 have h0 := aIq hp; rcases Nat.lt_or_ge (dU l key) i with h | h
 · have h1 : sI p.1 e.1 = true := by
     have := List.pairwise_iff_getElem.1 hs (dU l key) i (by omega) hil h
     rw [List.getElem?_eq_some_iff] at hp he; obtain ⟨_, rfl⟩ := hp; obtain ⟨_, rfl⟩ := he; exact this
   rw [Bool.eq_false_iff]; intro h2; rw [aBe h1 h2] at h0; cases h0
 · have : i = dU l key := by omega
   subst this; rw [he] at hp; cases hp; exact h0
theorem aZA {l : EL} {key : Ln} {p : Nat} (hp : p <= l.length) (h1 : ∀ i e, i < p -> l[i]? = some e -> sI e.1 key = true) (h2 : ∀ e, l[p]? = some e -> sI e.1 key = false) : dU l key = p := by
 have hle := sU l key; rcases Nat.lt_or_ge (dU l key) p with h | h
 · have := h1 (dU l key) _ h (List.getElem?_eq_getElem (by omega))
   rw [aIq (List.getElem?_eq_getElem (by omega))] at this; cases this
 · rcases Nat.lt_or_ge p (dU l key) with h3 | h3
   · have := sV h3 (List.getElem?_eq_getElem (by omega))
     rw [h2 _ (List.getElem?_eq_getElem (by omega))] at this; cases this
   · omega
def jB (l : EL) (key : Ln) : Nat := if eP l key then (l[dU l key]?.map (·.2)).getD 0 else 0
def lN (l : EL) (key : Ln) : Nat := if eP l key then 0 else 7
def gD (l : EL) (key : Ln) (n : Nat) : EL := l.take (dU l key) ++ (key, n) :: l.drop (dU l key)
def fS (l : EL) (key : Ln) : EL := l.take (dU l key) ++ l.drop (dU l key + 1)
theorem nN {l : EL} {key : Ln} (h : eP l key = true) : ∃ n, l[dU l key]? = some (key, n) /\ jB l key = n := by
 unfold jB; rw [if_pos h]; unfold eP at h; split at h
 · rename_i e he; rw [beq_iff_eq] at h; subst h; exact ⟨e.2, he, by rw [he]; rfl⟩
 · cases h
theorem lM {l : EL} {key : Ln} (h : eP l key = true) : (key, jB l key) ∈ l := by
 obtain ⟨n, h1, h2⟩ := nN h; rw [h2]; exact List.mem_of_getElem? h1
theorem aCD {l : EL} (hs : gT l) {key : Ln} {n : Nat} (h : (key, n) ∈ l) : eP l key = true /\ jB l key = n := by
 obtain ⟨i, hi⟩ := List.mem_iff_getElem?.1 h; have hil := (List.getElem?_eq_some_iff.1 hi).1; have hp : dU l key = i := aZA (by omega) (λ j e hj he => by
   have := List.pairwise_iff_getElem.1 hs j i (by omega) hil hj
   rw [List.getElem?_eq_some_iff] at hi he; obtain ⟨_, q1⟩ := hi; obtain ⟨_, q2⟩ := he; rw [q1, q2] at this; exact this) (λ e he => by rw [hi] at he; cases he; exact aDP _)
 have hh : eP l key = true := by unfold eP; rw [hp, hi]; simp
 refine ⟨hh, ?_⟩; obtain ⟨m, h1, h2⟩ := nN hh; rw [h2]; rw [hp, hi] at h1; cases h1; rfl
theorem aKZ {l : EL} (h : gT l) (n : Nat) : gT (l.take n) := h.sublist (List.take_sublist _ _)
theorem aMM {l : EL} (hs : gT l) {key : Ln} {n : Nat} (hk : eP l key = false) : gT (gD l key n) := by
 unfold gD gT; rw [List.pairwise_append]; have hd : ∀ e ∈ l.drop (dU l key), sI key e.1 = true := by
   intro e he; obtain ⟨i, hi⟩ := List.mem_iff_getElem?.1 he; rw [List.getElem?_drop] at hi; have h1 := aDY (key := key) hs (by omega) hi
   cases h2 : sI key e.1 with
   | true => rfl
   | false =>
     have e1 := aQN h1 h2; have hm : (key, e.2) ∈ l := by rw [<- e1]; exact List.mem_of_getElem? hi
     rw [(aCD hs hm).1] at hk; cases hk
 have ht : ∀ e ∈ l.take (dU l key), sI e.1 key = true := by
   intro e he; obtain ⟨i, hi⟩ := List.mem_iff_getElem?.1 he; rw [List.getElem?_take] at hi; split at hi
   · rename_i h; exact sV h hi
   · cases hi
 refine ⟨aKZ hs _, ?_, ?_⟩
 · rw [List.pairwise_cons]; exact ⟨λ e he => hd e he, hs.sublist (List.drop_sublist _ _)⟩
 · intro a ha b hb; rcases List.mem_cons.1 hb with rfl | hb
   · exact ht a ha
   · exact aBe (ht a ha) (hd b hb)
theorem aLs {l : EL} (hs : gT l) (key : Ln) : gT (fS l key) := by
 unfold fS; refine hs.sublist ?_
 conv => rhs; rw [<- List.take_append_drop (dU l key) l]
 exact (List.Sublist.refl _).append (List.drop_sublist_drop_left l (by omega))
theorem aCM (l : EL) (key : Ln) (n : Nat) : (gD l key n).length = l.length + 1 := by
 have := sU l key; simp [gD]; omega
theorem aWW {l : EL} {key : Ln} {n : Nat} {e : Ln × Nat} : e ∈ gD l key n ↔ e = (key, n) \/ e ∈ l := by
 unfold gD; rw [List.mem_append, List.mem_cons]
 conv => rhs; rw [<- List.take_append_drop (dU l key) l, List.mem_append]
 constructor
 · rintro (h | h | h)
   · exact .inr (.inl h)
   · exact .inl h
   · exact .inr (.inr h)
 · rintro (h | h | h)
   · exact .inr (.inl h)
   · exact .inl h
   · exact .inr (.inr h)
theorem aLr {l : EL} {key : Ln} {e : Ln × Nat} (h : e ∈ fS l key) : e ∈ l := by
 unfold fS at h; rcases List.mem_append.1 h with h | h
 · exact List.mem_of_mem_take h
 · exact List.mem_of_mem_drop h
def dY (l : EL) : List DV := l.flatMap λ e => [DV.str e.1, ii e.2]
theorem wV (e : Ln × Nat) (l : EL) : dY (e :: l) = [DV.str e.1, ii e.2] ++ dY l := rfl
theorem nP (a b : EL) : dY (a ++ b) = dY a ++ dY b := by unfold dY; rw [List.flatMap_append]
theorem bE : ∀ l : EL, (dY l).length = l.length * 2
 | [] => rfl
 | e :: l => by rw [wV, List.length_append, bE l]; simp; omega
theorem pE : ∀ l : EL, (dY l).all DV.one = true
 | [] => rfl
 | e :: l => by rw [wV, List.all_append, pE l]; rfl
theorem aMa : ∀ {l : EL} {i : Nat} {e : Ln × Nat}, l[i]? = some e -> (dY l)[i * 2]? = some (.str e.1) /\ (dY l)[i * 2 + 1]? = some (ii e.2)
 | [], i, e, h => by simp at h
 | x :: l, 0, e, h => by simp at h; subst h; exact ⟨rfl, rfl⟩
 | x :: l, i + 1, e, h => by
   simp only [List.getElem?_cons_succ] at h; obtain ⟨h1, h2⟩ := aMa h; rw [wV, show (i + 1) * 2 = [DV.str x.1, ii x.2].length + i * 2 from by simp; omega]
   constructor
   · rw [List.getElem?_append_right (by omega)]; simpa using h1
   · rw [List.getElem?_append_right (by omega)]; rw [show [DV.str x.1, ii x.2].length + i * 2 + 1 - [DV.str x.1, ii x.2].length = i * 2 + 1 from by omega]; exact h2
theorem rH (l : EL) (i : Nat) : (dY l).take (i * 2) = dY (l.take i) := by
 rcases Nat.lt_or_ge l.length i with h | h
 · rw [List.take_of_length_le (by rw [bE]; omega), List.take_of_length_le (by omega)]
 · conv => lhs; rw [<- List.take_append_drop i l, nP]
   rw [List.take_append_of_le_length (by rw [bE, List.length_take]; omega), List.take_of_length_le (by rw [bE, List.length_take]; omega)]
theorem mQ (l : EL) (i : Nat) : (dY l).drop (i * 2) = dY (l.drop i) := by
 rcases Nat.lt_or_ge l.length i with h | h
 · rw [List.drop_of_length_le (by rw [bE]; omega), List.drop_of_length_le (by omega)]; rfl
 · conv => lhs; rw [<- List.take_append_drop i l, nP]
   rw [show i * 2 = (dY (l.take i)).length from by rw [bE, List.length_take]; omega, List.drop_left]
theorem aHe (l : EL) (key : Ln) (n : Nat) : (dY l).take (dU l key * 2) ++ [DV.str key, ii n] ++ (dY l).drop (dU l key * 2) = dY (gD l key n) := by
 rw [rH, mQ]; unfold gD; rw [nP, wV]; simp
theorem aTZ (l : EL) (key : Ln) : (dY l).take (dU l key * 2) ++ (dY l).drop ((dU l key + 1) * 2) = dY (fS l key) := by
 rw [rH, mQ]; unfold fS; rw [nP]
abbrev aNo : Nat -> Prop := λ _ => True
theorem aAU (s t : Ln) : cW (.str s) (.str t) = some (.bool (sI s t)) := by
 show aQM s t = _; unfold aQM; rw [fV]
theorem kC {A : Nat -> Prop} {h : H} {v : DV} {l : EL} (r : RowE A 2 h v (dY l)) {i : Nat} {e : Ln × Nat} (he : l[i]? = some e) (k : IntKind) :
   ∃ b o, cC 2 v (.int k (.ofNat i)) = some (.ptr b o) /\ rdCell h.get b o = some (.str e.1) /\ rdCell h.get b (o + 1) = some (ii e.2) /\ aJ 2 h.get (.ptr b o) = some (.agg [.str e.1, ii e.2]) /\
     aH 0 (.ptr b o) = some (.ptr b o) /\ aH 1 (.ptr b o) = some (.ptr b (o + 1)) /\ aF h.get (.ptr b o) = some (.str e.1) /\ aF h.get (.ptr b (o + 1)) = some (ii e.2) := by
 obtain ⟨b, o, h1, h2⟩ := r.ix (i := i) (n := l.length) (bE l) (List.getElem?_eq_some_iff.1 he).1 (by omega) k
 obtain ⟨g1, g2⟩ := aMa he; have c0 := h2 0 _ (by omega) g1
 have c1 := h2 1 _ (by omega) g2
 rw [Nat.add_zero] at c0; refine ⟨b, o, h1, c0, c1, ?_, by rw [aK, Nat.add_zero], aK 1 b o, by simp only [aF, cG]; exact c0, by simp only [aF, cG]; exact c1⟩
 have hc : rdCells h.get b o 2 = some [.str e.1, ii e.2] := by simp only [rdCells, c0, c1]
 simp only [aJ, cH, hc]; rfl
theorem aMd {E : bG} (s : Ln) (n : Nat) (h : H) : ∃ h', aUt E [.agg [.str s, ii n]] h = some (.str s, h') /\ aI h h' := by
 refine ⟨h.push (.blk ⟨2, 2, false, true, Tr.ofL [.str s, ii n]⟩), ?_, aI.push h _⟩; show aJk E (.agg [.str s, ii n]) h = _; unfold aJk; rw [iK, aK, aA, (bD.pushed (h := h) (L := [.str s, ii n])).read (j := 0 + 0) rfl, aA]; rfl
def yV (B : cB) : Prop := ∀ (A : Nat -> Prop) (v : DV) (l : EL) (key : Ln) (h : H), RowE A 2 h v (dY l) -> gT l -> l.length < 1000000 ->
 ∃ h', B [v, .str key, .fn (.func 163) [] []] h = some (.tup [ii ((dU l key)), .bool (eP l key)], h') /\ aI h h'
theorem aFT {E F : bG} (hC : E 163 = some (aUt F)) {A : Nat -> Prop} {v : DV} {l : EL} {key : Ln} (hl : l.length < 1000000) (hs : gT l) :
   ∀ (k low high m : Nat) (h : H), RowE A 2 h v (dY l) -> high - low <= k -> low <= dU l key -> dU l key <= high -> high <= l.length ->
   ∃ h', aBP E v (.str key) (.fn (.func 163) [] []) (m + (k + 1)) (ii low) (ii high) h = some (.tup [ii ((dU l key)), .bool (eP l key)], h') /\ aI h h' := by
 intro k
 induction k with
 | zero =>
   intro low high m h r hk h1 h2 h3; have hp : low = dU l key := by omega
   have hh : high = dU l key := by omega
   rw [hp, hh]; show ∃ h', aFt E v _ _ (aBP E v _ _ m) _ _ h = _ /\ _; unfold aFt; rw [aP, aA, decide_eq_false (Nat.lt_irrefl _), aC]; unfold aJl; obtain ⟨n, e1, e2⟩ := r.len; have hn : n = l.length := by rw [bE] at e1; omega
   subst hn; rw [e2, aA, aP, aA]; by_cases hlt : dU l key < l.length
   · obtain ⟨e, he⟩ : ∃ e, l[dU l key]? = some e := ⟨_, List.getElem?_eq_getElem hlt⟩; obtain ⟨b, o, q1, q2, q3, q4, q5, q6, q7, q8⟩ := kC r he .i64; obtain ⟨h', f1, f2⟩ := aMd (E := F) e.1 e.2 h; refine ⟨h', ?_, f2⟩; have hc : kE E (.fn (.func 163) [] []) [.agg [.str e.1, ii e.2]] h = some (.str e.1, h') := by
       show aE E 163 ([] ++ [.agg [.str e.1, ii e.2]] ++ []) h = _; rw [cK hC]; exact f1
     have hb : eP l key = (e.1 == key) := by unfold eP; rw [he]
     simp only [decide_eq_true hlt, iL, q1, aA, q4, hc, aB, fX, cL, hb]
   · refine ⟨h, ?_, aI.refl h⟩; have hb : eP l key = false := by unfold eP; rw [List.getElem?_eq_none (by omega)]
     simp only [decide_eq_false hlt, aBq, fB, cI, aA, hb]
 | succ k ih =>
   intro low high m h r hk h1 h2 h3; rcases Nat.lt_or_ge low high with hlh | hlh
   · show ∃ h', aFt E v _ _ (aBP E v _ _ (m + (k + 1))) _ _ h = _ /\ _; unfold aFt; have hmid : (low + high) / 2 < l.length := by omega
     obtain ⟨e, he⟩ : ∃ e, l[(low + high) / 2]? = some e := ⟨_, List.getElem?_eq_getElem hmid⟩; obtain ⟨b, o, q1, q2, q3, q4, q5, q6, q7, q8⟩ := kC r he .i64; obtain ⟨h1', f1, f2⟩ := aMd (E := F) e.1 e.2 h; have hc : kE E (.fn (.func 163) [] []) [.agg [.str e.1, ii e.2]] h = some (.str e.1, h1') := by
       show aE E 163 ([] ++ [.agg [.str e.1, ii e.2]] ++ []) h = _; rw [cK hC]; exact f1
     rw [aP, aA, decide_eq_true hlh, aD, bQ (by omega), aA, aTe (by omega) (by omega), aA, q1, aA, q4, aA, hc, aB, aAU, aA]
     have r' := r.grown f2; by_cases hlt : sI e.1 key = true
     · rw [hlt, aD, bQ (by omega), aA]
       have hpm : (low + high) / 2 < dU l key := by
         rcases Nat.lt_or_ge ((low + high) / 2) (dU l key) with h5 | h5
         · exact h5
         · rw [aDY hs h5 he] at hlt; cases hlt
       obtain ⟨h', g1, g2⟩ := ih ((low + high) / 2 + 1) high m h1' r' (by omega) (by omega) h2 h3
       exact ⟨h', g1, f2.trans g2⟩
     · rw [Bool.not_eq_true] at hlt; rw [hlt, aC]; have hpm : dU l key <= (low + high) / 2 := by
         rcases Nat.lt_or_ge ((low + high) / 2) (dU l key) with h5 | h5
         · rw [sV h5 he] at hlt; cases hlt
         · exact h5
       obtain ⟨h', g1, g2⟩ := ih low ((low + high) / 2) m h1' r' (by omega) h1 hpm (by omega)
       exact ⟨h', g1, f2.trans g2⟩
   · exact ih low high (m + 1) h r (by omega) h1 h2 h3 |>.imp λ h' x => by rw [show m + (k + 1 + 1) = m + 1 + (k + 1) from by omega]; exact x
theorem aLd {E F : bG} (hC : E 163 = some (aUt F)) : yV (aXl E) := by
 intro A v l key h r hs hl; obtain ⟨n, e1, e2⟩ := r.len; have hn : n = l.length := by rw [bE] at e1; omega
 subst hn; obtain ⟨h', f1, f2⟩ := aFT (E := E) hC (key := key) hl hs l.length 0 l.length (aT - (l.length + 1)) h r (by omega) (by omega) (sU l key) (Nat.le_refl _)
 rw [show aT - (l.length + 1) + (l.length + 1) = aT from by unfold aT; omega] at f1
 refine ⟨h', ?_, f2⟩; show aJm E v (.str key) (.fn (.func 163) [] []) h = _; unfold aJm; rw [e2, aA]; exact f1
def zG (A : Nat -> Prop) (h : H) (d : Nat) (l : EL) : Prop := ∃ v, bD h d [v] /\ RowE A 2 h v (dY l)
theorem zG.grown {A : Nat -> Prop} {h h' : H} {d : Nat} {l : EL} (r : zG A h d l) (g : aI h h') : zG A h' d l := by
 obtain ⟨v, h1, h2⟩ := r; exact ⟨v, h1.grown g, h2.grown g⟩
def vX (B : cB) : Prop := ∀ (A : Nat -> Prop) (d : Nat) (l : EL) (key : Ln) (h : H), zG A h d l -> gT l -> l.length < 1000000 ->
 ∃ h', B [.ptr d 0, .str key] h = some (.tup [ii ((dU l key)), .bool (eP l key)], h') /\ aI h h'
theorem aOX {E : bG} (hS : bP E 162 yV) : vX (aXz E) := by
 obtain ⟨B, hB, sB⟩ := hS.call; intro A d l key h r hs hl; obtain ⟨v, h1, h2⟩ := r; obtain ⟨h', f1, f2⟩ := sB A v l key h h2 hs hl; refine ⟨h', ?_, f2⟩; show aJB E (.ptr d 0) (.str key) h = _; unfold aJB; rw [dG, aA, aC, bI, aA, aK, aA, h1.read (j := 0 + 0) rfl, aA, hB, f1, aB, aN, aA, aM, aA]
def vR (B : cB) : Prop := ∀ (A : Nat -> Prop) (d : Nat) (l : EL) (key : Ln) (h : H), zG A h d l -> gT l -> l.length < 1000000 ->
 ∃ h', B [.ptr d 0, .str key] h = some (.tup [ii ((jB l key)), ii ((lN l key))], h') /\ aI h h'
theorem aOV {E : bG} (hS : bP E 142 vX) : vR (aXw E) := by
 obtain ⟨B, hB, sB⟩ := hS.call; intro A d l key h r hs hl; obtain ⟨h', f1, f2⟩ := sB A d l key h r hs hl; obtain ⟨v, h1, h2⟩ := r.grown f2; refine ⟨h', ?_, f2⟩; show aJy E (.ptr d 0) (.str key) h = _; unfold aJy; rw [hB, f1, aB, aN, aA, aM, aA, fY, aA]; cases hh : eP l key with
 | false =>
   have e1 : jB l key = 0 := by unfold jB; rw [hh]; rfl
   have e2 : lN l key = 7 := by unfold lN; rw [hh]; rfl
   rw [e1, e2, Bool.not_false, aD]
 | true =>
   obtain ⟨n, g1, g2⟩ := nN hh; have e2 : lN l key = 0 := by unfold lN; rw [hh]; rfl
   obtain ⟨b, o, q1, q2, q3, q4, q5, q6, q7, q8⟩ := kC h2 g1 .i64; rw [g2, e2, Bool.not_true, aC, bI, aA, aK, aA, h1.read (j := 0 + 0) rfl, aA, q1, aA, q6, aA, q8, aA]
def aDp (B : cB) : Prop := ∀ (A : Nat -> Prop) (d : Nat) (l : EL) (h : H), zG A h d l -> B [.ptr d 0] h = some (ii l.length, h)
theorem aUd {E : bG} : aDp (S97 E) := by
 intro A d l h r; obtain ⟨v, h1, h2⟩ := r; obtain ⟨n, e1, e2⟩ := h2.len; have hn : n = l.length := by rw [bE] at e1; omega
 subst hn; show aRP E (.ptr d 0) h = _; unfold aRP; rw [dG, aA, aC, bI, aA, aK, aA, h1.read (j := 0 + 0) rfl, aA, e2, aA]
def rS (B : cB) : Prop := ∀ (A : Nat -> Prop) (v : DV) (l : EL) (key : Ln) (h : H), RowE A 2 h v (dY l) -> l.length < 1000000 -> B [v, .str key] h = some (.tup [ii ((dU l key)), .bool (eP l key)], h)
theorem aIi {E : bG} {A : Nat -> Prop} {v : DV} {l : EL} {key : Ln} {h : H} (r : RowE A 2 h v (dY l)) (hl : l.length < 1000000) :
   ∀ (k i m : Nat), dU l key - i = k -> i <= dU l key -> aBN E v (.str key) (m + (k + 1)) (ii i) h = some (.tup [ii ((dU l key)), .bool (eP l key)], h) := by
 obtain ⟨n, e1, e2⟩ := r.len; have hn : n = l.length := by rw [bE] at e1; omega
 subst hn; have hple := sU l key; have fin : aFa E v (.str key) (ii (dU l key)) h = some (.tup [ii ((dU l key)), .bool (eP l key)], h) := by
   unfold aFa; rw [e2, aA, aP, aA]; by_cases hlt : dU l key < l.length
   · obtain ⟨e, he⟩ : ∃ e, l[dU l key]? = some e := ⟨_, List.getElem?_eq_getElem hlt⟩; obtain ⟨b, o, q1, q2, q3, q4, q5, q6, q7, q8⟩ := kC r he .i64; have hb : eP l key = (e.1 == key) := by unfold eP; rw [he]
     simp only [decide_eq_true hlt, iL, q1, aA, q5, q7, fX, cL, hb]
   · have hb : eP l key = false := by unfold eP; rw [List.getElem?_eq_none (by omega)]
     simp only [decide_eq_false hlt, aBq, fB, cI, aA, hb]
 intro k
 induction k with
 | zero =>
   intro i m hk hi; have : i = dU l key := by omega
   subst this; show aFr E v _ (aBN E v _ m) _ h = _; unfold aFr; rw [e2, aA, aP, aA]; by_cases hlt : dU l key < l.length
   · obtain ⟨e, he⟩ : ∃ e, l[dU l key]? = some e := ⟨_, List.getElem?_eq_getElem hlt⟩; obtain ⟨b, o, q1, q2, q3, q4, q5, q6, q7, q8⟩ := kC r he .i64; simp only [decide_eq_true hlt, iL, q1, aA, q5, q7, aAU, cL, aIq he]; rw [aC]; exact fin
   · simp only [decide_eq_false hlt, aBq, fB, cI, aA]; rw [aC]; exact fin
 | succ k ih =>
   intro i m hk hi; show aFr E v _ (aBN E v _ (m + (k + 1))) _ h = _; unfold aFr; rw [e2, aA, aP, aA]; have hlt : i < l.length := by omega
   obtain ⟨e, he⟩ : ∃ e, l[i]? = some e := ⟨_, List.getElem?_eq_getElem hlt⟩; obtain ⟨b, o, q1, q2, q3, q4, q5, q6, q7, q8⟩ := kC r he .i64; simp only [decide_eq_true hlt, iL, q1, aA, q5, q7, aAU, cL, sV (show i < dU l key by omega) he]
   rw [aD, bQ (by omega), aA]
   exact ih (i + 1) m (by omega) (by omega)
theorem aOk {E : bG} : rS (aXj E) := by
 intro A v l key h r hl; have hple := sU l key; have := aIi (E := E) r (key := key) hl (dU l key) 0 (aT - (dU l key + 1)) (by omega) (by omega)
 rw [show aT - (dU l key + 1) + (dU l key + 1) = aT from by unfold aT; omega] at this
 exact this
def rR (B : cB) : Prop := ∀ (A : Nat -> Prop) (v : DV) (l : EL) (key : Ln) (h : H), RowE A 2 h v (dY l) -> l.length < 1000000 -> B [v, .str key] h = some (.tup [ii ((jB l key)), ii ((lN l key))], h)
theorem aOg {E : bG} (hF : bP E 169 rS) : rR (aXs E) := by
 obtain ⟨B, hB, sB⟩ := hF.call; intro A v l key h r hl; show aJt E v (.str key) h = _; unfold aJt; rw [hB, sB A v l key h r hl, aB, aN, aA, aM, aA, fY, aA]; cases hh : eP l key with
 | false =>
   have e1 : jB l key = 0 := by unfold jB; rw [hh]; rfl
   have e2 : lN l key = 7 := by unfold lN; rw [hh]; rfl
   rw [e1, e2, Bool.not_false, aD]
 | true =>
   obtain ⟨n, g1, g2⟩ := nN hh; have e2 : lN l key = 0 := by unfold lN; rw [hh]; rfl
   obtain ⟨b, o, q1, q2, q3, q4, q5, q6, q7, q8⟩ := kC r g1 .i64; rw [g2, e2, Bool.not_true, aC, q1, aA, q6, aA, q8, aA]
def jQ (h : H) (d : Nat) (l : EL) (fp : Ln) : Prop := ∃ v, bD h d [v] /\ ((v = .nils /\ l = [] /\ fp = [d]) \/ ∃ b cap, v = .slc b 0 l.length cap true /\ fC h b (cap * 2) 2 (dY l) /\ b ≠ d /\ fp = [d, b])
theorem jQ.view {h : H} {d : Nat} {l : EL} {fp : Ln} (r : jQ h d l fp) {A : Nat -> Prop} (hA : ∀ c ∈ fp, A c) : zG A h d l := by
 obtain ⟨v, h1, ⟨rfl, rfl, rfl⟩ | ⟨b, cap, rfl, h2, hne, rfl⟩⟩ := r
 · exact ⟨.nils, h1, RowE.nils⟩
 · refine ⟨_, h1, l.length, bE l, .inr (.inr ⟨b, 0, cap, true, rfl, ?_, hA b (by simp), h2.1, λ j x hj => by rw [Nat.zero_add]; exact h2.rd hj⟩)⟩
   have := h2.2.1; rw [bE] at this; omega
theorem jQ.lt {h : H} {d : Nat} {l : EL} {fp : Ln} (r : jQ h d l fp) : ∀ c ∈ fp, c < h.size := by
 obtain ⟨v, h1, ⟨rfl, rfl, rfl⟩ | ⟨b, cap, rfl, h2, hne, rfl⟩⟩ := r
 · intro c hc; simp at hc; subst hc; exact h1.1
 · intro c hc; simp at hc; rcases hc with rfl | rfl
   · exact h1.1
   · exact h2.1
theorem jQ.off {h h' : H} {d : Nat} {l : EL} {fp : Ln} (r : jQ h d l fp) {F : Nat -> Prop} (g : kH F h h') (hF : ∀ c ∈ fp, ¬ F c) : jQ h' d l fp := by
 obtain ⟨v, h1, h2⟩ := r; have hd : d ∈ fp := by rcases h2 with ⟨_, _, rfl⟩ | ⟨_, _, _, _, _, rfl⟩ <;> simp
 refine ⟨v, ?_, ?_⟩
 · obtain ⟨a1, es, t, a2, a3⟩ := h1; exact ⟨Nat.lt_of_lt_of_le a1 g.size, es, t, by rw [g.get d a1 (hF d hd)]; exact a2, a3⟩
 · rcases h2 with h2 | ⟨b, cap, e, ⟨a1, a2, pl, t, a3, a4⟩, hne, rfl⟩
   · exact .inl h2
   · exact .inr ⟨b, cap, e, ⟨Nat.lt_of_lt_of_le a1 g.size, a2, pl, t, by rw [g.get b a1 (hF b (by simp))]; exact a3, a4⟩, hne, rfl⟩
theorem aGR {R : Type} {y z a b : DV} (ha : a.one = true) (hb : b.one = true) (h : H) (k : DV -> H -> Option R) : fT 1 2 [y, z] [(0, 2, .agg [a, b])] h k = k (.slc h.size 0 1 1 false) (h.push (.blk ⟨2, 2, false, true, Tr.ofL [a, b]⟩)) := by
 have hf : gX (gO [y, z] 1) [(0, 2, .agg [a, b])] = some [a, b] := rfl; simp only [fT, hf, Option.bind_some, H.pushK_eq]
def aDq (B : cB) : Prop := (∀ args h r, aFi 2 args h = some r -> B args h = some r) /\
 ∀ (vb : Nat) (h : H) (N : List DV), rdCells h.get vb 0 2 = some N -> B [.nils, .int .i64 (.ofNat 0), .slc vb 0 1 1 false] h = some (.slc h.size 0 1 1 true, h.push (.blk ⟨2, 2, false, true, Tr.ofL N⟩))
theorem aOC {E : bG} (vb : Nat) (h : H) (N : List DV) (hr : rdCells h.get vb 0 2 = some N) : aIU E [.nils, ii 0, .slc vb 0 1 1 false] h = some (.slc h.size 0 1 1 true, h.push (.blk ⟨2, 2, false, true, Tr.ofL N⟩)) := by
 show aCe E .nils (ii 0) (.slc vb 0 1 1 false) h = _; unfold aCe; have e1 : dO 2 .nils (some (ii 0)) none = some .nils := rfl; have e2 : bX .nils = some (ii 0) := rfl; have ap : cF 2 24 .nils (.slc vb 0 1 1 false) h = some (.slc h.size 0 1 1 true, h.push (.blk ⟨2, 2, false, true, Tr.ofL N⟩)) := by
   rw [eW]; have hs : dT 2 h.get (.slc vb 0 1 1 false) = some N := hr; have s1 : Nat.blt (1 * 24) aU = true := dV (by unfold aU; omega)
   have s2 : Nat.blt 1 aU = true := dV (by unfold aU; omega)
   simp only [fQ, srcLen, hs, Option.bind_some, s1, s2, Bool.and_self, cond_true, H.pushK_eq]; rfl
 rw [e1, aA, oQ, aA, cJ, aA, decide_eq_false (by omega), aC, e2, aA, cJ, aA, decide_eq_true rfl, aD, ap, aB]
def rW (E : bG) : cB := λ args h => Option.rec (motive := λ _ => Option (DV × H)) (aIU E args h) some (aFi 2 args h)
theorem aLO (E : bG) : aDq (rW E) := by
 refine ⟨λ args h r e => by unfold rW; rw [e], λ vb h N hr => ?_⟩
 have e : aFi 2 [.nils, .int .i64 (.ofNat 0), .slc vb 0 1 1 false] h = none := rfl; unfold rW; rw [e]; exact aOC vb h N hr
theorem bEg {B : cB} (hI : aDq B) {h : H} {d : Nat} {l : EL} {fp : Ln} {v : DV} {key : Ln} {n i vb : Nat} (hd : bD h d [v]) (hv : (v = .nils /\ l = [] /\ fp = [d]) \/ ∃ b cap, v = .slc b 0 l.length cap true /\ fC h b (cap * 2) 2 (dY l) /\ b ≠ d /\ fp = [d, b])
   (hi : i <= l.length) (hl : l.length < 1000000) (hvb : vb ∉ fp) (hb : h.get vb = some (.blk ⟨2, 2, false, true, Tr.ofL [DV.str key, .int .i64 (.ofNat n)]⟩)) :
   ∃ w h' c, B [v, .int .i64 (.ofNat i), .slc vb 0 1 1 false] h = some (w, h') /\ w = .slc c 0 (l.length + 1) (l.length + 1) true /\ fC h' c ((l.length + 1) * 2) 2 ((dY l).take (i * 2) ++ [DV.str key, .int .i64 (.ofNat n)] ++ (dY l).drop (i * 2)) /\ h.size <= c /\ kH (λ x => x ∈ fp /\ x ≠ d) h h' := by
 have hN : rdCells h.get vb 0 2 = some [DV.str key, .int .i64 (.ofNat n)] := by
   have c0 : rdCell h.get vb 0 = some (.str key) := by rw [jW hb (by show 0 < 2; omega)]; exact Tr.at_ofL _ _
   have c1 : rdCell h.get vb 1 = some (.int .i64 (.ofNat n)) := by rw [jW hb (by show 1 < 2; omega)]; exact Tr.at_ofL _ _
   simp only [rdCells, c0, c1]
 rcases hv with ⟨rfl, rfl, rfl⟩ | ⟨b, cap, rfl, hP, hne, rfl⟩
 · have hi0 : i = 0 := by simpa using hi
   subst hi0; refine ⟨_, _, h.size, hI.2 vb h _ hN, rfl, ?_, Nat.le_refl _, (aI.push h _).off _⟩; exact fC.pushed (L := [DV.str key, .int .i64 (.ofNat n)])
 · have hcap : l.length <= cap := by have := hP.2.1; rw [bE] at this; omega
   have hL := hP.cells (o := 0) (k := l.length * 2) (by rw [bE]; omega)
   rw [List.drop_zero, List.take_of_length_le (by rw [bE]; omega)] at hL
   obtain ⟨hblt, _, pl, t, hB, _⟩ := hP; have hvb' : vb ≠ b := λ e => hvb (by simp [e])
   have e1 : Nat.beq vb b = false := by rw [Bool.eq_false_iff]; intro hh; exact hvb' (Nat.eq_of_beq_eq_true hh)
   have hF : aFi 2 [.slc b 0 l.length cap true, .int .i64 (.ofNat i), .slc vb 0 1 1 false] h = some (.slc h.size 0 (l.length + 1) (l.length + 1) true, (h.put b .dead).push (.blk ⟨(l.length + 1) * 2, 2, false, false, Tr.ofL ((dY l).take (i * 2) ++ [DV.str key, .int .i64 (.ofNat n)] ++ (dY l).drop (i * 2))⟩)) := by
     simp only [aFi, hB, hb, e1, Nat.beq_refl, Nat.ble_eq_true_of_le hcap, Nat.ble_eq_true_of_le hi, dV hl, Bool.not_false, Bool.and_self, cond_true, hL, Option.bind_some, hN, pE]
     rfl
   refine ⟨_, _, h.size, hI.1 _ _ _ hF, rfl, ?_, Nat.le_refl _, ⟨by simp, λ c hc hf => ?_⟩⟩
   · have := fC.pushed (h := h.put b .dead) (es := 2) (pl := false) (L := (dY l).take (i * 2) ++ [DV.str key, .int .i64 (.ofNat n)] ++ (dY l).drop (i * 2)); have hlen : ((dY l).take (i * 2) ++ [DV.str key, .int .i64 (.ofNat n)] ++ (dY l).drop (i * 2)).length = (l.length + 1) * 2 := by
       simp only [List.length_append, List.length_take, List.length_drop, bE, List.length_cons, List.length_nil]; omega
     rw [hlen] at this; exact this
   · have hcb : c ≠ b := λ e => hf ⟨by simp [e], λ e2 => hne (e ▸ e2)⟩
     rw [H.get_push, if_neg (by simp; omega), H.get_put, if_neg hcb]
def rY (B : cB) : Prop := ∀ (d : Nat) (l : EL) (fp : Ln) (key : Ln) (n : Nat) (h : H), jQ h d l fp -> gT l -> l.length < 100000 -> 1 <= n -> n < 256 -> eH key = true -> eP l key = false ->
 ∃ h' fp', B [.ptr d 0, .str key, ii n] h = some (ii 0, h') /\ jQ h' d (gD l key n) fp' /\ kH (λ x => x ∈ fp) h h' /\ (∀ c ∈ fp', c ∈ fp \/ h.size <= c)
theorem sY {key : Ln} (h : eH key = true) : key.length <= 28 := by
 unfold eH at h; simp only [Bool.and_eq_true, decide_eq_true_eq] at h; exact h.2.1
theorem aUg {E : bG} (hN : bP E 146 jH) (hF : bP E 142 vX) (hI : bP E 147 aDq) : rY (aXZ E) := by
 obtain ⟨B1, b1, s1⟩ := hN.call; obtain ⟨B2, b2, s2⟩ := hF.call; obtain ⟨B3, b3, s3⟩ := hI.call; intro d l fp key n h r hs hl hn1 hn2 hk hh; obtain ⟨h1, f1, g1⟩ := s2 aNo d l key h (r.view λ _ _ => trivial) hs (by omega)
 have r1 : jQ h1 d l fp := r.off (g1.off λ _ => False) λ _ _ hf => hf
 have rlt := r1.lt; obtain ⟨v, hd, hv⟩ := r1; obtain ⟨h2, e2, g2, hb2⟩ : ∃ x, x = h1.push (.blk ⟨2, 2, false, true, Tr.ofL [DV.str key, ii n]⟩) /\ aI h1 x /\ x.get h1.size = some (.blk ⟨2, 2, false, true, Tr.ofL [DV.str key, ii n]⟩) := ⟨_, rfl, aI.push _ _, by rw [H.get_push, if_pos rfl]⟩
 have hd2 := hd.grown g2; have hv2 : (v = .nils /\ l = [] /\ fp = [d]) \/ ∃ b cap, v = .slc b 0 l.length cap true /\ fC h2 b (cap * 2) 2 (dY l) /\ b ≠ d /\ fp = [d, b] := by
   rcases hv with hv | ⟨b, cap, q1, q2, q3, q4⟩
   · exact .inl hv
   · exact .inr ⟨b, cap, q1, q2.grown g2, q3, q4⟩
 obtain ⟨w, h3, c, f3, rfl, p3, c3, o3⟩ := bEg s3 hd2 hv2 (sU l key) (by omega) (λ hm => by have := rlt _ hm; omega) hb2
 have hd3 : bD h3 d [v] := by
   obtain ⟨a1, es, t, a2, a3⟩ := hd2; exact ⟨Nat.lt_of_lt_of_le a1 o3.size, es, t, by rw [o3.get d a1 (λ x => x.2 rfl)]; exact a2, a3⟩
 obtain ⟨h4, f4, p4, k4⟩ := hd3.set (v := .slc c 0 (l.length + 1) (l.length + 1) true) (j := 0) rfl (by simp)
 have hdlt : d < h2.size := hd2.1; have hcd : c ≠ d := by omega
 have hdfp : d ∈ fp := by rcases hv with ⟨_, _, rfl⟩ | ⟨_, _, _, _, _, rfl⟩ <;> simp
 have hsz : h.size <= h2.size := Nat.le_trans g1.size g2.size; refine ⟨h4, [d, c], ?_, ⟨_, p4, .inr ⟨c, l.length + 1, by rw [aCM], ?_, hcd, rfl⟩⟩, ?_, λ x hx => ?_⟩
 · show aKl E (.ptr d 0) (.str key) (ii n) h = _; unfold aKl; have d1 : decide (n < 1) = false := by simp; omega
   have d2 : decide (256 <= n) = false := by simp; omega
   have bld : dL [(.str []), (ii 0)] [(0, 1, .str key), (1, 1, ii n)] = some (.agg [.str key, ii n]) := rfl; have nl := sY hk; have na : B1 [.str key] h = some (.bool true, h) := by rw [s1 key h (by omega), hk]
   rw [hh] at f1; have fa0 : aH 0 (.ptr d 0) = some (.ptr d 0) := by rw [aK]
   simp only [dG, aA, eD, aP, d1, cI, fW, d2]; rw [aC, b1, na, aB, fY, aA, Bool.not_true, aC, b2, f1, aB, aN, aA, aM, aA, aC, bI, aA, fa0, aA, hd.read (j := 0) rfl, aA, bld, aA,
     aGR rfl rfl, <- e2, b3, f3, aB, aA, fa0, aA, f4, aB]
 · have hcb := p3.but hcd k4; rw [<- aHe]; exact hcb
 · have o12 : kH (λ x => x ∈ fp) h h2 := (g1.trans g2).off _
   exact (o12.trans (o3.weak λ x _ hx => hx.1)).trans (k4.off hdfp)
 · simp at hx; rcases hx with rfl | rfl
   · exact .inl hdfp
   · exact .inr (by omega)
def aFm (B : cB) : Prop := ∀ (b cap i : Nat) (l : EL) (h : H), fC h b (cap * 2) 2 (dY l) -> i < l.length -> l.length < 100000 -> ∃ h', B [.slc b 0 l.length cap true, ii i, ii ((i + 1))] h = some (.slc b 0 (l.length - 1) cap true, h') /\ fC h' b (cap * 2) 2 (dY (l.take i ++ l.drop (i + 1))) /\ zJ b h h'
theorem aUf {E : bG} : aFm (aXy E) := by
 intro b cap i l h hP hi hl; have hcap : l.length <= cap := by have := hP.2.1; rw [bE] at this; omega
 have hc0 : 0 < cap := by omega
 show ∃ h', aJA E (.slc b 0 l.length cap true) (ii i) (ii (i + 1)) h = _ /\ _; unfold aJA; have e1 : ∃ x, xS 2 (.slc b 0 l.length cap true) (some (ii i)) (ii (i + 1)) (ii l.length) = some x := by
   simp only [xS, dJ, dHi, dLo]; rw [Nat.ble_eq_true_of_le hcap, cond_true, Nat.ble_eq_true_of_le (show i + 1 <= l.length by omega), cond_true, Nat.ble_eq_true_of_le (show i <= i + 1 by omega), cond_true, dV hi, cond_true]
   simp only [aZ]; exact ⟨_, rfl⟩
 obtain ⟨x, e1⟩ := e1; have hd1 : decide (i = i + 1) = false := by simp
 rw [oQ, aA, e1, aA, cJ, aA, hd1, aC, aA, wC (by omega) hc0, aA]
 have hnew1 : ((dY l).drop ((i + 1) * 2)).all DV.one = true := by rw [mQ]; exact pE _
 have hlen1 : ((dY l).drop ((i + 1) * 2)).length = (l.length - (i + 1)) * 2 := by rw [mQ, bE, List.length_drop]
 have hsrc : ∃ y, dO 2 (.slc b 0 l.length cap true) (some (ii (i + 1))) none = some y /\ srcLen y = some (l.length - (i + 1)) /\ dT 2 h.get y = some ((dY l).drop ((i + 1) * 2)) := by
   have hrow : RowE aNo 2 h (.slc b 0 l.length cap true) (dY l) := ⟨l.length, bE l, .inr (.inr ⟨b, 0, cap, true, rfl, hcap, trivial, hP.1, λ j x hj => by rw [Nat.zero_add]; exact hP.rd hj⟩)⟩
   obtain ⟨y, q1, q2⟩ := hrow.from (i := i + 1) (bE l) (by omega) (by omega) .i64
   obtain ⟨n, q3, q4, q5⟩ := q2.src; have hn : n = l.length - (i + 1) := by omega
   subst hn; exact ⟨y, q1, q4, q5⟩
 obtain ⟨y, q1, q2, q3⟩ := hsrc; rw [q1, aA]; obtain ⟨h1, f1, f2, f3⟩ := hP.store (vs := (dY l).drop ((i + 1) * 2)) (o := i * 2) hnew1 (by rw [bE]; omega) (by have := hP.2.1; rw [bE] at this; omega)
 have hneed : i + (l.length - (i + 1)) = l.length - 1 := by omega
 have ap : cF 2 24 (.slc b 0 i cap true) y h = some (.slc b 0 (l.length - 1) cap true, h1) := by
   rw [eW]; simp only [fQ, q2, q3, Option.bind_some, aZ, hneed, Nat.ble_eq_true_of_le (show l.length - 1 <= cap by omega), cond_true, Nat.zero_add, f1, Option.map_some]
 rw [ap, aB, oQ, aA]; have e2 : dO 2 (.slc b 0 (l.length - 1) cap true) (some (ii (l.length - 1))) (some (ii l.length)) = some (.slc b (0 + (l.length - 1) * 2) (l.length - (l.length - 1)) (cap - (l.length - 1)) true) := by
   simp only [dO, dJ, dHi, dLo]; rw [Nat.ble_eq_true_of_le hcap, cond_true, Nat.ble_eq_true_of_le (show l.length - 1 <= l.length by omega), cond_true, dV (show l.length - 1 < cap by omega), cond_true]
   simp only [aZ]
 rw [e2, aA]; have pre : (dY l).take (i * 2) ++ (dY l).drop ((i + 1) * 2) = dY (l.take i ++ l.drop (i + 1)) := by rw [rH, mQ, nP]
 have prel : (dY (l.take i ++ l.drop (i + 1))).length = (l.length - 1) * 2 := by rw [bE, List.length_append, List.length_take, List.length_drop]; omega
 have hP1 : fC h1 b (cap * 2) 2 (dY (l.take i ++ l.drop (i + 1))) := by
   have := f2.prefix (n := (l.length - 1) * 2); rw [pre, <- prel, List.take_left] at this; exact this
 have hone : l.length - (l.length - 1) = 1 := by omega
 obtain ⟨h2, k1, k2, k3⟩ := hP1.store (vs := gO [(DV.str []), (ii 0)] (l.length - (l.length - 1))) (o := (l.length - 1) * 2) (by rw [hone]; rfl) (by rw [prel]; exact Nat.le_refl _) (by rw [hone, iB]; simp; omega)
 have cl : vD [(.str []), (ii 0)] (.slc b (0 + (l.length - 1) * 2) (l.length - (l.length - 1)) (cap - (l.length - 1)) true) h1 = some (.tup [], h2) := by
   simp only [vD, Nat.zero_add, k1, Option.map_some]
 rw [cl, aB]; refine ⟨h2, rfl, ?_, f3.trans k3⟩; have := k2.prefix (n := (l.length - 1) * 2); rw [List.append_assoc, List.take_append_of_le_length (by rw [List.length_take, prel]; omega), List.take_take, Nat.min_self, List.take_of_length_le (by rw [prel]; exact Nat.le_refl _)] at this
 exact this
def rX (B : cB) : Prop := ∀ (d : Nat) (l : EL) (fp : Ln) (key : Ln) (h : H), jQ h d l fp -> gT l -> l.length < 100000 -> eP l key = true ->
 ∃ h', B [.ptr d 0, .str key] h = some (.tup [ii ((jB l key)), ii 0], h') /\ jQ h' d (fS l key) fp /\ kH (λ x => x ∈ fp) h h'
theorem aUa {E : bG} (hF : bP E 142 vX) (hD : bP E 143 aFm) : rX (S96 E) := by
 obtain ⟨B2, b2, s2⟩ := hF.call; obtain ⟨B3, b3, s3⟩ := hD.call; intro d l fp key h r hs hl hh; obtain ⟨h1, f1, g1⟩ := s2 aNo d l key h (r.view λ _ _ => trivial) hs (by omega)
 have r1 : jQ h1 d l fp := r.off (g1.off λ _ => False) λ _ _ hf => hf
 obtain ⟨v', hd', hrow⟩ := r1.view (A := aNo) λ _ _ => trivial
 obtain ⟨n, q1, q2⟩ := nN hh; have hpl : dU l key < l.length := (List.getElem?_eq_some_iff.1 q1).1; obtain ⟨v, hd, hv⟩ := r1; have hvv : v' = v := by
   have a := hd'.read (j := 0) rfl; rw [hd.read (j := 0) rfl] at a; exact (Option.some.inj a).symm
 subst hvv; rcases hv with ⟨rfl, rfl, rfl⟩ | ⟨b, cap, rfl, hP, hne, rfl⟩
 · simp at hpl
 · obtain ⟨bb, o, i1, i2, i3, i4, i5, i6, i7, i8⟩ := kC hrow q1 .i64; obtain ⟨h2, f2, p2, k2⟩ := s3 b cap (dU l key) l h1 hP hpl hl; have hd2 := hd.but (Ne.symm hne) k2; obtain ⟨h3, f3, p3, k3⟩ := hd2.set (v := .slc b 0 (l.length - 1) cap true) (j := 0) rfl (by simp)
   have hp2 := p2.but hne k3; have hrl : (fS l key).length = l.length - 1 := by unfold fS; rw [List.length_append, List.length_take, List.length_drop]; omega
   refine ⟨h3, ?_, ⟨_, p3, .inr ⟨b, cap, by rw [hrl], hp2, hne, rfl⟩⟩, ?_⟩
   · show aRQ E (.ptr d 0) (.str key) h = _; unfold aRQ; rw [hh] at f1; have fa0 : aH 0 (.ptr d 0) = some (.ptr d 0) := by rw [aK]
     rw [dG, aA, aC, b2, f1, aB, aN, aA, aM, aA, fY, aA, Bool.not_true, aC, bI, aA, fa0, aA, hd.read (j := 0) rfl, aA, i1, aA, i6, aA, i8, aA,
       aA, fa0, aA, hd.read (j := 0) rfl, aA, fN (by omega), aA, b3, f2, aB, aA, fa0, aA, f3, aB, q2]
   · exact (((g1.off _).trans (k2.off (by simp))).trans (k3.off (by simp)))
theorem aQt {n : Int} (h1 : -9223372036854775808 <= n) (h2 : n < 9223372036854775808) : zz n < 18446744073709551616 := by
 cases n with
 | ofNat a => show 2 * a < _; simp only [Int.ofNat_eq_natCast] at h2; omega
 | negSucc a => show 2 * a + 1 < _; omega
def tV : Nat -> Nat -> Ln
 | 0, u => [u]
 | k + 1, u => if u < 128 then [u] else (u % 128 + 128) :: tV k (u / 128)
theorem aDa : ∀ (k u : Nat), u < 2 ^ (7 * k + 1) -> bA (tV k u) = true
 | 0, u, h => by simp only [tV, bA, Bool.and_true, Nat.blt_eq]; simp at h; omega
 | k + 1, u, h => by
   rw [tV]; split
   · rename_i h1; simp only [bA, Bool.and_true, Nat.blt_eq]; omega
   · simp only [bA, Bool.and_eq_true, Nat.blt_eq]; refine ⟨by omega, aDa k (u / 128) ?_⟩
     have : (2 : Nat) ^ (7 * (k + 1) + 1) = 128 * 2 ^ (7 * k + 1) := by
       rw [show 7 * (k + 1) + 1 = 7 + (7 * k + 1) from by omega, Nat.pow_add]
     rw [this] at h; exact Nat.div_lt_of_lt_mul h
theorem aKD : ∀ (k u : Nat), 1 <= (tV k u).length /\ (tV k u).length <= k + 1
 | 0, u => by simp [tV]
 | k + 1, u => by
   rw [tV]; split
   · simp
   · have := aKD k (u / 128); simp only [List.length_cons]; omega
def fU (n : Int) : Ln := tV 9 (zz n)
def kQ (s : Ln) : Ln := fU (.ofNat s.length) ++ s
def gW (n : Int) : Prop := -9223372036854775808 <= n /\ n < 9223372036854775808
theorem nA {n : Int} (h : gW n) : bA (fU n) = true := aDa 9 _ (by have := aQt h.1 h.2; simpa using this)
theorem dQ (n : Int) : 1 <= (fU n).length /\ (fU n).length <= 10 := aKD 9 _
theorem aDH {s : Ln} (hs : bA s = true) (hl : s.length < 9223372036854775808) : bA (kQ s) = true :=
 cM (nA ⟨by simp only [Int.ofNat_eq_natCast]; omega, by simp only [Int.ofNat_eq_natCast]; omega⟩) hs
structure tM where
 kind : Int
 at_ : Int
 n : Int
 path : Ln
 other : Ln
 text : Ln
 deriving DecidableEq
def tM.ok (o : tM) : Prop := gW o.kind /\ gW o.at_ /\ gW o.n /\ bA o.path = true /\ bA o.other = true /\ bA o.text = true
def qR (o : tM) : List DV := [.int .i64 o.kind, .int .i64 o.at_, .int .i64 o.n, .str o.path, .str o.other, .str o.text]
def op0 : tM := ⟨0, 0, 0, [], [], []⟩
def tU (o : tM) : Nat := if o.kind < 1 \/ 11 < o.kind then 1 else if 255 < o.path.length \/ 255 < o.other.length \/ 512 < o.text.length then 2 else 0
theorem aEd {E : bG} {n0 : Nat} : ∀ (k m u : Nat) (s : Ln) (v : DV) (h : H), u < 2 ^ (7 * k + 1) -> k <= 9 -> s.length + k <= 1000000 -> n0 <= h.size -> aSY n0 h v (bR s) -> (∀ b o n c op, v = .slc b o n c op -> b < h.size) ->
   ∃ v' h', aCb E (m + (k + 1)) v (.int .u64 (.ofNat u)) h = some (v', h') /\ cE n0 h' v' (bR (s ++ tV k u)) /\ cD n0 h h' := by
 intro k
 induction k with
 | zero =>
   intro m u s v h hu hk9 hs hn ho hlt; simp at hu; show ∃ v' h', aFJ E (aCb E m) _ _ h = _ /\ _; unfold aFJ; have d : decide (128 <= u) = false := by simp; omega
   obtain ⟨v1, h1, g1, g2, g3⟩ := ho.push1 (x := eS (u % 256)) (z := eS 0) (bytes := 1) hlt hn rfl (by rw [bW]; unfold aU; omega) (by rw [bW]; unfold aU; omega)
   refine ⟨v1, h1, ?_, ?_, g3⟩
   · rw [fW, aA, d, aC]; unfold aFf; rw [qJ, aA, show (DV.int .u8 (.ofNat (u % 256))) = eS (u % 256) from rfl, show (DV.int .u8 (.ofNat 0)) = eS 0 from rfl, g1]
   · rw [tV, eI]; have : u % 256 = u := by omega
     rw [this] at g2; exact g2
 | succ k ih =>
   intro m u s v h hu hk9 hs hn ho hlt; show ∃ v' h', aFJ E (aCb E (m + (k + 1))) _ _ h = _ /\ _; unfold aFJ; rw [tV]; by_cases h128 : u < 128
   · have d : decide (128 <= u) = false := by simp; omega
     obtain ⟨v1, h1, g1, g2, g3⟩ := ho.push1 (x := eS (u % 256)) (z := eS 0) (bytes := 1) hlt hn rfl (by rw [bW]; unfold aU; omega) (by rw [bW]; unfold aU; omega)
     refine ⟨v1, h1, ?_, ?_, g3⟩
     · rw [fW, aA, d, aC]; unfold aFf; rw [qJ, aA, show (DV.int .u8 (.ofNat (u % 256))) = eS (u % 256) from rfl, show (DV.int .u8 (.ofNat 0)) = eS 0 from rfl, g1]
     · rw [if_pos h128, eI]; have : u % 256 = u := by omega
       rw [this] at g2; exact g2
   · have d : decide (128 <= u) = true := by simp; omega
     have h2 : (2 : Nat) ^ (7 * (k + 1) + 1) = 128 * 2 ^ (7 * k + 1) := by
       rw [show 7 * (k + 1) + 1 = 7 + (7 * k + 1) from by omega, Nat.pow_add]
     rw [h2] at hu; obtain ⟨v1, h1, g1, g2, g3⟩ := ho.push1 (x := eS (u % 128 + 128)) (z := eS 0) (bytes := 1) hlt hn rfl (by rw [bW]; unfold aU; omega) (by rw [bW]; unfold aU; omega)
     have g2' : cE n0 h1 v1 (bR (s ++ [u % 128 + 128])) := by rw [eI]; exact g2
     obtain ⟨v2, h3, k1, k2, k3⟩ := ih m (u / 128) (s ++ [u % 128 + 128]) v1 h1 (Nat.div_lt_of_lt_mul hu) (by omega) (by simp; omega) (Nat.le_trans hn g3.size) (.inl g2') g2'.lt_size
     have h64 : u < 18446744073709551616 := by
       have : (2 : Nat) ^ (7 * k + 1) <= 2 ^ 57 := Nat.pow_le_pow_right (by omega) (by omega)
       have e57 : (2 : Nat) ^ 57 = 144115188075855872 := by decide
       omega
     refine ⟨v2, h3, ?_, ?_, g3.trans k3⟩
     · rw [fW, aA, d, aD, qJ, aA, aQz (by omega), aA]
       rw [show u % 256 % 128 + 128 = u % 128 + 128 from by omega, show (DV.int .u8 (.ofNat 0)) = eS 0 from rfl, g1, aHW _ _ (by decide), aA]
       exact k1
     · rw [if_neg h128]
       simpa using k2
def aAL (B : cB) : Prop := ∀ (v : DV) (s : Ln) (n : Int) (h : H), aKt h v (bR s) -> s.length <= 100000 -> gW n -> ∃ v' h', B [v, .int .i64 n] h = some (v', h') /\ cE h.size h' v' (bR (s ++ fU n)) /\ cD h.size h h'
theorem aVF {E : bG} : aAL (aPg E) := by
 intro v s n h hc hs hn; have hz := aQt hn.1 hn.2; obtain ⟨v', h', a1, a2, a3⟩ := aEd (E := E) (n0 := h.size) 9 (aT - 10) (zz n) s v h (by simpa using hz) (Nat.le_refl _) (by omega) (Nat.le_refl _) hc.1 hc.2
 rw [show aT - 10 + (9 + 1) = aT from by unfold aT; omega] at a1
 refine ⟨v', h', ?_, a2, a3⟩; obtain ⟨x, y, z, e1, e2, e3, w, e4, e5⟩ := aUH hn.1 hn.2; show aCg E v (.int .i64 n) h = _; unfold aCg; rw [e1, aA, e2, aA, e3, aA, e4, aA, e5, aA]; exact a1
def aIS (B : cB) : Prop := ∀ (v : DV) (s t : Ln) (h : H), aKt h v (bR s) -> s.length <= 100000 -> t.length <= 100000 -> ∃ v' h', B [v, .str t] h = some (v', h') /\ cE h.size h' v' (bR (s ++ kQ t)) /\ cD h.size h h'
theorem fK {n : Nat} (h : n < 9223372036854775808) : gW (.ofNat n) := ⟨by simp only [Int.ofNat_eq_natCast]; omega, by simp only [Int.ofNat_eq_natCast]; omega⟩
theorem aUR {E : bG} (hN : bP E 106 aAL) : aIS (aPf E) := by
 obtain ⟨B, hB, sB⟩ := hN.call; intro v s t h hc hs ht; obtain ⟨v1, h1, f1, f2, f3⟩ := sB v s (.ofNat t.length) h hc hs (fK (by omega))
 have hl := (dQ (.ofNat t.length)).2; obtain ⟨v2, h2, g1, g2, g3⟩ := f2.appendStr f3.size t (by rw [List.length_append]; omega)
 refine ⟨v2, h2, ?_, ?_, f3.trans g3⟩
 · show aCf E v (.str t) h = _; unfold aCf; rw [aY, aA, hB, f1, aB, g1, aB]
 · unfold kQ; rw [<- List.append_assoc]; exact g2
theorem aLo {E : bG} {n0 : Nat} : ∀ (k m u : Nat) (s : Ln) (v : DV) (h : H), u < 2 ^ (7 * k + 1) -> k <= 9 -> s.length + k <= 1000000 -> bA s = true -> n0 <= h.size -> cE n0 h v (bR s) ->
   ∃ h', aHx E (m + (k + 1)) (.int .u64 (.ofNat u)) v h = some (.str (s ++ tV k u), h') /\ cD n0 h h' := by
 intro k
 induction k with
 | zero =>
   intro m u s v h hu hk9 hs hok hn ho; have hu' : u < 2 := by simpa using hu
   show ∃ h', aNi E (aHx E m) _ _ h = _ /\ _; unfold aNi; have d : decide (128 <= u) = false := by simp; omega
   obtain ⟨v1, h1, g1, g2, g3⟩ := ho.push1 (x := eS (u % 256)) (z := eS 0) (bytes := 1) hn rfl (by rw [bW]; unfold aU; omega) (by rw [bW]; unfold aU; omega)
   have hb : cE n0 h1 v1 (bR (s ++ tV 0 u)) := by
     rw [tV, eI]; have : u % 256 = u := by omega
     rw [this] at g2; exact g2
   refine ⟨h1, ?_, g3⟩; rw [fW, aA, d, aC]; unfold aMS; rw [qJ, aA, show (DV.int .u8 (.ofNat (u % 256))) = eS (u % 256) from rfl, show (DV.int .u8 (.ofNat 0)) = eS 0 from rfl, g1, hb.text (cM hok (aDa 0 u hu)), aA]
 | succ k ih =>
   intro m u s v h hu hk9 hs hok hn ho; have hu0 := hu; show ∃ h', aNi E (aHx E (m + (k + 1))) _ _ h = _ /\ _; unfold aNi; by_cases h128 : u < 128
   · have d : decide (128 <= u) = false := by simp; omega
     obtain ⟨v1, h1, g1, g2, g3⟩ := ho.push1 (x := eS (u % 256)) (z := eS 0) (bytes := 1) hn rfl (by rw [bW]; unfold aU; omega) (by rw [bW]; unfold aU; omega)
     have hb : cE n0 h1 v1 (bR (s ++ tV (k + 1) u)) := by
       rw [tV, if_pos h128, eI]; have : u % 256 = u := by omega
       rw [this] at g2; exact g2
     refine ⟨h1, ?_, g3⟩; rw [fW, aA, d, aC]; unfold aMS; rw [qJ, aA, show (DV.int .u8 (.ofNat (u % 256))) = eS (u % 256) from rfl, show (DV.int .u8 (.ofNat 0)) = eS 0 from rfl, g1, hb.text (cM hok (aDa (k + 1) u hu0)), aA]
   · have d : decide (128 <= u) = true := by simp; omega
     have h2 : (2 : Nat) ^ (7 * (k + 1) + 1) = 128 * 2 ^ (7 * k + 1) := by
       rw [show 7 * (k + 1) + 1 = 7 + (7 * k + 1) from by omega, Nat.pow_add]
     rw [h2] at hu; have h64 : u < 18446744073709551616 := by
       have : (2 : Nat) ^ (7 * k + 1) <= 2 ^ 57 := Nat.pow_le_pow_right (by omega) (by omega)
       have e57 : (2 : Nat) ^ 57 = 144115188075855872 := by decide
       omega
     obtain ⟨v1, h1, g1, g2, g3⟩ := ho.push1 (x := eS (u % 128 + 128)) (z := eS 0) (bytes := 1) hn rfl (by rw [bW]; unfold aU; omega) (by rw [bW]; unfold aU; omega)
     have g2' : cE n0 h1 v1 (bR (s ++ [u % 128 + 128])) := by rw [eI]; exact g2
     obtain ⟨h3, k1, k3⟩ := ih m (u / 128) (s ++ [u % 128 + 128]) v1 h1 (Nat.div_lt_of_lt_mul hu) (by omega) (by simp; omega) (cM hok (by simp only [bA, Bool.and_true, Nat.blt_eq]; omega)) (Nat.le_trans hn g3.size) g2'
     refine ⟨h3, ?_, g3.trans k3⟩; rw [fW, aA, d, aD, aUP h64, aA, qJ, aA, aQz (by omega), aA]
     rw [show u % 128 % 256 % 128 + 128 = u % 128 + 128 from by omega, show (DV.int .u8 (.ofNat 0)) = eS 0 from rfl, g1, aHW _ _ (by decide), aA, tV, if_neg h128]
     rw [List.append_assoc] at k1; exact k1
def mE (B : cB) : Prop := ∀ (n : Int) (h : H), gW n -> ∃ h', B [.int .i64 n] h = some (.str (fU n), h') /\ aI h h'
theorem aTD {E : bG} : mE (S53 E) := by
 intro n h hn; have hz := aQt hn.1 hn.2; obtain ⟨h', a1, a3⟩ := aLo (E := E) (n0 := h.size) 9 (aT - 10) (zz n) [] .nils h (by simpa using hz) (Nat.le_refl _) (by simp) rfl (Nat.le_refl _) (cE.nil _ _)
 rw [show aT - 10 + (9 + 1) = aT from by unfold aT; omega, List.nil_append] at a1
 refine ⟨h', ?_, a3.grown⟩; obtain ⟨x, y, e1, e2, e3, e4⟩ := aZh hn.1 hn.2; show aSu E (.int .i64 n) h = _; unfold aSu; rw [e1, aA, e2, aA, eX, aA]; by_cases h0 : n < 0
 · rw [decide_eq_true (show n < Int.ofNat 0 from h0), aD, e4 h0, aA]
   exact a1
 · rw [decide_eq_false (show ¬ n < Int.ofNat 0 from h0), aC, e3 (by omega)]
   exact a1
def lR (B : cB) : Prop := ∀ (s : Ln) (h : H), s.length <= 100000 -> ∃ h', B [.str s] h = some (.str (kQ s), h') /\ aI h h'
theorem aNX {E : bG} (hI : bP E 53 mE) : lR (S54 E) := by
 obtain ⟨B, hB, sB⟩ := hI.call; intro s h hs; obtain ⟨h', f1, f2⟩ := sB (.ofNat s.length) h (fK (by omega))
 have hl := (dQ (.ofNat s.length)).2; refine ⟨h', ?_, f2⟩; show aSt E (.str s) h = _; unfold aSt; rw [aY, aA, hB, f1, aB, eY (by unfold fJ; omega), aA]; rfl
def mC (h : H) (b : Nat) (s : Ln) : Prop := ∃ v, bD h b [ii 65536, v, ii 0] /\ cE (b + 1) h v (bR s)
theorem aMF {n0 b : Nat} {h h' : H} {v : DV} {L : List DV} (o : cE n0 h v L) (hb : b < n0) (k : zJ b h h') : cE n0 h' v L := by
 rcases o with o | ⟨c, hc, e, hcell⟩
 · exact .inl o
 · exact .inr ⟨c, hc, e, hcell.but (by omega) k⟩
theorem bAv {n0 : Nat} {h : H} {v : DV} {L : List DV} (o : cE n0 h v L) : ∃ c, xS 1 v none (ii L.length) (ii L.length) = some c /\ aKt h c L := by
 rcases o with ⟨rfl, rfl⟩ | ⟨b, _, rfl, hb⟩
 · exact ⟨.nils, rfl, .inl (cE.nil _ _), λ b o n c op e => by cases e⟩
 · have hlt := hb.1; obtain ⟨_, pl, t, g1, g2⟩ := id hb; by_cases hL : 0 < L.length
   · refine ⟨.slc b 0 L.length L.length false, ?_, .inr ⟨b, 0, _, rfl, g1, λ j x hj => by rw [Nat.zero_add]; exact hb.rd hj⟩, λ b' o n c op e => by cases e; exact hlt⟩
     simp only [xS, dJ, dHi, dLo]; rw [Nat.ble_eq_true_of_le (Nat.le_refl _), cond_true, cond_true, Nat.ble_eq_true_of_le (Nat.zero_le _), cond_true, dV hL, cond_true]; simp [aZ]
   · have h0 : L.length = 0 := by omega
     have hn : L = [] := List.eq_nil_of_length_eq_zero h0; subst hn; exact ⟨.slc b 0 0 0 false, rfl, .inr ⟨b, 0, _, rfl, g1, λ j x hj => by cases hj⟩, λ b' o n c op e => by cases e; exact hlt⟩
theorem aLD {h h' : H} {b : Nat} {s : Ln} (q : kH (λ c => c = b) h h') (w : mC h b s) : cD b h h' := by
 obtain ⟨v, ho, _⟩ := w; exact ⟨q.size, λ c hc => q.get c (Nat.lt_trans hc ho.1) (by intro e; subst e; exact absurd hc (Nat.lt_irrefl _))⟩
def bQb (E : bG) (f : DV) (h : H) (s new : Ln) : Prop := ∀ c, aKt h c (bR s) -> ∃ v' h', kE E f [c] h = some (v', h') /\ cE h.size h' v' (bR (s ++ new)) /\ cD h.size h h'
theorem aDe {E : bG} {b : Nat} {s new : Ln} {f : DV} {h : H} (hw : mC h b s) (hf : bQb E f h s new) (hl : s.length + new.length <= 65536) :
   ∃ h', aMN E [.ptr b 0, f] h = some (.tup [], h') /\ mC h' b (s ++ new) /\ kH (λ c => c = b) h h' := by
 obtain ⟨v, ho, hv⟩ := hw; obtain ⟨c, hc1, hc2⟩ := bAv hv; obtain ⟨v', h1, f1, f2, f3⟩ := hf c hc2; have ho1 := ho.grown f3.grown; obtain ⟨h2, g1, g2, g3⟩ := ho1.set (v := v') (j := 1) (by rcases f2 with ⟨rfl, _⟩ | ⟨_, _, rfl, _⟩ <;> rfl) (by simp)
 have hb := ho.1; refine ⟨h2, ?_, ⟨v', g2, aMF (f2.mono (by omega)) (by omega) g3⟩, (f3.grown.off _).trans (g3.off rfl)⟩
 show aKj E (.ptr b 0) f h = _; unfold aKj; have fa : ∀ k, aH k (.ptr b 0) = some (.ptr b k) := λ k => by rw [aK, Nat.zero_add]
 have d1 : decide (65536 < (bR (s ++ new)).length) = false := by rw [bW, List.length_append]; simp; omega
 simp only [dG, aA, eD, bI, fa, ho.read (j := 2) rfl, bL, decide_true, Bool.not_true, cI]; rw [aC]; simp only [bI, aA, fa, ho.read (j := 1) rfl, hv.len, hc1, f1, aB, f2.len, ho1.read (j := 0) rfl, dC, d1]; rw [aC]; simp only [bI, aA, fa, g1, aB]
theorem zN {h : H} {b : Nat} {s : Ln} (hw : mC h b s) (o : iN) : mC (h.push o) b s := by
 obtain ⟨v, ho, hv⟩ := hw; exact ⟨v, ho.grown (aI.push h o), hv.keep (cD.push (Nat.le_refl _) o) (Nat.le_refl _)⟩
theorem aHC {h h' : H} {b : Nat} {s : Ln} (hw : mC h b s) (k : cD h.size h h') : mC h' b s := by
 obtain ⟨v, ho, hv⟩ := hw; exact ⟨v, ho.grown k.grown, hv.keep k (Nat.le_refl _)⟩
def lB (B : cB) : Prop := ∀ (b : Nat) (s : Ln) (n : Int) (h : H), mC h b s -> gW n -> s.length + 10 <= 65536 -> ∃ h', B [.ptr b 0, .int .i64 n] h = some (.tup [], h') /\ mC h' b (s ++ fU n) /\ kH (λ c => c = b) h h'
theorem aSZ {E F G : bG} (h1 : E 103 = some (aMN F)) (h2 : F 105 = some (bCe G)) (hN : bP G 106 aAL) : lB (S50 E) := by
 obtain ⟨B, hB, sB⟩ := hN.call; intro b s n h hw hn hs; have hbox : bD (h.push (.blk ⟨1, 1, false, true, Tr.ofL [.int .i64 n]⟩)) h.size [.int .i64 n] := bD.pushed (L := [.int .i64 n]); have hl := (dQ n).2; have hb : b < h.size := by obtain ⟨v, ho, _⟩ := hw; exact ho.1
 obtain ⟨h', f1, f2, f3⟩ := aDe (E := F) (b := b) (s := s) (new := fU n) (f := .fn (.func 105) [] [.ptr h.size 0]) (zN hw (.blk ⟨1, 1, false, true, Tr.ofL [.int .i64 n]⟩)) (by
   intro c hc; obtain ⟨v', h', a1, a2, a3⟩ := sB c s n _ hc (by omega) hn
   refine ⟨v', h', ?_, a2, a3⟩; show aE F 105 ([] ++ [c] ++ [.ptr h.size 0]) _ = _; rw [cK h2]; show aKh G c (.ptr h.size 0) _ = _; unfold aKh; rw [hbox.read (j := 0) rfl, aA, hB, a1, aB]) (by omega)
 refine ⟨h', ?_, f2, ((aI.push h _).off _).trans f3⟩; show aSx E (.ptr b 0) (.int .i64 n) h = _; unfold aSx; rw [oN rfl, cK h1, f1, aB]
def mS (B : cB) : Prop := ∀ (b : Nat) (s t : Ln) (h : H), mC h b s -> s.length + t.length + 10 <= 65536 -> ∃ h', B [.ptr b 0, .str t] h = some (.tup [], h') /\ mC h' b (s ++ kQ t) /\ kH (λ c => c = b) h h'
theorem aNu {E F G : bG} (h1 : E 103 = some (aMN F)) (h2 : F 107 = some (bCb G)) (hN : bP G 108 aIS) : mS (S51 E) := by
 obtain ⟨B, hB, sB⟩ := hN.call; intro b s t h hw hs; have hbox : bD (h.push (.blk ⟨1, 1, false, true, Tr.ofL [.str t]⟩)) h.size [.str t] := bD.pushed (L := [.str t]); have hl := (dQ (.ofNat t.length)).2; have hb : b < h.size := by obtain ⟨v, ho, _⟩ := hw; exact ho.1
 obtain ⟨h', f1, f2, f3⟩ := aDe (E := F) (b := b) (s := s) (new := kQ t) (f := .fn (.func 107) [] [.ptr h.size 0]) (zN hw (.blk ⟨1, 1, false, true, Tr.ofL [.str t]⟩)) (by
   intro c hc; obtain ⟨v', h', a1, a2, a3⟩ := sB c s t _ hc (by omega) (by omega)
   refine ⟨v', h', ?_, a2, a3⟩; show aE F 107 ([] ++ [c] ++ [.ptr h.size 0]) _ = _; rw [cK h2]; show aKg G c (.ptr h.size 0) _ = _; unfold aKg; rw [hbox.read (j := 0) rfl, aA, hB, a1, aB]) (by unfold kQ; rw [List.length_append]; omega)
 refine ⟨h', ?_, f2, ((aI.push h _).off _).trans f3⟩; show aSw E (.ptr b 0) (.str t) h = _; unfold aSw; rw [oN rfl, cK h1, f1, aB]
def rL (B : cB) : Prop := ∀ (b : Nat) (s : Ln) (n : Nat) (h : H), mC h b s -> n < 256 -> s.length + 1 <= 65536 -> ∃ h', B [.ptr b 0, ii n] h = some (.tup [], h') /\ mC h' b (s ++ [n]) /\ kH (λ c => c = b) h h'
theorem aNy {E F G : bG} (h1 : E 103 = some (aMN F)) (h2 : F 104 = some (bCg G)) : rL (S49 E) := by
 intro b s n h hw hn hs; have hbox : bD (h.push (.blk ⟨1, 1, false, true, Tr.ofL [ii n]⟩)) h.size [ii n] := bD.pushed (L := [ii n]); have hb : b < h.size := by obtain ⟨v, ho, _⟩ := hw; exact ho.1
 have hw1 := zN hw (.blk ⟨1, 1, false, true, Tr.ofL [ii n]⟩); obtain ⟨h', f1, f2, f3⟩ := aDe (E := F) (b := b) (s := s) (new := [n]) (f := .fn (.func 104) [] [.ptr h.size 0]) hw1 (by
   intro c hc; obtain ⟨v1, h3, g1, g2, g3⟩ := hc.1.push1 (x := eS n) (z := eS 0) (bytes := 1) hc.2 (Nat.le_refl _) rfl (by rw [bW]; unfold aU; omega) (by rw [bW]; unfold aU; omega)
   refine ⟨v1, h3, ?_, by rw [eI]; exact g2, g3⟩
   show aE F 104 ([] ++ [c] ++ [.ptr h.size 0]) _ = _; rw [cK h2]; show aKi G c (.ptr h.size 0) _ = _; unfold aKi; rw [hbox.read (j := 0) rfl, aA, qJ, aA, Nat.mod_eq_of_lt hn, show (DV.int .u8 (.ofNat n)) = eS n from rfl, show (DV.int .u8 (.ofNat 0)) = eS 0 from rfl, g1]) (by simpa using hs)
 refine ⟨h', ?_, f2, ((aI.push h _).off _).trans f3⟩; show aSz E (.ptr b 0) (ii n) h = _; unfold aSz; obtain ⟨v, ho, hv⟩ := hw1; have fa : ∀ k, aH k (.ptr b 0) = some (.ptr b k) := λ k => by rw [aK, Nat.zero_add]
 have d1 : decide (n < 0) = false := by simp
 have d2 : decide (255 < n) = false := by simp; omega
 rw [oN rfl]; simp only [uE, aA, iL, bI, fa, ho.read (j := 2) rfl, cJ, decide_true, cL, hbox.read (j := 0) rfl, aP, d1, eD, dC, d2, cI]; rw [aC]; unfold aSy; rw [cK h1, f1, aB]
def jJ (B : cB) : Prop := ∀ (b : Nat) (s : Ln) (h : H), mC h b s -> bA s = true -> B [.ptr b 0] h = some (.tup [.str s, ii 0], h)
theorem aNx {E : bG} : jJ (S52 E) := by
 intro b s h hw hok; obtain ⟨v, ho, hv⟩ := hw; show aSv E (.ptr b 0) h = _; unfold aSv; have fa : ∀ k, aH k (.ptr b 0) = some (.ptr b k) := λ k => by rw [aK, Nat.zero_add]
 rw [dG, aA, aC]; simp only [bI, aA, fa, ho.read (j := 2) rfl, bL, decide_true, Bool.not_true]; rw [aC]; simp only [bI, aA, fa, ho.read (j := 1) rfl, hv.text hok]
def nS (B : cB) : Prop := ∀ (h : H), ∃ h', B [ii 65536] h = some (.ptr h.size 0, h') /\ mC h' h.size [] /\ aI h h'
theorem aTN {E : bG} : nS (S48 E) := by
 intro h; have hb : dL [(ii 0), .nils, (ii 0)] [(0, 1, ii 65536)] = some (.agg [ii 65536, .nils, ii 0]) := rfl; refine ⟨h.push (.blk ⟨3, 3, false, true, Tr.ofL [ii 65536, .nils, ii 0]⟩), ?_, ⟨.nils, bD.pushed (L := [ii 65536, .nils, ii 0]), cE.nil _ _⟩, aI.push h _⟩; show aSA E (ii 65536) h = _; unfold aSA; rw [aDw, aA, oP, aA]; rw [show min (max 65536 0) 65536 = 65536 from rfl, hb, aA, iK]; rfl
def xK (B : cB) : Prop := ∀ (o : tM) (h : H), ∃ h', B [.agg (qR o)] h = some (ii ((tU o)), h') /\ aI h h'
theorem aMy {E : bG} : xK (S17 E) := by
 intro o h; have ho : bD (h.push (.blk ⟨(qR o).length, (qR o).length, false, true, Tr.ofL (qR o)⟩)) h.size (qR o) := bD.pushed; refine ⟨h.push (.blk ⟨(qR o).length, (qR o).length, false, true, Tr.ofL (qR o)⟩), ?_, aI.push h _⟩; show aSV E (.agg (qR o)) h = _; unfold aSV; have fa : ∀ k, aH k (.ptr h.size 0) = some (.ptr h.size k) := λ k => by rw [aK, Nat.zero_add]
 rw [iK]; simp only [fa, aA, ho.read (j := 0) rfl, eX]; unfold tU; by_cases c1 : o.kind < 1
 · simp only [decide_eq_true (show o.kind < Int.ofNat 1 from c1), gG, fB, cL, aA]
   rw [aD, if_pos (.inl c1)]
 · simp only [decide_eq_false (show ¬ o.kind < Int.ofNat 1 from c1), eD, fa, aA, ho.read (j := 0) rfl, wF, cI]
   by_cases c2 : 11 < o.kind
   · rw [decide_eq_true (show Int.ofNat 11 < o.kind from c2), aD, if_pos (.inr c2)]
   · rw [decide_eq_false (show ¬ Int.ofNat 11 < o.kind from c2), aC, if_neg (by omega)]
     simp only [fa, aA, ho.read (j := 3) rfl, aY, dC]; by_cases c3 : 255 < o.path.length
     · simp only [decide_eq_true c3, gG, fB, cL, aA]; rw [aD, if_pos (.inl c3)]
     · simp only [decide_eq_false c3, eD, fa, aA, ho.read (j := 4) rfl, aY, dC, cI]; by_cases c4 : 255 < o.other.length
       · simp only [decide_eq_true c4, gG, fB, cL, aA]; rw [aD, if_pos (.inr (.inl c4))]
       · simp only [decide_eq_false c4, eD, fa, aA, ho.read (j := 5) rfl, aY, dC, cI]; by_cases c5 : 512 < o.text.length
         · rw [decide_eq_true c5, aD, if_pos (.inr (.inr c5))]
         · rw [decide_eq_false c5, aC, if_neg (by omega)]
theorem aTG {E : bG} : xK (S18 E) := by
 intro o h; have : S18 E [.agg (qR o)] h = S17 E [.agg (qR o)] h := by kernel_rfl
 rw [this]; exact aMy (E := E) o h
def aEW (B : cB) : Prop := ∀ (d : Nat) (l : EL) (h : H), zG (λ c => c < h.size) h d l -> l.length < 100000 -> ∃ v h', B [.ptr d 0] h = some (v, h') /\ cZ h' v (cT (l.map (·.1))) /\ aI h h'
theorem strsV_append (a b : List (Ln)) : cT (a ++ b) = cT a ++ cT b := by unfold cT; rw [List.map_append]
theorem aIK {E : bG} {n0 : Nat} {w : DV} {l : EL} (hl : l.length < 100000) : ∀ (k i m : Nat) (v : DV) (h : H), l.length - i = k -> i <= l.length -> n0 <= h.size -> RowE (λ c => c < n0) 2 h w (dY l) -> cE n0 h v (cT ((l.take i).map (·.1))) ->
   ∃ v' h', aHt E w (ii l.length) (m + (k + 1)) v (ii i) h = some (v', h') /\ cE n0 h' v' (cT (l.map (·.1))) /\ cD n0 h h' := by
 intro k
 induction k with
 | zero =>
   intro i m v h hk hi hn r o; have : i = l.length := by omega
   subst this; refine ⟨v, h, ?_, by rw [List.take_length] at o; exact o, cD.refl _ _⟩
   show aNe E w _ (aHt E w _ m) _ _ h = _; unfold aNe; rw [aP, aA, decide_eq_false (Nat.lt_irrefl _), aC]; rfl
 | succ k ih =>
   intro i m v h hk hi hn r o; have hlt : i < l.length := by omega
   obtain ⟨e, he⟩ : ∃ e, l[i]? = some e := ⟨_, List.getElem?_eq_getElem hlt⟩; obtain ⟨b, oo, q1, q2, q3, q4, q5, q6, q7, q8⟩ := kC r he .i64; obtain ⟨h1, e1, g1, o1⟩ := aO h 2 2 [(.str []), (ii 0)] rfl; obtain ⟨h2, f2, o2, k2⟩ := o1.setAll (n := 2) (cs := [.str e.1, ii e.2]) rfl rfl rfl; have kk2 : cD n0 h h2 := (g1.keeps hn).trans (k2.keeps hn); have ov : cE n0 h2 v (cT ((l.take i).map (·.1))) := o.keep ((g1.keeps (Nat.le_refl h.size)).trans (k2.keeps (Nat.le_refl h.size))) (Nat.le_refl _); obtain ⟨v3, h3, f3, o3, k3⟩ := ov.push1 (x := .str e.1) (z := .str []) (bytes := 16) (Nat.le_trans hn kk2.size) rfl (by unfold aU; rw [bC, List.length_map, List.length_take]; omega) (by unfold aU; rw [bC, List.length_map, List.length_take]; omega)
   have etk : cT ((l.take (i + 1)).map (·.1)) = cT ((l.take i).map (·.1)) ++ [.str e.1] := by
     rw [List.take_add_one, he, List.map_append, strsV_append]; rfl
   rw [<- etk] at o3; obtain ⟨v', h', f4, o4, k4⟩ := ih (i + 1) m v3 h3 (by omega) (by omega) (Nat.le_trans hn (Nat.le_trans kk2.size k3.size)) ((r.keeps kk2).keeps k3) o3
   refine ⟨v', h', ?_, o4, (kk2.trans k3).trans k4⟩; show aNe E w _ (aHt E w _ (m + (k + 1))) _ _ h = _; unfold aNe; rw [aP, aA, decide_eq_true hlt, aD, q1, aA, q4, aA, bN, <- e1, f2, aB, aK, aA, o2.read (j := 0 + 0) rfl, aA, f3, bQ (by omega), aA]
   exact f4
theorem aOW {E : bG} : aEW (S88 E) := by
 intro d l h r hl; obtain ⟨v, h1, h2⟩ := r; obtain ⟨n, e1, e2⟩ := h2.len; have hn : n = l.length := by rw [bE] at e1; omega
 subst hn; obtain ⟨v', h', f1, f2, f3⟩ := aIK (E := E) (n0 := h.size) hl l.length 0 (aT - (l.length + 1)) .nils h (by omega) (by omega) (Nat.le_refl _) h2 (cE.nil _ _)
 rw [show aT - (l.length + 1) + (l.length + 1) = aT from by unfold aT; omega] at f1
 refine ⟨v', h', ?_, f2.row, dE f3⟩; show aRW E (.ptr d 0) h = _; unfold aRW; rw [dG, aA, aC, bI, aA, aK, aA, h1.read (j := 0 + 0) rfl, aA, e2, aA]; exact f1
def zB (B : cB) : Prop := ∀ (v : DV) (l : EL) (h : H), RowE (λ c => c < h.size) 2 h v (dY l) -> l.length < 100000 -> ∃ v' h', B [v] h = some (v', h') /\ cZ h' v' (cT (l.map (·.1))) /\ aI h h'
theorem aGc {E : bG} {n0 : Nat} {w : DV} {l : EL} (hl : l.length < 100000) : ∀ (k i m : Nat) (v : DV) (h : H), l.length - i = k -> i <= l.length -> n0 <= h.size -> RowE (λ c => c < n0) 2 h w (dY l) -> cE n0 h v (cT ((l.take i).map (·.1))) ->
   ∃ v' h', aBW E w (m + (k + 1)) v (ii i) h = some (v', h') /\ cE n0 h' v' (cT (l.map (·.1))) /\ cD n0 h h' := by
 intro k
 induction k with
 | zero =>
   intro i m v h hk hi hn r o; have : i = l.length := by omega
   subst this; obtain ⟨n, e1, e2⟩ := r.len; have hn' : n = l.length := by rw [bE] at e1; omega
   subst hn'; refine ⟨v, h, ?_, by rw [List.take_length] at o; exact o, cD.refl _ _⟩
   show aFB E w (aBW E w m) _ _ h = _; unfold aFB; rw [e2, aA, aP, aA, decide_eq_false (Nat.lt_irrefl _), aC]; rfl
 | succ k ih =>
   intro i m v h hk hi hn r o; have hlt : i < l.length := by omega
   obtain ⟨n, e1, e2⟩ := r.len; have hn' : n = l.length := by rw [bE] at e1; omega
   subst hn'; obtain ⟨e, he⟩ : ∃ e, l[i]? = some e := ⟨_, List.getElem?_eq_getElem hlt⟩; obtain ⟨b, oo, q1, q2, q3, q4, q5, q6, q7, q8⟩ := kC r he .i64; obtain ⟨v3, h3, f3, o3, k3⟩ := o.push1 (x := .str e.1) (z := .str []) (bytes := 16) hn rfl (by unfold aU; rw [bC, List.length_map, List.length_take]; omega) (by unfold aU; rw [bC, List.length_map, List.length_take]; omega)
   have etk : cT ((l.take (i + 1)).map (·.1)) = cT ((l.take i).map (·.1)) ++ [.str e.1] := by
     rw [List.take_add_one, he, List.map_append, strsV_append]; rfl
   rw [<- etk] at o3; obtain ⟨v', h', f4, o4, k4⟩ := ih (i + 1) m v3 h3 (by omega) (by omega) (Nat.le_trans hn k3.size) (r.keeps k3) o3
   refine ⟨v', h', ?_, o4, k3.trans k4⟩; show aFB E w (aBW E w (m + (k + 1))) _ _ h = _; unfold aFB; rw [e2, aA, aP, aA, decide_eq_true hlt, aD, q1, aA, q5, aA, q7, aA, f3, bQ (by omega), aA]
   exact f4
theorem aLm {E : bG} : zB (aXD E) := by
 intro v l h r hl; obtain ⟨v', h', f1, f2, f3⟩ := aGc (E := E) (n0 := h.size) hl l.length 0 (aT - (l.length + 1)) .nils h (by omega) (by omega) (Nat.le_refl _) r (cE.nil _ _)
 rw [show aT - (l.length + 1) + (l.length + 1) = aT from by unfold aT; omega] at f1
 exact ⟨v', h', f1, f2.row, dE f3⟩
def pF (e : Ln × Nat) : Ln := kQ e.1 ++ fU (.ofNat e.2)
def xU (l : EL) : Ln := fU (.ofNat l.length) ++ l.flatMap pF
def tP (e : Ln × Nat) : Prop := e.1.length <= 28 /\ bA e.1 = true /\ e.2 < 256
theorem rA (s : Ln) : 1 <= (kQ s).length /\ (kQ s).length <= 10 + s.length := by
 have := dQ (.ofNat s.length); unfold kQ; rw [List.length_append]; omega
theorem aMb {e : Ln × Nat} (h : tP e) : (pF e).length <= 48 := by
 have h1 := (dQ (.ofNat e.1.length)).2; have h2 := (dQ (.ofNat e.2)).2; have := h.1; unfold pF kQ; simp only [List.length_append]; omega
theorem wU : ∀ {l : EL}, (∀ e ∈ l, tP e) -> (l.flatMap pF).length <= 48 * l.length
 | [], _ => by simp
 | e :: l, h => by
   have h1 := aMb (h e (by simp))
   have h2 := wU (l := l) λ x hx => h x (by simp [hx])
   simp only [List.flatMap_cons, List.length_append, List.length_cons]; omega
theorem aZN {e : Ln × Nat} (h : tP e) : bA (pF e) = true := by
 have := h.1; have h3 := h.2.2; exact cM (aDH h.2.1 (by omega)) (nA (fK (by omega)))
theorem aEy : ∀ {l : EL}, (∀ e ∈ l, tP e) -> bA (l.flatMap pF) = true
 | [], _ => rfl
 | e :: l, h => by
   rw [List.flatMap_cons]; exact cM (aZN (h e (by simp))) (aEy λ x hx => h x (by simp [hx]))
theorem aUX {l : EL} (h : ∀ e ∈ l, tP e) (hl : l.length <= 256) : bA (xU l) = true /\ (xU l).length <= 12300 := by
 refine ⟨cM (nA (fK (by omega))) (aEy h), ?_⟩
 have h1 := (dQ (.ofNat l.length)).2; have h2 := wU h; unfold xU; rw [List.length_append]; omega
def aCi (B : cB) : Prop := ∀ (d : Nat) (l : EL) (h : H), zG (λ c => c < h.size) h d l -> l.length <= 256 -> (∀ e ∈ l, tP e) -> ∃ h', B [.ptr d 0] h = some (.str (xU l), h') /\ aI h h'
theorem aGF {l : EL} {i : Nat} {e : Ln × Nat} (he : l[i]? = some e) : (l.take (i + 1)).flatMap pF = (l.take i).flatMap pF ++ pF e := by
 rw [List.take_add_one, he, List.flatMap_append]; simp
theorem aIF {E : bG} (hI : bP E 50 lB) (hT : bP E 51 mS) (hD : bP E 52 jJ) {n0 : Nat} {w : DV} {l : EL} (hl : l.length <= 256) (hok : ∀ e ∈ l, tP e) {s0 : Ln} (hs0 : s0.length <= 10) (hs0k : bA s0 = true) :
   ∀ (k i m : Nat) (h : H), l.length - i = k -> i <= l.length -> n0 < h.size -> RowE (λ c => c < n0) 2 h w (dY l) -> mC h n0 (s0 ++ (l.take i).flatMap pF) ->
   ∃ h', aBK E (.ptr n0 0) w (ii l.length) (m + (k + 1)) (ii i) h = some (.str (s0 ++ l.flatMap pF), h') /\ cD n0 h h' := by
 obtain ⟨B1, b1, s1⟩ := hI.call; obtain ⟨B2, b2, s2⟩ := hT.call; obtain ⟨B3, b3, s3⟩ := hD.call; intro k
 induction k with
 | zero =>
   intro i m h hk hi hn r o; have : i = l.length := by omega
   subst this; rw [List.take_length] at o; refine ⟨h, ?_, cD.refl _ _⟩; show aFo E _ w _ (aBK E _ w _ m) _ h = _; unfold aFo; rw [aP, aA, decide_eq_false (Nat.lt_irrefl _), aC]; unfold aIY; rw [b3, s3 n0 _ h o (cM hs0k (aEy hok)), aB, aN, aA, aM, aA]
 | succ k ih =>
   intro i m h hk hi hn r o; have hlt : i < l.length := by omega
   obtain ⟨e, he⟩ : ∃ e, l[i]? = some e := ⟨_, List.getElem?_eq_getElem hlt⟩; have hoe := hok e (List.mem_of_getElem? he); obtain ⟨b, oo, q1, q2, q3, q4, q5, q6, q7, q8⟩ := kC r he .i64; obtain ⟨h1, e1, g1, o1⟩ := aO h 2 2 [(.str []), (ii 0)] rfl; obtain ⟨h2, f2, o2, k2⟩ := o1.setAll (n := 2) (cs := [.str e.1, ii e.2]) rfl rfl rfl; have hw2 : mC h2 n0 (s0 ++ (l.take i).flatMap pF) := aHC o ((g1.keeps (Nat.le_refl h.size)).trans (k2.keeps (Nat.le_refl h.size))); have hlen := wU (l := l.take i) λ x hx => hok x (List.mem_of_mem_take hx)
   have hlt2 : (l.take i).length <= 255 := by rw [List.length_take]; omega
   have hsl : (s0 ++ (l.take i).flatMap pF).length <= 12300 := by rw [List.length_append]; omega
   have hoe1 := hoe.1; have hoe3 := hoe.2.2; obtain ⟨h3, f3, w3, p3⟩ := s2 n0 _ e.1 h2 hw2 (by omega)
   have o3 : bD h3 h.size [.str e.1, ii e.2] := o2.off p3 (by omega)
   have hb3 := (rA e.1).2; obtain ⟨h4, f4, w4, p4⟩ := s1 n0 _ (.ofNat e.2) h3 w3 (fK (by omega)) (by simp only [List.length_append] at hsl ⊢; omega)
   have kk : cD n0 h h4 := (((g1.keeps (Nat.le_of_lt hn)).trans (k2.keeps (Nat.le_of_lt hn))).trans (aLD p3 hw2)).trans (aLD p4 w3); have etk : s0 ++ (l.take (i + 1)).flatMap pF = s0 ++ (l.take i).flatMap pF ++ kQ e.1 ++ fU (.ofNat e.2) := by
     rw [aGF he]; unfold pF; simp
   rw [<- etk] at w4; obtain ⟨h', f5, k5⟩ := ih (i + 1) m h4 (by omega) (by omega) (Nat.lt_of_lt_of_le hn kk.size) (r.keeps kk) w4
   refine ⟨h', ?_, kk.trans k5⟩; show aFo E _ w _ (aBK E _ w _ (m + (k + 1))) _ h = _; unfold aFo; rw [aP, aA, decide_eq_true hlt, aD, q1, aA, q4, aA, bN, <- e1, f2, aB, aK, aA, o2.read (j := 0 + 0) rfl, aA, b2, f3, aB, aK, aA, o3.read (j := 0 + 1) rfl, aA, b1, f4, aB, bQ (by omega), aA]
   exact f5
theorem aOS {E : bG} (hN : bP E 48 nS) (hI : bP E 50 lB) (hT : bP E 51 mS) (hD : bP E 52 jJ) : aCi (aXb E) := by
 obtain ⟨B0, b0, s0⟩ := hN.call; obtain ⟨B1, b1, s1⟩ := hI.call; intro d l h r hl hok; obtain ⟨h1, f1, w1, g1⟩ := s0 h; obtain ⟨v, o, rr⟩ := r; have o1 := o.grown g1; obtain ⟨h2, f2, w2, p2⟩ := s1 h.size [] (.ofNat l.length) h1 w1 (fK (by omega)) (by simp)
 have hdlt : d < h.size := o.1; have o2 := o1.off p2 (by omega)
 have rr2 := (rr.keeps (g1.keeps (Nat.le_refl _))).keeps (aLD p2 w1); obtain ⟨n, e1, e2⟩ := rr.len; have hn : n = l.length := by rw [bE] at e1; omega
 subst hn; have hw : h.size < h2.size := by
   obtain ⟨_, x, _⟩ := w2; exact x.1
 obtain ⟨h3, f3, k3⟩ := aIF (E := E) hI hT hD hl hok (dQ (.ofNat l.length)).2 (nA (fK (by omega))) l.length 0 (aT - (l.length + 1)) h2 (by omega) (by omega) hw rr2 (by simpa using w2)
 rw [show aT - (l.length + 1) + (l.length + 1) = aT from by unfold aT; omega] at f3
 refine ⟨h3, ?_, dE (((g1.keeps (Nat.le_refl _)).trans (aLD p2 w1)).trans k3)⟩; show aIZ E (.ptr d 0) h = _; unfold aIZ; have fa0 : aH 0 (.ptr d 0) = some (.ptr d 0) := by rw [aK]
 rw [dG, aA, aC, b0, f1, aB, bI, aA, fa0, aA, o1.read (j := 0) rfl, aA, e2, aA, b1, f2, aB, aA, fa0, aA, o2.read (j := 0) rfl, aA, e2, aA]; exact f3
def aEU (B : cB) : Prop := ∀ (v : DV) (l : EL) (key : Ln) (n : Nat) (h : H), RowE (λ c => c < h.size) 2 h v (dY l) -> l.length < 100000 -> 1 <= n -> n < 256 -> eH key = true -> eP l key = false ->
 ∃ v' h', B [v, .str key, ii n] h = some (.tup [v', ii 0], h') /\ kS h.size 2 h' v' (dY (gD l key n)) /\ aI h h'
theorem iJ {a b : Nat} (h : a + b < 1000000) (bytes : Nat) (hb : bytes <= 100) : (a + b) * bytes < aU /\ a + b < aU := by
 have : (a + b) * bytes <= 1000000 * 100 := Nat.mul_le_mul (by omega) hb
 unfold aU; omega
theorem aTI {E : bG} (hN : bP E 170 jH) (hF : bP E 169 rS) : aEU (aXr E) := by
 obtain ⟨B1, b1, s1⟩ := hN.call; obtain ⟨B2, b2, s2⟩ := hF.call; intro v l key n h r hl hn1 hn2 hk hh; have hple := sU l key; obtain ⟨v1, e1, r1⟩ := r.to (i := dU l key) (bE l) hple (by omega) .i64
 obtain ⟨v2, e2, r2⟩ := r.from (i := dU l key) (bE l) hple (by omega) .i64
 obtain ⟨h1, eh1, g1, hb⟩ := aO h 2 2 [DV.str key, ii n] rfl; have hs1 : h1.size = h.size + 1 := by rw [eh1]; exact H.size_push _ _
 obtain ⟨k1, q1, q2, q3⟩ := (r1.grown g1).src; have l1 : ((dY l).take (dU l key * 2)).length = dU l key * 2 := by rw [List.length_take, bE]; omega
 have hk1 : k1 = dU l key := by omega
 subst hk1; obtain ⟨w1, h2, f2, o2, p2⟩ := (kS.nil (n0 := h1.size) (es := 2) (h := h1)).app (Nat.le_refl _) (x := v1) (bytes := 24) q2 q3 l1 (by rw [rH]; exact pE _) (by omega) (λ m hm => iJ (by simp at hm; omega) 24 (by omega))
 have hb2 : bD h2 h.size [DV.str key, ii n] := hb.keep p2 (by omega)
 have hN2 : dT 2 h2.get (.slc h.size 0 1 1 false) = some [DV.str key, ii n] := by
   have := hb2.cells (o := 0) (k := 2) (by simp)
   exact this
 obtain ⟨w2, h3, f3, o3, p3⟩ := o2.app p2.size (x := .slc h.size 0 1 1 false) (k := 1) (bytes := 24) rfl hN2 rfl rfl (by omega) (λ m hm => iJ (by simp [l1] at hm; omega) 24 (by omega))
 have r23 : RowE (λ c => c < h.size) 2 h3 v2 ((dY l).drop (dU l key * 2)) := (r2.grown g1).move (Nat.le_trans p2.size p3.size) (λ c hc _ => (p3.get c (by omega)).trans (p2.get c (by omega))) λ _ hc _ => hc
 obtain ⟨k2, u1, u2, u3⟩ := r23.src; have l2 : ((dY l).drop (dU l key * 2)).length = (l.length - dU l key) * 2 := by rw [List.length_drop, bE]; omega
 have hk2 : k2 = l.length - dU l key := by omega
 subst hk2; obtain ⟨w3, h4, f4, o4, p4⟩ := o3.app (Nat.le_trans p2.size p3.size) (x := v2) (bytes := 24) u2 u3 l2 (by rw [mQ]; exact pE _) (by omega) (λ m hm => iJ (by
   simp only [List.nil_append, List.length_append, l1, List.length_cons, List.length_nil] at hm; omega) 24 (by omega))
 have ecells : [] ++ (dY l).take (dU l key * 2) ++ [DV.str key, ii n] ++ (dY l).drop (dU l key * 2) = dY (gD l key n) := by rw [List.nil_append]; exact aHe l key n
 rw [ecells] at o4; refine ⟨w3, h4, ?_, o4.mono (by omega), g1.trans (dE ((p2.trans p3).trans p4))⟩
 show aJs E v (.str key) (ii n) h = _; unfold aJs; have d1 : decide (n < 1) = false := by simp; omega
 have d2 : decide (256 <= n) = false := by simp; omega
 have bld : dL [(.str []), (ii 0)] [(0, 1, .str key), (1, 1, ii n)] = some (.agg [.str key, ii n]) := rfl; have nl := sY hk; have na : B1 [.str key] h = some (.bool true, h) := by rw [s1 key h (by omega), hk]
 have fd := s2 _ v l key h r (by omega)
 rw [hh] at fd; simp only [aP, d1, aA, eD, fW, d2, cI]; rw [aC, b1, na, aB, fY, aA, Bool.not_true, aC, b2, fd, aB, aN, aA, aM, aA, aC, e1, aA, bld, aA, aGR rfl rfl, <- eh1, e2, aA, f2, aB, f3, aB, f4, aB]
def aES (B : cB) : Prop := ∀ (v : DV) (l : EL) (key : Ln) (h : H), RowE (λ c => c < h.size) 2 h v (dY l) -> l.length < 100000 -> eP l key = true ->
 ∃ v' h', B [v, .str key] h = some (.tup [v', ii ((jB l key)), ii 0], h') /\ kS h.size 2 h' v' (dY (fS l key)) /\ aI h h'
theorem aTx {E : bG} (hF : bP E 169 rS) : aES (aXo E) := by
 obtain ⟨B2, b2, s2⟩ := hF.call; intro v l key h r hl hh; obtain ⟨n, q1, q2⟩ := nN hh; have hpl : dU l key < l.length := (List.getElem?_eq_some_iff.1 q1).1; obtain ⟨v1, e1, r1⟩ := r.to (i := dU l key) (bE l) (by omega) (by omega) .i64
 obtain ⟨v2, e2, r2⟩ := r.from (i := dU l key + 1) (bE l) (by omega) (by omega) .i64
 obtain ⟨k1, z1, z2, z3⟩ := r1.src; have l1 : ((dY l).take (dU l key * 2)).length = dU l key * 2 := by rw [List.length_take, bE]; omega
 have hk1 : k1 = dU l key := by omega
 subst hk1; obtain ⟨w1, h2, f2, o2, p2⟩ := (kS.nil (n0 := h.size) (es := 2) (h := h)).app (Nat.le_refl _) (x := v1) (bytes := 24) z2 z3 l1 (by rw [rH]; exact pE _) (by omega) (λ m hm => iJ (by simp at hm; omega) 24 (by omega))
 obtain ⟨k2, u1, u2, u3⟩ := (r2.keeps p2).src; have l2 : ((dY l).drop ((dU l key + 1) * 2)).length = (l.length - (dU l key + 1)) * 2 := by rw [List.length_drop, bE]; omega
 have hk2 : k2 = l.length - (dU l key + 1) := by omega
 subst hk2; obtain ⟨w3, h4, f4, o4, p4⟩ := o2.app p2.size (x := v2) (bytes := 24) u2 u3 l2 (by rw [mQ]; exact pE _) (by omega) (λ m hm => iJ (by
   simp only [List.nil_append, l1] at hm; omega) 24 (by omega))
 have ecells : [] ++ (dY l).take (dU l key * 2) ++ (dY l).drop ((dU l key + 1) * 2) = dY (fS l key) := by rw [List.nil_append]; exact aTZ l key
 rw [ecells] at o4; obtain ⟨b, o, i1, i2, i3, i4, i5, i6, i7, i8⟩ := kC r q1 .i64; have hblt : aF h2.get (.ptr b (o + 1)) = some (ii n) := by
   obtain ⟨b', o', j1, j2, j3, j4, j5, j6, j7, j8⟩ := kC (r.keeps p2) q1 .i64; rw [i1] at j1; cases j1; exact j8
 have hblt4 : aF h4.get (.ptr b (o + 1)) = some (ii n) := by
   obtain ⟨b', o', j1, j2, j3, j4, j5, j6, j7, j8⟩ := kC ((r.keeps p2).keeps p4) q1 .i64; rw [i1] at j1; cases j1; exact j8
 refine ⟨w3, h4, ?_, o4, dE (p2.trans p4)⟩; have fd := s2 _ v l key h r (by omega)
 rw [hh] at fd; show aJp E v (.str key) h = _; unfold aJp; rw [b2, fd, aB, aN, aA, aM, aA, fY, aA, Bool.not_true, aC, e1, aA, fN (by omega), aA, e2, aA, i1, aA, i6, aA, i8, aA, f2, aB, hblt, gF, eM, f4, aB, hblt4, gF, eM, q2]
def tK (B : cB) : Prop := ∀ (v : DV) (l : EL) (h : H), RowE (λ c => c < h.size) 2 h v (dY l) -> l.length <= 256 -> (∀ e ∈ l, tP e) -> ∃ h', B [v] h = some (.str (xU l), h') /\ aI h h'
theorem aGf {E : bG} (hI : bP E 53 mE) (hT : bP E 54 lR) {n0 : Nat} {w : DV} {l : EL} (hl : l.length <= 256) (hok : ∀ e ∈ l, tP e) {s0 : Ln} (hs0 : s0.length <= 10) :
   ∀ (k i m : Nat) (h : H), l.length - i = k -> i <= l.length -> n0 <= h.size -> RowE (λ c => c < n0) 2 h w (dY l) ->
   ∃ h', aHu E w (m + (k + 1)) (.str (s0 ++ (l.take i).flatMap pF)) (ii i) h = some (.str (s0 ++ l.flatMap pF), h') /\ aI h h' := by
 obtain ⟨B1, b1, s1⟩ := hI.call; obtain ⟨B2, b2, s2⟩ := hT.call; intro k
 induction k with
 | zero =>
   intro i m h hk hi hn r; have : i = l.length := by omega
   subst this; obtain ⟨n, e1, e2⟩ := r.len; have hn' : n = l.length := by rw [bE] at e1; omega
   subst hn'; rw [List.take_length]; refine ⟨h, ?_, aI.refl _⟩; show aNf E w (aHu E w m) _ _ h = _; unfold aNf; rw [e2, aA, aP, aA, decide_eq_false (Nat.lt_irrefl _), aC]; rfl
 | succ k ih =>
   intro i m h hk hi hn r; have hlt : i < l.length := by omega
   obtain ⟨n, e1, e2⟩ := r.len; have hn' : n = l.length := by rw [bE] at e1; omega
   subst hn'; obtain ⟨e, he⟩ : ∃ e, l[i]? = some e := ⟨_, List.getElem?_eq_getElem hlt⟩; have hoe := hok e (List.mem_of_getElem? he); have hoe1 := hoe.1; have hoe3 := hoe.2.2; obtain ⟨b, oo, q1, q2, q3, q4, q5, q6, q7, q8⟩ := kC r he .i64; obtain ⟨h1, f1, g1⟩ := s2 e.1 h (by omega)
   have r1 := r.grown g1; have q8' : aF h1.get (.ptr b (oo + 1)) = some (ii e.2) := by
     obtain ⟨b', o', j1, j2, j3, j4, j5, j6, j7, j8⟩ := kC r1 he .i64; rw [q1] at j1; cases j1; exact j8
   obtain ⟨h2, f2, g2⟩ := s1 (.ofNat e.2) h1 (fK (by omega))
   obtain ⟨h', f3, g3⟩ := ih (i + 1) m h2 (by omega) (by omega) (Nat.le_trans hn (g1.trans g2).size) (r1.grown g2)
   refine ⟨h', ?_, (g1.trans g2).trans g3⟩; have hlen := wU (l := l.take i) λ x hx => hok x (List.mem_of_mem_take hx)
   have hlt2 : (l.take i).length <= 255 := by rw [List.length_take]; omega
   have hb := aMb hoe; have a1 : bJ (.str (kQ e.1)) (.str (fU (.ofNat e.2))) = some (.str (pF e)) := eY (by unfold pF at hb; rw [List.length_append] at hb; unfold fJ; omega)
   have a2 : bJ (.str (s0 ++ (l.take i).flatMap pF)) (.str (pF e)) = some (.str (s0 ++ (l.take (i + 1)).flatMap pF)) := by
     rw [aGF he, <- List.append_assoc]; exact eY (by rw [List.length_append]; unfold fJ; omega)
   show aNf E w (aHu E w (m + (k + 1))) _ _ h = _; unfold aNf; rw [e2, aA, aP, aA, decide_eq_true hlt, aD, q1, aA, q5, aA, q7, aA, aA, q6, aA, q8, aA, b2, f1, aB, q8', gF, eM, b1, f2, aB, a1, aA, a2, aA, bQ (by omega), aA]
   exact f3
theorem aGe {E : bG} (hI : bP E 53 mE) (hT : bP E 54 lR) : tK (S77 E) := by
 obtain ⟨B1, b1, s1⟩ := hI.call; intro v l h r hl hok; obtain ⟨n, e1, e2⟩ := r.len; have hn' : n = l.length := by rw [bE] at e1; omega
 subst hn'; obtain ⟨h1, f1, g1⟩ := s1 (.ofNat l.length) h (fK (by omega))
 obtain ⟨h2, f2, g2⟩ := aGf (E := E) hI hT (n0 := h.size) hl hok (dQ (.ofNat l.length)).2 l.length 0 (aT - (l.length + 1)) h1 (by omega) (by omega) g1.size (r.grown g1)
 rw [show aT - (l.length + 1) + (l.length + 1) = aT from by unfold aT; omega] at f2
 refine ⟨h2, ?_, g1.trans g2⟩; show aSf E v h = _; unfold aSf; rw [List.take_zero, List.flatMap_nil, List.append_nil] at f2; rw [e2, aA, b1, f1, aB]; exact f2
end Go.Proofs.YtmafhiogonejfaaGreatDoor
end
