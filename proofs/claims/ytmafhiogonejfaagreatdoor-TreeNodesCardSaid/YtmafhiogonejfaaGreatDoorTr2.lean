/- Directories, numbers and texts as bytes: what they compute. No condition. -/
import Derived.Test.YtmafhiogonejfaaGreatDoorTr1
import Derived.KernelRfl
set_option linter.unusedVariables false
set_option linter.unusedSimpArgs false
noncomputable section
namespace Go.Proofs.YtmafhiogonejfaaGreatDoor
open Go.DI
theorem aVm {L N R : List DV} {i n : Nat} (hL : L.length = n * 2) (hN : N.length = 2) (hi : i < n) (hR : (L.take (i * 2) ++ R).length = (n + 1) * 2) :
   ((L.take (i * 2) ++ R).take (i * 2) ++ N ++ (L.take (i * 2) ++ R).drop (i * 2 + N.length)).take ((i + 1) * 2) ++ L.drop (i * 2) ++ ((L.take (i * 2) ++ R).take (i * 2) ++ N ++ (L.take (i * 2) ++ R).drop (i * 2 + N.length)).drop ((i + 1) * 2 + (L.drop (i * 2)).length) =
     L.take (i * 2) ++ N ++ L.drop (i * 2) := by
 have tl : (L.take (i * 2)).length = i * 2 := by rw [List.length_take]; omega
 have e0 : (L.take (i * 2) ++ R).take (i * 2) = L.take (i * 2) := by
   conv => lhs; rw [<- tl]
   rw [tl, List.take_append_of_le_length (by omega), List.take_of_length_le (by omega)]
 rw [e0]; generalize hX : (L.take (i * 2) ++ R).drop (i * 2 + N.length) = X; have lX : X.length = (n + 1) * 2 - (i * 2 + 2) := by rw [<- hX, List.length_drop, hR, hN]
 have lA : (L.take (i * 2) ++ N).length = (i + 1) * 2 := by rw [List.length_append, tl, hN]; omega
 have h1 : (L.take (i * 2) ++ N ++ X).take ((i + 1) * 2) = L.take (i * 2) ++ N := by rw [<- lA, List.take_left]
 have h2 : (L.take (i * 2) ++ N ++ X).drop ((i + 1) * 2 + (L.drop (i * 2)).length) = [] := List.drop_of_length_le (by rw [List.length_append, lA, lX, List.length_drop, hL]; omega)
 rw [h1, h2, List.append_nil]
theorem aGK {E : bO} (b n c i vb vo vc : Nat) (vop pl : Bool) (h : H) (L N : List DV) (V : Blk) (t : Tr DV) (hi : i <= n) (hc : n <= c) (hn : n < 1000000) (hL : L.length = n * 2) (hN : N.length = 2) (hL1 : L.all DV.one = true) (hN1 : N.all DV.one = true) (hvb : vb < b) (hb : b < h.size)
   (hB : h.get b = some (.blk ⟨c * 2, 0, false, pl, t⟩)) (ht : ∀ j x, L[j]? = some x -> t.at_ j = some x) (hV : h.get vb = some (.blk V)) (hp : V.pl = true) (hr : rdCells h.get vb vo 2 = some N) :
   ∃ v h', aJq E [.slc b 0 n c false, .int .i64 (.ofNat i), .slc vb vo 1 vc vop] h = some (v, h') /\ aYj 2 b n (L.take (i * 2) ++ N ++ L.drop (i * 2)) h v h' := by
 have hP : eY h b (c * 2) 0 L := ⟨hb, by omega, pl, t, hB, ht⟩
 have hdn : (L.drop (i * 2)).all DV.one = true := List.all_eq_true.2 λ x hx => List.all_eq_true.1 hL1 x (List.mem_of_mem_drop hx)
 show ∃ v h', aCF E (.slc b 0 n c false) (.int .i64 (.ofNat i)) (.slc vb vo 1 vc vop) h = _ /\ _; unfold aCF; have e1 : ∃ x1, dK 2 (.slc b 0 n c false) (some (.int .i64 (.ofNat i))) none = some x1 := by
   by_cases hic : i < c
   · exact ⟨_, iY hi hc hic _⟩
   · have : i = n /\ c = n := by omega
     obtain ⟨rfl, rfl⟩ := this; exact ⟨_, aGV _⟩
 obtain ⟨x1, e1⟩ := e1; rw [e1, aA, pK, aA, cG, aA, decide_eq_false (show ¬ (1 : Nat) = 0 by omega), aC, pK, aA, cG, aA]
 have hN2 : rdCells h.get vb vo (1 * 2) = some N := hr; by_cases hin : i = n
 · subst hin; rw [decide_eq_true rfl, aE]; have eL : L.take (i * 2) ++ N ++ L.drop (i * 2) = L ++ N := by rw [List.take_of_length_le (by omega), List.drop_of_length_le (by omega), List.append_nil]
   rw [eL]; by_cases hroom : i + 1 <= c
   · obtain ⟨h', f1, f2, f3⟩ := hP.store (vs := N) (o := i * 2) hN1 (by omega) (by omega)
     have ap : cF 2 24 (.slc b 0 i c false) (.slc vb vo 1 vc vop) h = some (.slc b 0 (i + 1) c false, h') := by
       rw [eU]; simp only [fS, srcLen, dP, hN2, Option.bind_some, bE, Nat.ble_eq_true_of_le hroom, cond_true, Nat.zero_add, f1, Option.map_some]
     rw [List.take_of_length_le (by omega), List.drop_of_length_le (by omega), List.append_nil] at f2
     obtain ⟨g1, g2, pl', t', g3, g4⟩ := f2; refine ⟨_, h', by rw [ap, aB], b, c, false, _, rfl, Nat.le_refl _, g3, rfl, rfl, by omega, .inl ⟨rfl, rfl⟩, g4, λ q hq => f3.get q (by omega), by rw [f3.size]; exact Nat.le_refl _⟩
   · have hcn : c = i := by omega
     subst hcn; have hold : rdCells h.get b 0 (c * 2) = some L := by
       have := hP.cells (o := 0) (k := c * 2) (by omega)
       rw [List.drop_zero, List.take_of_length_le (by omega)] at this; exact this
     have s1 : Nat.blt ((c + 1) * 24) aW = true := dT (by unfold aW; omega)
     have s2 : Nat.blt (c + 1) aW = true := dT (by unfold aW; omega)
     have ap : cF 2 24 (.slc b 0 c c false) (.slc vb vo 1 vc vop) h = some (.slc h.size 0 (c + 1) (c + 1) true, h.push (.blk ⟨(c + 1) * 2, 2, false, true, Tr.ofL (L ++ N)⟩)) := by
       rw [eU]; simp only [fS, srcLen, dP, hN2, Option.bind_some, bE, jC (show ¬ c + 1 <= c by omega), cond_false, s1, s2, Bool.and_self, cond_true, hB, hold, H.pushK_eq]
     refine ⟨_, _, by rw [ap, aB], h.size, c + 1, true, _, rfl, Nat.le_of_lt hb, by rw [H.get_push, if_pos rfl], rfl, rfl, Nat.le_refl _, .inr ⟨rfl, rfl⟩, λ j x hj => by rw [Tr.at_ofL]; exact hj, λ q hq => by rw [H.get_push, if_neg (by omega)], by simp⟩
 · rw [decide_eq_false hin, aC, bV (by omega), aA, aSr, aA, dB, aA]
   have hin' : i < n := by omega
   have hc0 : 0 < c := by omega
   have dl : (L.drop (i * 2)).length = (n - i) * 2 := by rw [List.length_drop, hL]; omega
   have ex1 : x1 = .slc b (0 + i * 2) (n - i) (c - i) false := Option.some.inj (e1.symm.trans (iY hi hc (by omega) _))
   subst ex1; by_cases hroom : c < n + 1
   · have hcn : c = n := by omega
     subst hcn; rw [decide_eq_true hroom, aE, wQ (by omega) hc0, aA, aA, fM (by omega) (by omega), aA]
     have hold : rdCells h.get b 0 (i * 2) = some (L.take (i * 2)) := by
       have := hP.cells (o := 0) (k := i * 2) (by omega)
       rw [List.drop_zero] at this; exact this
     have need : i + (c + 1 - i) = c + 1 := by omega
     have ap : aMA 2 24 [(.str []), (.int .i64 (.ofNat 0))] (.slc b 0 i c false) (.int .i64 (.ofNat (c + 1 - i))) h = some (.slc h.size 0 (c + 1) (c + 1) true, h.push (.blk ⟨(c + 1) * 2, 2, false, true, Tr.ofL (L.take (i * 2) ++ gR [(DV.str []), (DV.int .i64 (.ofNat 0))] (c + 1 - i))⟩)) := by
       have s1 : Nat.blt ((c + 1) * 24) aW = true := dT (by unfold aW; omega)
       have s2 : Nat.blt (c + 1) aW = true := dT (by unfold aW; omega)
       simp only [aMA, bE, need, dT hroom, dT (show 0 < c + 1 - i by omega), s1, s2, dT (show 0 < 2 by omega), Bool.and_self, cond_true, hold, Option.bind_some, H.pushK_eq]
     rw [ap, aB]; have hlen : (L.take (i * 2) ++ gR [(DV.str []), (DV.int .i64 (.ofNat 0))] (c + 1 - i)).length = (c + 1) * 2 := by
       simp only [List.length_append, List.length_take, iF, hL, List.length_cons, List.length_nil]; omega
     obtain ⟨h1, eh1⟩ : ∃ x, x = h.push (.blk ⟨(c + 1) * 2, 2, false, true, Tr.ofL (L.take (i * 2) ++ gR [(DV.str []), (DV.int .i64 (.ofNat 0))] (c + 1 - i))⟩) := ⟨_, rfl⟩; have hP1 : eY h1 h.size ((c + 1) * 2) 2 (L.take (i * 2) ++ gR [(DV.str []), (DV.int .i64 (.ofNat 0))] (c + 1 - i)) := by
       have := eY.pushed (h := h) (es := 2) (pl := true) (L := L.take (i * 2) ++ gR [(DV.str []), (DV.int .i64 (.ofNat 0))] (c + 1 - i)); rw [hlen] at this; rw [eh1]; exact this
     have g1 : aH h h1 := by rw [eh1]; exact aH.push _ _
     have hPb1 := hP.grown g1; rw [<- eh1]; obtain ⟨h2, f1, f2, f3⟩ := hP1.store (vs := N) (o := i * 2) hN1 (by omega) (by omega)
     have hN3 : rdCells h1.get vb vo (1 * 2) = some N := by
       rw [<- hN2]; exact nV λ j _ _ => lW (g1.get vb (by omega))
     rw [iY (by omega) (Nat.le_refl _) (by omega), aA, xM (k := 1) (new := N) (h2 := h2) (by rw [Nat.min_eq_left (by omega)]) hN3 (by rw [Nat.zero_add]; exact f1), aB, bV (by omega), aA,
       iY (by omega) (Nat.le_refl _) (by omega), aA, aA]
     have hlen2 : ((L.take (i * 2) ++ gR [(DV.str []), (DV.int .i64 (.ofNat 0))] (c + 1 - i)).take (i * 2) ++ N ++ (L.take (i * 2) ++ gR [(DV.str []), (DV.int .i64 (.ofNat 0))] (c + 1 - i)).drop (i * 2 + N.length)).length = (c + 1) * 2 := by
       simp only [List.length_append, List.length_take, List.length_drop, hlen, hN]; omega
     obtain ⟨h3, k1, k2, k3⟩ := f2.store (vs := L.drop (i * 2)) (o := (i + 1) * 2) hdn (by omega) (by omega)
     have hPb2 := hPb1.but (by omega) f3
     have hs3 : rdCells h2.get b (0 + i * 2) ((c - i) * 2) = some (L.drop (i * 2)) := by
       have := hPb2.cells (o := 0 + i * 2) (k := (c - i) * 2) (by omega)
       rw [Nat.zero_add] at this ⊢; rw [this, List.take_of_length_le (by omega)]
     rw [xM (k := c - i) (new := L.drop (i * 2)) (h2 := h3) (by rw [Nat.min_eq_left (by omega)]) hs3 (by rw [Nat.zero_add]; exact k1), aB]
     obtain ⟨y1, y2, pl', t', y3, y4⟩ := k2; have eL := aVm (R := gR [(DV.str []), (DV.int .i64 (.ofNat 0))] (c + 1 - i)) hL hN hin' hlen; refine ⟨_, h3, rfl, h.size, c + 1, true, _, rfl, Nat.le_of_lt hb, y3, rfl, rfl, Nat.le_refl _, .inr ⟨rfl, rfl⟩, λ j x hj => y4 j x (by rw [eL]; exact hj), λ q hq => ?_, ?_⟩
     · rw [k3.get q (by omega), f3.get q (by omega), g1.get q (by omega)]
     · rw [k3.size, f3.size]; exact g1.size
   · rw [decide_eq_false hroom, aC, aA, wQ (by omega) hc0, aA, bV (by omega), aA, iY (by omega) (by omega) (by omega), aA,
       aKQ hV hB (by omega) hp (by show c * 2 ≠ 0; omega), aA, fE, aA, Bool.not_false, aE, aA, iY (by omega) (by omega) (by omega), aA, iY (by omega) (by omega) (by omega), aA]
     obtain ⟨h1, f1, f2, f3⟩ := hP.store (vs := L.drop (i * 2)) (o := (i + 1) * 2) hdn (by omega) (by omega)
     have hs3 : rdCells h.get b (0 + i * 2) ((n - i) * 2) = some (L.drop (i * 2)) := by
       have := hP.cells (o := 0 + i * 2) (k := (n - i) * 2) (by omega)
       rw [Nat.zero_add] at this ⊢; rw [this, List.take_of_length_le (by omega)]
     rw [xM (k := n - i) (new := L.drop (i * 2)) (h2 := h1) (by rw [Nat.min_eq_right (by omega)]; omega) hs3 (by rw [Nat.zero_add]; exact f1), aB, aA]
     have hlen2 : (L.take ((i + 1) * 2) ++ L.drop (i * 2) ++ L.drop ((i + 1) * 2 + (L.drop (i * 2)).length)).length = (n + 1) * 2 := by
       simp only [List.length_append, List.length_take, List.length_drop, hL]; omega
     obtain ⟨h2, k1, k2, k3⟩ := f2.store (vs := N) (o := i * 2) hN1 (by omega) (by omega)
     have hN3 : rdCells h1.get vb vo (1 * 2) = some N := by
       rw [<- hN2]; exact nV λ j _ _ => lW (f3.get vb (by omega))
     rw [xM (k := 1) (new := N) (h2 := h2) (by rw [Nat.min_eq_left (by omega)]) hN3 (by rw [Nat.zero_add]; exact k1), aB]
     obtain ⟨y1, y2, pl', t', y3, y4⟩ := k2; have eL : (L.take (i * 2) ++ N ++ L.drop (i * 2)) = ((L.take ((i + 1) * 2) ++ L.drop (i * 2) ++ L.drop ((i + 1) * 2 + (L.drop (i * 2)).length)).take (i * 2) ++ N ++ (L.take ((i + 1) * 2) ++ L.drop (i * 2) ++ L.drop ((i + 1) * 2 + (L.drop (i * 2)).length)).drop (i * 2 + N.length)) := by
       have tl : (L.take ((i + 1) * 2)).length = (i + 1) * 2 := by rw [List.length_take]; omega
       rw [List.drop_of_length_le (l := L) (i := (i + 1) * 2 + (L.drop (i * 2)).length) (by omega), List.append_nil]
       rw [List.take_append_of_le_length (by omega), List.take_take, Nat.min_eq_left (by omega), hN]
       congr 1
       rw [show i * 2 + 2 = (L.take ((i + 1) * 2)).length from by rw [tl]; omega, List.drop_left]
     refine ⟨_, h2, rfl, b, c, false, _, rfl, Nat.le_refl _, y3, rfl, rfl, by omega, .inl ⟨rfl, rfl⟩, λ j x hj => y4 j x (by rw [eL] at hj; exact hj), λ q hq => ?_, ?_⟩
     · rw [k3.get q (by omega), f3.get q (by omega)]
     · rw [k3.size, f3.size]; exact Nat.le_refl _
theorem aUp (a : Nat) (s : Ln) (b : Nat) (t : Ln) : sX (a :: s) (b :: t) = (Nat.blt a b || (Nat.beq a b && sX s t)) := rfl
theorem sW (a : Nat) (s : Ln) (b : Nat) (t : Ln) : sX (a :: s) (b :: t) = true ↔ a < b \/ (a = b /\ sX s t = true) := by
 rw [aUp]; simp only [Bool.or_eq_true, Bool.and_eq_true, Nat.blt_eq]; have : Nat.beq a b = true ↔ a = b := ⟨Nat.eq_of_beq_eq_true, λ h => by subst h; exact Nat.beq_refl _⟩
 rw [this]
theorem aEp : ∀ s : Ln, sX s s = false
 | [] => rfl
 | a :: s => by
   rw [Bool.eq_false_iff, ne_eq, sW]
   rintro (h | ⟨_, h⟩)
   · omega
   · rw [aEp s] at h; cases h
theorem aBM : ∀ {a b c : Ln}, sX a b = true -> sX b c = true -> sX a c = true
 | [], [], _, h, _ => by cases h
 | [], b :: s, [], _, h => by cases h
 | [], b :: s, c :: t, _, _ => rfl
 | a :: s, [], _, h, _ => by cases h
 | a :: s, b :: t, [], _, h => by cases h
 | a :: s, b :: t, c :: u, h, k => by
   rw [sW] at *; rcases h with h | ⟨rfl, h⟩ <;> rcases k with k | ⟨rfl, k⟩
   · exact .inl (by omega)
   · exact .inl h
   · exact .inl k
   · exact .inr ⟨rfl, aBM h k⟩
theorem aQc : ∀ {a b : Ln}, sX a b = false -> sX b a = false -> a = b
 | [], [], _, _ => rfl
 | [], b :: s, h, _ => by cases h
 | a :: s, [], _, h => by cases h
 | a :: s, b :: t, h, k => by
   rw [Bool.eq_false_iff, ne_eq, sW, not_or] at *; have e : a = b := by omega
   subst e; have h2 : sX s t = false := by rw [Bool.eq_false_iff]; exact λ x => h.2 ⟨rfl, x⟩
   have k2 : sX t s = false := by rw [Bool.eq_false_iff]; exact λ x => k.2 ⟨rfl, x⟩
   rw [aQc h2 k2]
abbrev EL := List (Ln × Nat)
def gU (l : EL) : Prop := l.Pairwise λ a b => sX a.1 b.1 = true
def dQ (l : EL) (key : Ln) : Nat := (l.takeWhile λ e => sX e.1 key).length
def eJ (l : EL) (key : Ln) : Bool := match l[dQ l key]? with
 | some e => e.1 == key
 | none => false
theorem tK (l : EL) (key : Ln) : dQ l key <= l.length := (List.takeWhile_sublist _).length_le
theorem nR {α : Type} {p : α -> Bool} : ∀ {l : List α} {e : α}, e ∈ l.takeWhile p -> p e = true
 | [], e, h => by cases h
 | x :: l, e, h => by
   rw [List.takeWhile_cons] at h; split at h
   · rename_i hx; rcases List.mem_cons.1 h with rfl | h
     · exact hx
     · exact nR h
   · cases h
theorem tL {l : EL} {key : Ln} : ∀ {i : Nat} {e : Ln × Nat}, i < dQ l key -> l[i]? = some e -> sX e.1 key = true := by
 intro i e hi he; have h1 : (l.takeWhile λ e => sX e.1 key)[i]? = some e := by
   have : l = (l.takeWhile λ e => sX e.1 key) ++ l.dropWhile λ e => sX e.1 key := (List.takeWhile_append_dropWhile).symm
   rw [this, List.getElem?_append_left hi] at he; exact he
 have h2 := List.mem_of_getElem? h1; exact nR (p := λ e : Ln × Nat => sX e.1 key) h2
theorem aII {l : EL} {key : Ln} {e : Ln × Nat} (he : l[dQ l key]? = some e) : sX e.1 key = false := by
 induction l with
 | nil => simp at he
 | cons x l ih =>
   unfold dQ at he ih; rw [List.takeWhile_cons] at he; split at he
   · simp only [List.length_cons, List.getElem?_cons_succ] at he; exact ih he
   · rename_i hx; simp only [List.length_nil, List.getElem?_cons_zero, Option.some.injEq] at he; subst he
     simpa using hx
theorem aEB {l : EL} (hs : gU l) {key : Ln} {i : Nat} {e : Ln × Nat} (hi : dQ l key <= i) (he : l[i]? = some e) : sX e.1 key = false := by
 have hil := (List.getElem?_eq_some_iff.1 he).1; obtain ⟨p, hp⟩ : ∃ p, l[dQ l key]? = some p := ⟨_, List.getElem?_eq_getElem (by omega)⟩
 have h0 := aII hp; rcases Nat.lt_or_ge (dQ l key) i with h | h
 · have h1 : sX p.1 e.1 = true := by
     have := List.pairwise_iff_getElem.1 hs (dQ l key) i (by omega) hil h
     rw [List.getElem?_eq_some_iff] at hp he; obtain ⟨_, rfl⟩ := hp; obtain ⟨_, rfl⟩ := he; exact this
   rw [Bool.eq_false_iff]; intro h2; rw [aBM h1 h2] at h0; cases h0
 · have : i = dQ l key := by omega
   subst this; rw [he] at hp; cases hp; exact h0
theorem bBV {l : EL} {key : Ln} {p : Nat} (hp : p <= l.length) (h1 : ∀ i e, i < p -> l[i]? = some e -> sX e.1 key = true) (h2 : ∀ e, l[p]? = some e -> sX e.1 key = false) : dQ l key = p := by
 have hle := tK l key; rcases Nat.lt_or_ge (dQ l key) p with h | h
 · have := h1 (dQ l key) _ h (List.getElem?_eq_getElem (by omega))
   rw [aII (List.getElem?_eq_getElem (by omega))] at this; cases this
 · rcases Nat.lt_or_ge p (dQ l key) with h3 | h3
   · have := tL h3 (List.getElem?_eq_getElem (by omega))
     rw [h2 _ (List.getElem?_eq_getElem (by omega))] at this; cases this
   · omega
def jK (l : EL) (key : Ln) : Nat := if eJ l key then (l[dQ l key]?.map (·.2)).getD 0 else 0
def mD (l : EL) (key : Ln) : Nat := if eJ l key then 0 else 7
def gD (l : EL) (key : Ln) (n : Nat) : EL := l.take (dQ l key) ++ (key, n) :: l.drop (dQ l key)
def fU (l : EL) (key : Ln) : EL := l.take (dQ l key) ++ l.drop (dQ l key + 1)
theorem oI {l : EL} {key : Ln} (h : eJ l key = true) : ∃ n, l[dQ l key]? = some (key, n) /\ jK l key = n := by
 unfold jK; rw [if_pos h]; unfold eJ at h; split at h
 · rename_i e he; rw [beq_iff_eq] at h; subst h; exact ⟨e.2, he, by rw [he]; rfl⟩
 · cases h
theorem mC {l : EL} {key : Ln} (h : eJ l key = true) : (key, jK l key) ∈ l := by
 obtain ⟨n, h1, h2⟩ := oI h; rw [h2]; exact List.mem_of_getElem? h1
theorem aDd {l : EL} (hs : gU l) {key : Ln} {n : Nat} (h : (key, n) ∈ l) : eJ l key = true /\ jK l key = n := by
 obtain ⟨i, hi⟩ := List.mem_iff_getElem?.1 h; have hil := (List.getElem?_eq_some_iff.1 hi).1; have hp : dQ l key = i := bBV (by omega) (λ j e hj he => by
   have := List.pairwise_iff_getElem.1 hs j i (by omega) hil hj
   rw [List.getElem?_eq_some_iff] at hi he; obtain ⟨_, q1⟩ := hi; obtain ⟨_, q2⟩ := he; rw [q1, q2] at this; exact this) (λ e he => by rw [hi] at he; cases he; exact aEp _)
 have hh : eJ l key = true := by unfold eJ; rw [hp, hi]; simp
 refine ⟨hh, ?_⟩; obtain ⟨m, h1, h2⟩ := oI hh; rw [h2]; rw [hp, hi] at h1; cases h1; rfl
theorem aLn {l : EL} (h : gU l) (n : Nat) : gU (l.take n) := h.sublist (List.take_sublist _ _)
theorem aMO {l : EL} (hs : gU l) {key : Ln} {n : Nat} (hk : eJ l key = false) : gU (gD l key n) := by
 unfold gD gU; rw [List.pairwise_append]; have hd : ∀ e ∈ l.drop (dQ l key), sX key e.1 = true := by
   intro e he; obtain ⟨i, hi⟩ := List.mem_iff_getElem?.1 he; rw [List.getElem?_drop] at hi; have h1 := aEB (key := key) hs (by omega) hi
   cases h2 : sX key e.1 with
   | true => rfl
   | false =>
     have e1 := aQc h1 h2; have hm : (key, e.2) ∈ l := by rw [<- e1]; exact List.mem_of_getElem? hi
     rw [(aDd hs hm).1] at hk; cases hk
 have ht : ∀ e ∈ l.take (dQ l key), sX e.1 key = true := by
   intro e he; obtain ⟨i, hi⟩ := List.mem_iff_getElem?.1 he; rw [List.getElem?_take] at hi; split at hi
   · rename_i h; exact tL h hi
   · cases hi
 refine ⟨aLn hs _, ?_, ?_⟩
 · rw [List.pairwise_cons]; exact ⟨λ e he => hd e he, hs.sublist (List.drop_sublist _ _)⟩
 · intro a ha b hb; rcases List.mem_cons.1 hb with rfl | hb
   · exact ht a ha
   · exact aBM (ht a ha) (hd b hb)
theorem aLE {l : EL} (hs : gU l) (key : Ln) : gU (fU l key) := by
 unfold fU; refine hs.sublist ?_
 conv => rhs; rw [<- List.take_append_drop (dQ l key) l]
 exact (List.Sublist.refl _).append (List.drop_sublist_drop_left l (by omega))
theorem aDo (l : EL) (key : Ln) (n : Nat) : (gD l key n).length = l.length + 1 := by
 have := tK l key; simp [gD]; omega
theorem aWj {l : EL} {key : Ln} {n : Nat} {e : Ln × Nat} : e ∈ gD l key n ↔ e = (key, n) \/ e ∈ l := by
 unfold gD; rw [List.mem_append, List.mem_cons]
 conv => rhs; rw [<- List.take_append_drop (dQ l key) l, List.mem_append]
 constructor
 · rintro (h | h | h)
   · exact .inr (.inl h)
   · exact .inl h
   · exact .inr (.inr h)
 · rintro (h | h | h)
   · exact .inr (.inl h)
   · exact .inl h
   · exact .inr (.inr h)
theorem aLD {l : EL} {key : Ln} {e : Ln × Nat} (h : e ∈ fU l key) : e ∈ l := by
 unfold fU at h; rcases List.mem_append.1 h with h | h
 · exact List.mem_of_mem_take h
 · exact List.mem_of_mem_drop h
def eA (l : EL) : List DV := l.flatMap λ e => [DV.str e.1, ii e.2]
theorem xK (e : Ln × Nat) (l : EL) : eA (e :: l) = [DV.str e.1, ii e.2] ++ eA l := rfl
theorem oJ (a b : EL) : eA (a ++ b) = eA a ++ eA b := by unfold eA; rw [List.flatMap_append]
theorem bM : ∀ l : EL, (eA l).length = l.length * 2
 | [] => rfl
 | e :: l => by rw [xK, List.length_append, bM l]; simp; omega
theorem pW : ∀ l : EL, (eA l).all DV.one = true
 | [] => rfl
 | e :: l => by rw [xK, List.all_append, pW l]; rfl
theorem aMn : ∀ {l : EL} {i : Nat} {e : Ln × Nat}, l[i]? = some e -> (eA l)[i * 2]? = some (.str e.1) /\ (eA l)[i * 2 + 1]? = some (ii e.2)
 | [], i, e, h => by simp at h
 | x :: l, 0, e, h => by simp at h; subst h; exact ⟨rfl, rfl⟩
 | x :: l, i + 1, e, h => by
   simp only [List.getElem?_cons_succ] at h; obtain ⟨h1, h2⟩ := aMn h; rw [xK, show (i + 1) * 2 = [DV.str x.1, ii x.2].length + i * 2 from by simp; omega]
   constructor
   · rw [List.getElem?_append_right (by omega)]; simpa using h1
   · rw [List.getElem?_append_right (by omega)]; rw [show [DV.str x.1, ii x.2].length + i * 2 + 1 - [DV.str x.1, ii x.2].length = i * 2 + 1 from by omega]; exact h2
theorem rX (l : EL) (i : Nat) : (eA l).take (i * 2) = eA (l.take i) := by
 rcases Nat.lt_or_ge l.length i with h | h
 · rw [List.take_of_length_le (by rw [bM]; omega), List.take_of_length_le (by omega)]
 · conv => lhs; rw [<- List.take_append_drop i l, oJ]
   rw [List.take_append_of_le_length (by rw [bM, List.length_take]; omega), List.take_of_length_le (by rw [bM, List.length_take]; omega)]
theorem nK (l : EL) (i : Nat) : (eA l).drop (i * 2) = eA (l.drop i) := by
 rcases Nat.lt_or_ge l.length i with h | h
 · rw [List.drop_of_length_le (by rw [bM]; omega), List.drop_of_length_le (by omega)]; rfl
 · conv => lhs; rw [<- List.take_append_drop i l, oJ]
   rw [show i * 2 = (eA (l.take i)).length from by rw [bM, List.length_take]; omega, List.drop_left]
theorem aHx (l : EL) (key : Ln) (n : Nat) : (eA l).take (dQ l key * 2) ++ [DV.str key, ii n] ++ (eA l).drop (dQ l key * 2) = eA (gD l key n) := by
 rw [rX, nK]; unfold gD; rw [oJ, xK]; simp
theorem aTm (l : EL) (key : Ln) : (eA l).take (dQ l key * 2) ++ (eA l).drop ((dQ l key + 1) * 2) = eA (fU l key) := by
 rw [rX, nK]; unfold fU; rw [oJ]
abbrev aNq : Nat -> Prop := λ _ => True
theorem aBA (s t : Ln) : cJ (.str s) (.str t) = some (.bool (sX s t)) := by
 show aQb s t = _; unfold aQb; rw [fV]
theorem lQ {A : Nat -> Prop} {h : H} {v : DV} {l : EL} (r : RowE A 2 h v (eA l)) {i : Nat} {e : Ln × Nat} (he : l[i]? = some e) (k : IntKind) :
   ∃ b o, cC 2 v (.int k (.ofNat i)) = some (.ptr b o) /\ rdCell h.get b o = some (.str e.1) /\ rdCell h.get b (o + 1) = some (ii e.2) /\ aK 2 h.get (.ptr b o) = some (.agg [.str e.1, ii e.2]) /\
     aF 0 (.ptr b o) = some (.ptr b o) /\ aF 1 (.ptr b o) = some (.ptr b (o + 1)) /\ aI h.get (.ptr b o) = some (.str e.1) /\ aI h.get (.ptr b (o + 1)) = some (ii e.2) := by
 obtain ⟨b, o, h1, h2⟩ := r.ix (i := i) (n := l.length) (bM l) (List.getElem?_eq_some_iff.1 he).1 (by omega) k
 obtain ⟨g1, g2⟩ := aMn he; have c0 := h2 0 _ (by omega) g1
 have c1 := h2 1 _ (by omega) g2
 rw [Nat.add_zero] at c0; refine ⟨b, o, h1, c0, c1, ?_, by rw [aM, Nat.add_zero], aM 1 b o, by simp only [aI, cK]; exact c0, by simp only [aI, cK]; exact c1⟩
 have hc : rdCells h.get b o 2 = some [.str e.1, ii e.2] := by simp only [rdCells, c0, c1]
 simp only [aK, cI, hc]; rfl
theorem aMq {E : bO} (s : Ln) (n : Nat) (h : H) : ∃ h', aTz E [.agg [.str s, ii n]] h = some (.str s, h') /\ aH h h' := by
 refine ⟨h.push (.blk ⟨2, 2, false, true, Tr.ofL [.str s, ii n]⟩), ?_, aH.push h _⟩; show aJH E (.agg [.str s, ii n]) h = _; unfold aJH; rw [fJ, aM, aA, (bB.pushed (h := h) (L := [.str s, ii n])).read (j := 0 + 0) rfl, aA]; rfl
def aAc (B : cE) : Prop := ∀ (A : Nat -> Prop) (v : DV) (l : EL) (key : Ln) (h : H), RowE A 2 h v (eA l) -> gU l -> l.length < 1000000 ->
 ∃ h', B [v, .str key, .fn (.func 163) [] []] h = some (.tup [ii ((dQ l key)), .bool (eJ l key)], h') /\ aH h h'
theorem aGu {E F : bO} (hC : E 163 = some (aTz F)) {A : Nat -> Prop} {v : DV} {l : EL} {key : Ln} (hl : l.length < 1000000) (hs : gU l) :
   ∀ (k low high m : Nat) (h : H), RowE A 2 h v (eA l) -> high - low <= k -> low <= dQ l key -> dQ l key <= high -> high <= l.length ->
   ∃ h', aCt E v (.str key) (.fn (.func 163) [] []) (m + (k + 1)) (ii low) (ii high) h = some (.tup [ii ((dQ l key)), .bool (eJ l key)], h') /\ aH h h' := by
 intro k
 induction k with
 | zero =>
   intro low high m h r hk h1 h2 h3; have hp : low = dQ l key := by omega
   have hh : high = dQ l key := by omega
   rw [hp, hh]; show ∃ h', aFS E v _ _ (aCt E v _ _ m) _ _ h = _ /\ _; unfold aFS; rw [aN, aA, decide_eq_false (Nat.lt_irrefl _), aC]; unfold aJI; obtain ⟨n, e1, e2⟩ := r.len; have hn : n = l.length := by rw [bM] at e1; omega
   subst hn; rw [e2, aA, aN, aA]; by_cases hlt : dQ l key < l.length
   · obtain ⟨e, he⟩ : ∃ e, l[dQ l key]? = some e := ⟨_, List.getElem?_eq_getElem hlt⟩; obtain ⟨b, o, q1, q2, q3, q4, q5, q6, q7, q8⟩ := lQ r he .i64; obtain ⟨h', f1, f2⟩ := aMq (E := F) e.1 e.2 h; refine ⟨h', ?_, f2⟩; have hc : oW E (.fn (.func 163) [] []) [.agg [.str e.1, ii e.2]] h = some (.str e.1, h') := by
       show aD E 163 ([] ++ [.agg [.str e.1, ii e.2]] ++ []) h = _; rw [cO hC]; exact f1
     have hb : eJ l key = (e.1 == key) := by unfold eJ; rw [he]
     simp only [decide_eq_true hlt, hH, q1, aA, q4, hc, aB, fW, bX, hb]
   · refine ⟨h, ?_, aH.refl h⟩; have hb : eJ l key = false := by unfold eJ; rw [List.getElem?_eq_none (by omega)]
     simp only [decide_eq_false hlt, vJ, eK, bY, aA, hb]
 | succ k ih =>
   intro low high m h r hk h1 h2 h3; rcases Nat.lt_or_ge low high with hlh | hlh
   · show ∃ h', aFS E v _ _ (aCt E v _ _ (m + (k + 1))) _ _ h = _ /\ _; unfold aFS; have hmid : (low + high) / 2 < l.length := by omega
     obtain ⟨e, he⟩ : ∃ e, l[(low + high) / 2]? = some e := ⟨_, List.getElem?_eq_getElem hmid⟩; obtain ⟨b, o, q1, q2, q3, q4, q5, q6, q7, q8⟩ := lQ r he .i64; obtain ⟨h1', f1, f2⟩ := aMq (E := F) e.1 e.2 h; have hc : oW E (.fn (.func 163) [] []) [.agg [.str e.1, ii e.2]] h = some (.str e.1, h1') := by
       show aD E 163 ([] ++ [.agg [.str e.1, ii e.2]] ++ []) h = _; rw [cO hC]; exact f1
     rw [aN, aA, decide_eq_true hlh, aE, bV (by omega), aA, wS (by omega) (by omega), aA, q1, aA, q4, aA, hc, aB, aBA, aA]
     have r' := r.grown f2; by_cases hlt : sX e.1 key = true
     · rw [hlt, aE, bV (by omega), aA]
       have hpm : (low + high) / 2 < dQ l key := by
         rcases Nat.lt_or_ge ((low + high) / 2) (dQ l key) with h5 | h5
         · exact h5
         · rw [aEB hs h5 he] at hlt; cases hlt
       obtain ⟨h', g1, g2⟩ := ih ((low + high) / 2 + 1) high m h1' r' (by omega) (by omega) h2 h3
       exact ⟨h', g1, f2.trans g2⟩
     · rw [Bool.not_eq_true] at hlt; rw [hlt, aC]; have hpm : dQ l key <= (low + high) / 2 := by
         rcases Nat.lt_or_ge ((low + high) / 2) (dQ l key) with h5 | h5
         · rw [tL h5 he] at hlt; cases hlt
         · exact h5
       obtain ⟨h', g1, g2⟩ := ih low ((low + high) / 2) m h1' r' (by omega) h1 hpm (by omega)
       exact ⟨h', g1, f2.trans g2⟩
   · exact ih low high (m + 1) h r (by omega) h1 h2 h3 |>.imp λ h' x => by rw [show m + (k + 1 + 1) = m + 1 + (k + 1) from by omega]; exact x
theorem aLr {E F : bO} (hC : E 163 = some (aTz F)) : aAc (aWy E) := by
 intro A v l key h r hs hl; obtain ⟨n, e1, e2⟩ := r.len; have hn : n = l.length := by rw [bM] at e1; omega
 subst hn; obtain ⟨h', f1, f2⟩ := aGu (E := E) hC (key := key) hl hs l.length 0 l.length (aR - (l.length + 1)) h r (by omega) (by omega) (tK l key) (Nat.le_refl _)
 rw [show aR - (l.length + 1) + (l.length + 1) = aR from by unfold aR; omega] at f1
 refine ⟨h', ?_, f2⟩; show aJJ E v (.str key) (.fn (.func 163) [] []) h = _; unfold aJJ; rw [e2, aA]; exact f1
def aBt (A : Nat -> Prop) (h : H) (d : Nat) (l : EL) : Prop := ∃ v, bB h d [v] /\ RowE A 2 h v (eA l)
theorem aBt.grown {A : Nat -> Prop} {h h' : H} {d : Nat} {l : EL} (r : aBt A h d l) (g : aH h h') : aBt A h' d l := by
 obtain ⟨v, h1, h2⟩ := r; exact ⟨v, h1.grown g, h2.grown g⟩
def wM (B : cE) : Prop := ∀ (A : Nat -> Prop) (d : Nat) (l : EL) (key : Ln) (h : H), aBt A h d l -> gU l -> l.length < 1000000 ->
 ∃ h', B [.ptr d 0, .str key] h = some (.tup [ii ((dQ l key)), .bool (eJ l key)], h') /\ aH h h'
theorem aOU {E : bO} (hS : cD E 162 aAc) : wM (aWL E) := by
 obtain ⟨B, hB, sB⟩ := hS.call; intro A d l key h r hs hl; obtain ⟨v, h1, h2⟩ := r; obtain ⟨h', f1, f2⟩ := sB A v l key h h2 hs hl; refine ⟨h', ?_, f2⟩; show aJX E (.ptr d 0) (.str key) h = _; unfold aJX; rw [dI, aA, aC, bG, aA, aM, aA, h1.read (j := 0 + 0) rfl, aA, hB, f1, aB, aY, aA, aX, aA]
def wF (B : cE) : Prop := ∀ (A : Nat -> Prop) (d : Nat) (l : EL) (key : Ln) (h : H), aBt A h d l -> gU l -> l.length < 1000000 ->
 ∃ h', B [.ptr d 0, .str key] h = some (.tup [ii ((jK l key)), ii ((mD l key))], h') /\ aH h h'
theorem aOT {E : bO} (hS : cD E 142 wM) : wF (aWI E) := by
 obtain ⟨B, hB, sB⟩ := hS.call; intro A d l key h r hs hl; obtain ⟨h', f1, f2⟩ := sB A d l key h r hs hl; obtain ⟨v, h1, h2⟩ := r.grown f2; refine ⟨h', ?_, f2⟩; show aJU E (.ptr d 0) (.str key) h = _; unfold aJU; rw [hB, f1, aB, aY, aA, aX, aA, fE, aA]; cases hh : eJ l key with
 | false =>
   have e1 : jK l key = 0 := by unfold jK; rw [hh]; rfl
   have e2 : mD l key = 7 := by unfold mD; rw [hh]; rfl
   rw [e1, e2, Bool.not_false, aE]
 | true =>
   obtain ⟨n, g1, g2⟩ := oI hh; have e2 : mD l key = 0 := by unfold mD; rw [hh]; rfl
   obtain ⟨b, o, q1, q2, q3, q4, q5, q6, q7, q8⟩ := lQ h2 g1 .i64; rw [g2, e2, Bool.not_true, aC, bG, aA, aM, aA, h1.read (j := 0 + 0) rfl, aA, q1, aA, q6, aA, q8, aA]
def aDR (B : cE) : Prop := ∀ (A : Nat -> Prop) (d : Nat) (l : EL) (h : H), aBt A h d l -> B [.ptr d 0] h = some (ii l.length, h)
theorem aTp {E : bO} : aDR (S97 E) := by
 intro A d l h r; obtain ⟨v, h1, h2⟩ := r; obtain ⟨n, e1, e2⟩ := h2.len; have hn : n = l.length := by rw [bM] at e1; omega
 subst hn; show aRe E (.ptr d 0) h = _; unfold aRe; rw [dI, aA, aC, bG, aA, aM, aA, h1.read (j := 0 + 0) rfl, aA, e2, aA]
def sJ (B : cE) : Prop := ∀ (A : Nat -> Prop) (v : DV) (l : EL) (key : Ln) (h : H), RowE A 2 h v (eA l) -> l.length < 1000000 -> B [v, .str key] h = some (.tup [ii ((dQ l key)), .bool (eJ l key)], h)
theorem aIC {E : bO} {A : Nat -> Prop} {v : DV} {l : EL} {key : Ln} {h : H} (r : RowE A 2 h v (eA l)) (hl : l.length < 1000000) :
   ∀ (k i m : Nat), dQ l key - i = k -> i <= dQ l key -> aCs E v (.str key) (m + (k + 1)) (ii i) h = some (.tup [ii ((dQ l key)), .bool (eJ l key)], h) := by
 obtain ⟨n, e1, e2⟩ := r.len; have hn : n = l.length := by rw [bM] at e1; omega
 subst hn; have hple := tK l key; have fin : aFD E v (.str key) (ii (dQ l key)) h = some (.tup [ii ((dQ l key)), .bool (eJ l key)], h) := by
   unfold aFD; rw [e2, aA, aN, aA]; by_cases hlt : dQ l key < l.length
   · obtain ⟨e, he⟩ : ∃ e, l[dQ l key]? = some e := ⟨_, List.getElem?_eq_getElem hlt⟩; obtain ⟨b, o, q1, q2, q3, q4, q5, q6, q7, q8⟩ := lQ r he .i64; have hb : eJ l key = (e.1 == key) := by unfold eJ; rw [he]
     simp only [decide_eq_true hlt, hH, q1, aA, q5, q7, fW, bX, hb]
   · have hb : eJ l key = false := by unfold eJ; rw [List.getElem?_eq_none (by omega)]
     simp only [decide_eq_false hlt, vJ, eK, bY, aA, hb]
 intro k
 induction k with
 | zero =>
   intro i m hk hi; have : i = dQ l key := by omega
   subst this; show aFR E v _ (aCs E v _ m) _ h = _; unfold aFR; rw [e2, aA, aN, aA]; by_cases hlt : dQ l key < l.length
   · obtain ⟨e, he⟩ : ∃ e, l[dQ l key]? = some e := ⟨_, List.getElem?_eq_getElem hlt⟩; obtain ⟨b, o, q1, q2, q3, q4, q5, q6, q7, q8⟩ := lQ r he .i64; simp only [decide_eq_true hlt, hH, q1, aA, q5, q7, aBA, bX, aII he]; rw [aC]; exact fin
   · simp only [decide_eq_false hlt, vJ, eK, bY, aA]; rw [aC]; exact fin
 | succ k ih =>
   intro i m hk hi; show aFR E v _ (aCs E v _ (m + (k + 1))) _ h = _; unfold aFR; rw [e2, aA, aN, aA]; have hlt : i < l.length := by omega
   obtain ⟨e, he⟩ : ∃ e, l[i]? = some e := ⟨_, List.getElem?_eq_getElem hlt⟩; obtain ⟨b, o, q1, q2, q3, q4, q5, q6, q7, q8⟩ := lQ r he .i64; simp only [decide_eq_true hlt, hH, q1, aA, q5, q7, aBA, bX, tL (show i < dQ l key by omega) he]
   rw [aE, bV (by omega), aA]
   exact ih (i + 1) m (by omega) (by omega)
theorem aOl {E : bO} : sJ (aWw E) := by
 intro A v l key h r hl; have hple := tK l key; have := aIC (E := E) r (key := key) hl (dQ l key) 0 (aR - (dQ l key + 1)) (by omega) (by omega)
 rw [show aR - (dQ l key + 1) + (dQ l key + 1) = aR from by unfold aR; omega] at this
 exact this
def sI (B : cE) : Prop := ∀ (A : Nat -> Prop) (v : DV) (l : EL) (key : Ln) (h : H), RowE A 2 h v (eA l) -> l.length < 1000000 -> B [v, .str key] h = some (.tup [ii ((jK l key)), ii ((mD l key))], h)
theorem aOh {E : bO} (hF : cD E 169 sJ) : sI (aWF E) := by
 obtain ⟨B, hB, sB⟩ := hF.call; intro A v l key h r hl; show aJQ E v (.str key) h = _; unfold aJQ; rw [hB, sB A v l key h r hl, aB, aY, aA, aX, aA, fE, aA]; cases hh : eJ l key with
 | false =>
   have e1 : jK l key = 0 := by unfold jK; rw [hh]; rfl
   have e2 : mD l key = 7 := by unfold mD; rw [hh]; rfl
   rw [e1, e2, Bool.not_false, aE]
 | true =>
   obtain ⟨n, g1, g2⟩ := oI hh; have e2 : mD l key = 0 := by unfold mD; rw [hh]; rfl
   obtain ⟨b, o, q1, q2, q3, q4, q5, q6, q7, q8⟩ := lQ r g1 .i64; rw [g2, e2, Bool.not_true, aC, q1, aA, q6, aA, q8, aA]
def jZ (h : H) (d : Nat) (l : EL) (fp : Ln) : Prop := ∃ v, bB h d [v] /\ ((v = .nils /\ l = [] /\ fp = [d]) \/ ∃ b cap, v = .slc b 0 l.length cap true /\ eY h b (cap * 2) 2 (eA l) /\ b ≠ d /\ fp = [d, b])
theorem jZ.view {h : H} {d : Nat} {l : EL} {fp : Ln} (r : jZ h d l fp) {A : Nat -> Prop} (hA : ∀ c ∈ fp, A c) : aBt A h d l := by
 obtain ⟨v, h1, ⟨rfl, rfl, rfl⟩ | ⟨b, cap, rfl, h2, hne, rfl⟩⟩ := r
 · exact ⟨.nils, h1, RowE.nils⟩
 · refine ⟨_, h1, l.length, bM l, .inr (.inr ⟨b, 0, cap, true, rfl, ?_, hA b (by simp), h2.1, λ j x hj => by rw [Nat.zero_add]; exact h2.rd hj⟩)⟩
   have := h2.2.1; rw [bM] at this; omega
theorem jZ.lt {h : H} {d : Nat} {l : EL} {fp : Ln} (r : jZ h d l fp) : ∀ c ∈ fp, c < h.size := by
 obtain ⟨v, h1, ⟨rfl, rfl, rfl⟩ | ⟨b, cap, rfl, h2, hne, rfl⟩⟩ := r
 · intro c hc; simp at hc; subst hc; exact h1.1
 · intro c hc; simp at hc; rcases hc with rfl | rfl
   · exact h1.1
   · exact h2.1
theorem jZ.off {h h' : H} {d : Nat} {l : EL} {fp : Ln} (r : jZ h d l fp) {F : Nat -> Prop} (g : kP F h h') (hF : ∀ c ∈ fp, ¬ F c) : jZ h' d l fp := by
 obtain ⟨v, h1, h2⟩ := r; have hd : d ∈ fp := by rcases h2 with ⟨_, _, rfl⟩ | ⟨_, _, _, _, _, rfl⟩ <;> simp
 refine ⟨v, ?_, ?_⟩
 · obtain ⟨a1, es, t, a2, a3⟩ := h1; exact ⟨Nat.lt_of_lt_of_le a1 g.size, es, t, by rw [g.get d a1 (hF d hd)]; exact a2, a3⟩
 · rcases h2 with h2 | ⟨b, cap, e, ⟨a1, a2, pl, t, a3, a4⟩, hne, rfl⟩
   · exact .inl h2
   · exact .inr ⟨b, cap, e, ⟨Nat.lt_of_lt_of_le a1 g.size, a2, pl, t, by rw [g.get b a1 (hF b (by simp))]; exact a3, a4⟩, hne, rfl⟩
theorem aHk {R : Type} {y z a b : DV} (ha : a.one = true) (hb : b.one = true) (h : H) (k : DV -> H -> Option R) : gT 1 2 [y, z] [(0, 2, .agg [a, b])] h k = k (.slc h.size 0 1 1 false) (h.push (.blk ⟨2, 2, false, true, Tr.ofL [a, b]⟩)) := by
 have hf : iJ (gR [y, z] 1) [(0, 2, .agg [a, b])] = some [a, b] := rfl; simp only [gT, hf, Option.bind_some, H.pushK_eq]
def aDS (B : cE) : Prop := (∀ args h r, aFL 2 args h = some r -> B args h = some r) /\
 ∀ (vb : Nat) (h : H) (N : List DV), rdCells h.get vb 0 2 = some N -> B [.nils, .int .i64 (.ofNat 0), .slc vb 0 1 1 false] h = some (.slc h.size 0 1 1 true, h.push (.blk ⟨2, 2, false, true, Tr.ofL N⟩))
theorem aOA {E : bO} (vb : Nat) (h : H) (N : List DV) (hr : rdCells h.get vb 0 2 = some N) : aJq E [.nils, ii 0, .slc vb 0 1 1 false] h = some (.slc h.size 0 1 1 true, h.push (.blk ⟨2, 2, false, true, Tr.ofL N⟩)) := by
 show aCF E .nils (ii 0) (.slc vb 0 1 1 false) h = _; unfold aCF; have e1 : dK 2 .nils (some (ii 0)) none = some .nils := rfl; have e2 : cB .nils = some (ii 0) := rfl; have ap : cF 2 24 .nils (.slc vb 0 1 1 false) h = some (.slc h.size 0 1 1 true, h.push (.blk ⟨2, 2, false, true, Tr.ofL N⟩)) := by
   rw [eU]; have hs : dP 2 h.get (.slc vb 0 1 1 false) = some N := hr; have s1 : Nat.blt (1 * 24) aW = true := dT (by unfold aW; omega)
   have s2 : Nat.blt 1 aW = true := dT (by unfold aW; omega)
   simp only [fS, srcLen, hs, Option.bind_some, s1, s2, Bool.and_self, cond_true, H.pushK_eq]; rfl
 rw [e1, aA, pK, aA, cG, aA, decide_eq_false (by omega), aC, e2, aA, cG, aA, decide_eq_true rfl, aE, ap, aB]
def sO (E : bO) : cE := λ args h => Option.rec (motive := λ _ => Option (DV × H)) (aJq E args h) some (aFL 2 args h)
theorem aMb (E : bO) : aDS (sO E) := by
 refine ⟨λ args h r e => by unfold sO; rw [e], λ vb h N hr => ?_⟩
 have e : aFL 2 [.nils, .int .i64 (.ofNat 0), .slc vb 0 1 1 false] h = none := rfl; unfold sO; rw [e]; exact aOA vb h N hr
theorem bJK {B : cE} (hI : aDS B) {h : H} {d : Nat} {l : EL} {fp : Ln} {v : DV} {key : Ln} {n i vb : Nat} (hd : bB h d [v]) (hv : (v = .nils /\ l = [] /\ fp = [d]) \/ ∃ b cap, v = .slc b 0 l.length cap true /\ eY h b (cap * 2) 2 (eA l) /\ b ≠ d /\ fp = [d, b])
   (hi : i <= l.length) (hl : l.length < 1000000) (hvb : vb ∉ fp) (hb : h.get vb = some (.blk ⟨2, 2, false, true, Tr.ofL [DV.str key, .int .i64 (.ofNat n)]⟩)) :
   ∃ w h' c, B [v, .int .i64 (.ofNat i), .slc vb 0 1 1 false] h = some (w, h') /\ w = .slc c 0 (l.length + 1) (l.length + 1) true /\ eY h' c ((l.length + 1) * 2) 2 ((eA l).take (i * 2) ++ [DV.str key, .int .i64 (.ofNat n)] ++ (eA l).drop (i * 2)) /\ h.size <= c /\ kP (λ x => x ∈ fp /\ x ≠ d) h h' := by
 have hN : rdCells h.get vb 0 2 = some [DV.str key, .int .i64 (.ofNat n)] := by
   have c0 : rdCell h.get vb 0 = some (.str key) := by rw [kI hb (by show 0 < 2; omega)]; exact Tr.at_ofL _ _
   have c1 : rdCell h.get vb 1 = some (.int .i64 (.ofNat n)) := by rw [kI hb (by show 1 < 2; omega)]; exact Tr.at_ofL _ _
   simp only [rdCells, c0, c1]
 rcases hv with ⟨rfl, rfl, rfl⟩ | ⟨b, cap, rfl, hP, hne, rfl⟩
 · have hi0 : i = 0 := by simpa using hi
   subst hi0; refine ⟨_, _, h.size, hI.2 vb h _ hN, rfl, ?_, Nat.le_refl _, (aH.push h _).off _⟩; exact eY.pushed (L := [DV.str key, .int .i64 (.ofNat n)])
 · have hcap : l.length <= cap := by have := hP.2.1; rw [bM] at this; omega
   have hL := hP.cells (o := 0) (k := l.length * 2) (by rw [bM]; omega)
   rw [List.drop_zero, List.take_of_length_le (by rw [bM]; omega)] at hL
   obtain ⟨hblt, _, pl, t, hB, _⟩ := hP; have hvb' : vb ≠ b := λ e => hvb (by simp [e])
   have e1 : Nat.beq vb b = false := by rw [Bool.eq_false_iff]; intro hh; exact hvb' (Nat.eq_of_beq_eq_true hh)
   have hF : aFL 2 [.slc b 0 l.length cap true, .int .i64 (.ofNat i), .slc vb 0 1 1 false] h = some (.slc h.size 0 (l.length + 1) (l.length + 1) true, (h.put b .dead).push (.blk ⟨(l.length + 1) * 2, 2, false, false, Tr.ofL ((eA l).take (i * 2) ++ [DV.str key, .int .i64 (.ofNat n)] ++ (eA l).drop (i * 2))⟩)) := by
     simp only [aFL, hB, hb, e1, Nat.beq_refl, Nat.ble_eq_true_of_le hcap, Nat.ble_eq_true_of_le hi, dT hl, Bool.not_false, Bool.and_self, cond_true, hL, Option.bind_some, hN, pW]
     rfl
   refine ⟨_, _, h.size, hI.1 _ _ _ hF, rfl, ?_, Nat.le_refl _, ⟨by simp, λ c hc hf => ?_⟩⟩
   · have := eY.pushed (h := h.put b .dead) (es := 2) (pl := false) (L := (eA l).take (i * 2) ++ [DV.str key, .int .i64 (.ofNat n)] ++ (eA l).drop (i * 2)); have hlen : ((eA l).take (i * 2) ++ [DV.str key, .int .i64 (.ofNat n)] ++ (eA l).drop (i * 2)).length = (l.length + 1) * 2 := by
       simp only [List.length_append, List.length_take, List.length_drop, bM, List.length_cons, List.length_nil]; omega
     rw [hlen] at this; exact this
   · have hcb : c ≠ b := λ e => hf ⟨by simp [e], λ e2 => hne (e ▸ e2)⟩
     rw [H.get_push, if_neg (by simp; omega), H.get_put, if_neg hcb]
def sQ (B : cE) : Prop := ∀ (d : Nat) (l : EL) (fp : Ln) (key : Ln) (n : Nat) (h : H), jZ h d l fp -> gU l -> l.length < 100000 -> 1 <= n -> n < 256 -> eD key = true -> eJ l key = false ->
 ∃ h' fp', B [.ptr d 0, .str key, ii n] h = some (ii 0, h') /\ jZ h' d (gD l key n) fp' /\ kP (λ x => x ∈ fp) h h' /\ (∀ c ∈ fp', c ∈ fp \/ h.size <= c)
theorem zK {key : Ln} (h : eD key = true) : key.length <= 28 := by
 unfold eD at h; simp only [Bool.and_eq_true, decide_eq_true_eq] at h; exact h.2.1
theorem aTr {E : bO} (hN : cD E 146 jR) (hF : cD E 142 wM) (hI : cD E 147 aDS) : sQ (aXe E) := by
 obtain ⟨B1, b1, s1⟩ := hN.call; obtain ⟨B2, b2, s2⟩ := hF.call; obtain ⟨B3, b3, s3⟩ := hI.call; intro d l fp key n h r hs hl hn1 hn2 hk hh; obtain ⟨h1, f1, g1⟩ := s2 aNq d l key h (r.view λ _ _ => trivial) hs (by omega)
 have r1 : jZ h1 d l fp := r.off (g1.off λ _ => False) λ _ _ hf => hf
 have rlt := r1.lt; obtain ⟨v, hd, hv⟩ := r1; obtain ⟨h2, e2, g2, hb2⟩ : ∃ x, x = h1.push (.blk ⟨2, 2, false, true, Tr.ofL [DV.str key, ii n]⟩) /\ aH h1 x /\ x.get h1.size = some (.blk ⟨2, 2, false, true, Tr.ofL [DV.str key, ii n]⟩) := ⟨_, rfl, aH.push _ _, by rw [H.get_push, if_pos rfl]⟩
 have hd2 := hd.grown g2; have hv2 : (v = .nils /\ l = [] /\ fp = [d]) \/ ∃ b cap, v = .slc b 0 l.length cap true /\ eY h2 b (cap * 2) 2 (eA l) /\ b ≠ d /\ fp = [d, b] := by
   rcases hv with hv | ⟨b, cap, q1, q2, q3, q4⟩
   · exact .inl hv
   · exact .inr ⟨b, cap, q1, q2.grown g2, q3, q4⟩
 obtain ⟨w, h3, c, f3, rfl, p3, c3, o3⟩ := bJK s3 hd2 hv2 (tK l key) (by omega) (λ hm => by have := rlt _ hm; omega) hb2
 have hd3 : bB h3 d [v] := by
   obtain ⟨a1, es, t, a2, a3⟩ := hd2; exact ⟨Nat.lt_of_lt_of_le a1 o3.size, es, t, by rw [o3.get d a1 (λ x => x.2 rfl)]; exact a2, a3⟩
 obtain ⟨h4, f4, p4, k4⟩ := hd3.set (v := .slc c 0 (l.length + 1) (l.length + 1) true) (j := 0) rfl (by simp)
 have hdlt : d < h2.size := hd2.1; have hcd : c ≠ d := by omega
 have hdfp : d ∈ fp := by rcases hv with ⟨_, _, rfl⟩ | ⟨_, _, _, _, _, rfl⟩ <;> simp
 have hsz : h.size <= h2.size := Nat.le_trans g1.size g2.size; refine ⟨h4, [d, c], ?_, ⟨_, p4, .inr ⟨c, l.length + 1, by rw [aDo], ?_, hcd, rfl⟩⟩, ?_, λ x hx => ?_⟩
 · show aKB E (.ptr d 0) (.str key) (ii n) h = _; unfold aKB; have d1 : decide (n < 1) = false := by simp; omega
   have d2 : decide (256 <= n) = false := by simp; omega
   have bld : eM [(.str []), (ii 0)] [(0, 1, .str key), (1, 1, ii n)] = some (.agg [.str key, ii n]) := rfl; have nl := zK hk; have na : B1 [.str key] h = some (.bool true, h) := by rw [s1 key h (by omega), hk]
   rw [hh] at f1; have fa0 : aF 0 (.ptr d 0) = some (.ptr d 0) := by rw [aM]
   simp only [dI, aA, dX, aN, d1, bY, fA, d2]; rw [aC, b1, na, aB, fE, aA, Bool.not_true, aC, b2, f1, aB, aY, aA, aX, aA, aC, bG, aA, fa0, aA, hd.read (j := 0) rfl, aA, bld, aA,
     aHk rfl rfl, <- e2, b3, f3, aB, aA, fa0, aA, f4, aB]
 · have hcb := p3.but hcd k4; rw [<- aHx]; exact hcb
 · have fL : kP (λ x => x ∈ fp) h h2 := (g1.trans g2).off _
   exact (fL.trans (o3.weak λ x _ hx => hx.1)).trans (k4.off hdfp)
 · simp at hx; rcases hx with rfl | rfl
   · exact .inl hdfp
   · exact .inr (by omega)
def aFM (B : cE) : Prop := ∀ (b cap i : Nat) (l : EL) (h : H), eY h b (cap * 2) 2 (eA l) -> i < l.length -> l.length < 100000 -> ∃ h', B [.slc b 0 l.length cap true, ii i, ii ((i + 1))] h = some (.slc b 0 (l.length - 1) cap true, h') /\ eY h' b (cap * 2) 2 (eA (l.take i ++ l.drop (i + 1))) /\ But b h h'
theorem aTq {E : bO} : aFM (aWK E) := by
 intro b cap i l h hP hi hl; have hcap : l.length <= cap := by have := hP.2.1; rw [bM] at this; omega
 have hc0 : 0 < cap := by omega
 show ∃ h', aJW E (.slc b 0 l.length cap true) (ii i) (ii (i + 1)) h = _ /\ _; unfold aJW; have e1 : ∃ x, yJ 2 (.slc b 0 l.length cap true) (some (ii i)) (ii (i + 1)) (ii l.length) = some x := by
   simp only [yJ, dF, dHi, dLo]; rw [Nat.ble_eq_true_of_le hcap, cond_true, Nat.ble_eq_true_of_le (show i + 1 <= l.length by omega), cond_true, Nat.ble_eq_true_of_le (show i <= i + 1 by omega), cond_true, dT hi, cond_true]
   simp only [bE]; exact ⟨_, rfl⟩
 obtain ⟨x, e1⟩ := e1; have hd1 : decide (i = i + 1) = false := by simp
 rw [pK, aA, e1, aA, cG, aA, hd1, aC, aA, wQ (by omega) hc0, aA]
 have hnew1 : ((eA l).drop ((i + 1) * 2)).all DV.one = true := by rw [nK]; exact pW _
 have hlen1 : ((eA l).drop ((i + 1) * 2)).length = (l.length - (i + 1)) * 2 := by rw [nK, bM, List.length_drop]
 have hsrc : ∃ y, dK 2 (.slc b 0 l.length cap true) (some (ii (i + 1))) none = some y /\ srcLen y = some (l.length - (i + 1)) /\ dP 2 h.get y = some ((eA l).drop ((i + 1) * 2)) := by
   have hrow : RowE aNq 2 h (.slc b 0 l.length cap true) (eA l) := ⟨l.length, bM l, .inr (.inr ⟨b, 0, cap, true, rfl, hcap, trivial, hP.1, λ j x hj => by rw [Nat.zero_add]; exact hP.rd hj⟩)⟩
   obtain ⟨y, q1, q2⟩ := hrow.from (i := i + 1) (bM l) (by omega) (by omega) .i64
   obtain ⟨n, q3, q4, q5⟩ := q2.src; have hn : n = l.length - (i + 1) := by omega
   subst hn; exact ⟨y, q1, q4, q5⟩
 obtain ⟨y, q1, q2, q3⟩ := hsrc; rw [q1, aA]; obtain ⟨h1, f1, f2, f3⟩ := hP.store (vs := (eA l).drop ((i + 1) * 2)) (o := i * 2) hnew1 (by rw [bM]; omega) (by have := hP.2.1; rw [bM] at this; omega)
 have hneed : i + (l.length - (i + 1)) = l.length - 1 := by omega
 have ap : cF 2 24 (.slc b 0 i cap true) y h = some (.slc b 0 (l.length - 1) cap true, h1) := by
   rw [eU]; simp only [fS, q2, q3, Option.bind_some, bE, hneed, Nat.ble_eq_true_of_le (show l.length - 1 <= cap by omega), cond_true, Nat.zero_add, f1, Option.map_some]
 rw [ap, aB, pK, aA]; have e2 : dK 2 (.slc b 0 (l.length - 1) cap true) (some (ii (l.length - 1))) (some (ii l.length)) = some (.slc b (0 + (l.length - 1) * 2) (l.length - (l.length - 1)) (cap - (l.length - 1)) true) := by
   simp only [dK, dF, dHi, dLo]; rw [Nat.ble_eq_true_of_le hcap, cond_true, Nat.ble_eq_true_of_le (show l.length - 1 <= l.length by omega), cond_true, dT (show l.length - 1 < cap by omega), cond_true]
   simp only [bE]
 rw [e2, aA]; have pre : (eA l).take (i * 2) ++ (eA l).drop ((i + 1) * 2) = eA (l.take i ++ l.drop (i + 1)) := by rw [rX, nK, oJ]
 have prel : (eA (l.take i ++ l.drop (i + 1))).length = (l.length - 1) * 2 := by rw [bM, List.length_append, List.length_take, List.length_drop]; omega
 have hP1 : eY h1 b (cap * 2) 2 (eA (l.take i ++ l.drop (i + 1))) := by
   have := f2.prefix (n := (l.length - 1) * 2); rw [pre, <- prel, List.take_left] at this; exact this
 have hone : l.length - (l.length - 1) = 1 := by omega
 obtain ⟨h2, k1, k2, k3⟩ := hP1.store (vs := gR [(DV.str []), (ii 0)] (l.length - (l.length - 1))) (o := (l.length - 1) * 2) (by rw [hone]; rfl) (by rw [prel]; exact Nat.le_refl _) (by rw [hone, iF]; simp; omega)
 have cl : vT [(.str []), (ii 0)] (.slc b (0 + (l.length - 1) * 2) (l.length - (l.length - 1)) (cap - (l.length - 1)) true) h1 = some (.tup [], h2) := by
   simp only [vT, Nat.zero_add, k1, Option.map_some]
 rw [cl, aB]; refine ⟨h2, rfl, ?_, f3.trans k3⟩; have := k2.prefix (n := (l.length - 1) * 2); rw [List.append_assoc, List.take_append_of_le_length (by rw [List.length_take, prel]; omega), List.take_take, Nat.min_self, List.take_of_length_le (by rw [prel]; exact Nat.le_refl _)] at this
 exact this
def sP (B : cE) : Prop := ∀ (d : Nat) (l : EL) (fp : Ln) (key : Ln) (h : H), jZ h d l fp -> gU l -> l.length < 100000 -> eJ l key = true ->
 ∃ h', B [.ptr d 0, .str key] h = some (.tup [ii ((jK l key)), ii 0], h') /\ jZ h' d (fU l key) fp /\ kP (λ x => x ∈ fp) h h'
theorem aTn {E : bO} (hF : cD E 142 wM) (hD : cD E 143 aFM) : sP (S96 E) := by
 obtain ⟨B2, b2, s2⟩ := hF.call; obtain ⟨B3, b3, s3⟩ := hD.call; intro d l fp key h r hs hl hh; obtain ⟨h1, f1, g1⟩ := s2 aNq d l key h (r.view λ _ _ => trivial) hs (by omega)
 have r1 : jZ h1 d l fp := r.off (g1.off λ _ => False) λ _ _ hf => hf
 obtain ⟨v', hd', hrow⟩ := r1.view (A := aNq) λ _ _ => trivial
 obtain ⟨n, q1, q2⟩ := oI hh; have hpl : dQ l key < l.length := (List.getElem?_eq_some_iff.1 q1).1; obtain ⟨v, hd, hv⟩ := r1; have hvv : v' = v := by
   have a := hd'.read (j := 0) rfl; rw [hd.read (j := 0) rfl] at a; exact (Option.some.inj a).symm
 subst hvv; rcases hv with ⟨rfl, rfl, rfl⟩ | ⟨b, cap, rfl, hP, hne, rfl⟩
 · simp at hpl
 · obtain ⟨bb, o, i1, i2, i3, i4, i5, i6, i7, i8⟩ := lQ hrow q1 .i64; obtain ⟨h2, f2, p2, k2⟩ := s3 b cap (dQ l key) l h1 hP hpl hl; have hd2 := hd.but (Ne.symm hne) k2; obtain ⟨h3, f3, p3, k3⟩ := hd2.set (v := .slc b 0 (l.length - 1) cap true) (j := 0) rfl (by simp)
   have hp2 := p2.but hne k3; have hrl : (fU l key).length = l.length - 1 := by unfold fU; rw [List.length_append, List.length_take, List.length_drop]; omega
   refine ⟨h3, ?_, ⟨_, p3, .inr ⟨b, cap, by rw [hrl], hp2, hne, rfl⟩⟩, ?_⟩
   · show aRf E (.ptr d 0) (.str key) h = _; unfold aRf; rw [hh] at f1; have fa0 : aF 0 (.ptr d 0) = some (.ptr d 0) := by rw [aM]
     rw [dI, aA, aC, b2, f1, aB, aY, aA, aX, aA, fE, aA, Bool.not_true, aC, bG, aA, fa0, aA, hd.read (j := 0) rfl, aA, i1, aA, i6, aA, i8, aA,
       aA, fa0, aA, hd.read (j := 0) rfl, aA, fN (by omega), aA, b3, f2, aB, aA, fa0, aA, f3, aB, q2]
   · exact (((g1.off _).trans (k2.off (by simp))).trans (k3.off (by simp)))
theorem aTS {n : Int} (h1 : -9223372036854775808 <= n) (h2 : n < 9223372036854775808) : zz n < 18446744073709551616 := by
 cases n with
 | ofNat a => show 2 * a < _; simp only [Int.ofNat_eq_natCast] at h2; omega
 | negSucc a => show 2 * a + 1 < _; omega
def uH : Nat -> Nat -> Ln
 | 0, u => [u]
 | k + 1, u => if u < 128 then [u] else (u % 128 + 128) :: uH k (u / 128)
theorem aDA : ∀ (k u : Nat), u < 2 ^ (7 * k + 1) -> bF (uH k u) = true
 | 0, u, h => by simp only [uH, bF, Bool.and_true, Nat.blt_eq]; simp at h; omega
 | k + 1, u, h => by
   rw [uH]; split
   · rename_i h1; simp only [bF, Bool.and_true, Nat.blt_eq]; omega
   · simp only [bF, Bool.and_eq_true, Nat.blt_eq]; refine ⟨by omega, aDA k (u / 128) ?_⟩
     have : (2 : Nat) ^ (7 * (k + 1) + 1) = 128 * 2 ^ (7 * k + 1) := by
       rw [show 7 * (k + 1) + 1 = 7 + (7 * k + 1) from by omega, Nat.pow_add]
     rw [this] at h; exact Nat.div_lt_of_lt_mul h
theorem aKP : ∀ (k u : Nat), 1 <= (uH k u).length /\ (uH k u).length <= k + 1
 | 0, u => by simp [uH]
 | k + 1, u => by
   rw [uH]; split
   · simp
   · have := aKP k (u / 128); simp only [List.length_cons]; omega
def iQ (n : Int) : Ln := uH 9 (zz n)
def oU (s : Ln) : Ln := iQ (.ofNat s.length) ++ s
def gC (n : Int) : Prop := -9223372036854775808 <= n /\ n < 9223372036854775808
theorem qV {n : Int} (h : gC n) : bF (iQ n) = true := aDA 9 _ (by have := aTS h.1 h.2; simpa using this)
theorem eW (n : Int) : 1 <= (iQ n).length /\ (iQ n).length <= 10 := aKP 9 _
theorem aLc {s : Ln} (hs : bF s = true) (hl : s.length < 9223372036854775808) : bF (oU s) = true :=
 cW (qV ⟨by simp only [Int.ofNat_eq_natCast]; omega, by simp only [Int.ofNat_eq_natCast]; omega⟩) hs
structure OpP where
 kind : Int
 at_ : Int
 n : Int
 path : Ln
 other : Ln
 text : Ln
 deriving DecidableEq
def OpP.ok (o : OpP) : Prop := gC o.kind /\ gC o.at_ /\ gC o.n /\ bF o.path = true /\ bF o.other = true /\ bF o.text = true
def opV (o : OpP) : List DV := [.int .i64 o.kind, .int .i64 o.at_, .int .i64 o.n, .str o.path, .str o.other, .str o.text]
def op0 : OpP := ⟨0, 0, 0, [], [], []⟩
theorem aOy {E : bO} {n0 : Nat} : ∀ (k m u : Nat) (s : Ln) (v : DV) (h : H), u < 2 ^ (7 * k + 1) -> k <= 9 -> s.length + k <= 1000000 -> n0 <= h.size -> aSi n0 h v (bU s) -> (∀ b o n c op, v = .slc b o n c op -> b < h.size) ->
   ∃ v' h', aCC E (m + (k + 1)) v (.int .u64 (.ofNat u)) h = some (v', h') /\ cU n0 h' v' (bU (s ++ uH k u)) /\ cL n0 h h' := by
 intro k
 induction k with
 | zero =>
   intro m u s v h hu hk9 hs hn ho hlt; simp at hu; show ∃ v' h', aGf E (aCC E m) _ _ h = _ /\ _; unfold aGf; have d : decide (128 <= u) = false := by simp; omega
   obtain ⟨v1, h1, g1, g2, g3⟩ := ho.push1 (x := eQ (u % 256)) (z := eQ 0) (bytes := 1) hlt hn rfl (by rw [bS]; unfold aW; omega) (by rw [bS]; unfold aW; omega)
   refine ⟨v1, h1, ?_, ?_, g3⟩
   · rw [fA, aA, d, aC]; unfold aFI; rw [qY, aA, show (DV.int .u8 (.ofNat (u % 256))) = eQ (u % 256) from rfl, show (DV.int .u8 (.ofNat 0)) = eQ 0 from rfl, g1]
   · rw [uH, eF]; have : u % 256 = u := by omega
     rw [this] at g2; exact g2
 | succ k ih =>
   intro m u s v h hu hk9 hs hn ho hlt; show ∃ v' h', aGf E (aCC E (m + (k + 1))) _ _ h = _ /\ _; unfold aGf; rw [uH]; by_cases h128 : u < 128
   · have d : decide (128 <= u) = false := by simp; omega
     obtain ⟨v1, h1, g1, g2, g3⟩ := ho.push1 (x := eQ (u % 256)) (z := eQ 0) (bytes := 1) hlt hn rfl (by rw [bS]; unfold aW; omega) (by rw [bS]; unfold aW; omega)
     refine ⟨v1, h1, ?_, ?_, g3⟩
     · rw [fA, aA, d, aC]; unfold aFI; rw [qY, aA, show (DV.int .u8 (.ofNat (u % 256))) = eQ (u % 256) from rfl, show (DV.int .u8 (.ofNat 0)) = eQ 0 from rfl, g1]
     · rw [if_pos h128, eF]; have : u % 256 = u := by omega
       rw [this] at g2; exact g2
   · have d : decide (128 <= u) = true := by simp; omega
     have h2 : (2 : Nat) ^ (7 * (k + 1) + 1) = 128 * 2 ^ (7 * k + 1) := by
       rw [show 7 * (k + 1) + 1 = 7 + (7 * k + 1) from by omega, Nat.pow_add]
     rw [h2] at hu; obtain ⟨v1, h1, g1, g2, g3⟩ := ho.push1 (x := eQ (u % 128 + 128)) (z := eQ 0) (bytes := 1) hlt hn rfl (by rw [bS]; unfold aW; omega) (by rw [bS]; unfold aW; omega)
     have g2' : cU n0 h1 v1 (bU (s ++ [u % 128 + 128])) := by rw [eF]; exact g2
     obtain ⟨v2, h3, k1, k2, k3⟩ := ih m (u / 128) (s ++ [u % 128 + 128]) v1 h1 (Nat.div_lt_of_lt_mul hu) (by omega) (by simp; omega) (Nat.le_trans hn g3.size) (.inl g2') g2'.lt_size
     have h64 : u < 18446744073709551616 := by
       have : (2 : Nat) ^ (7 * k + 1) <= 2 ^ 57 := Nat.pow_le_pow_right (by omega) (by omega)
       have e57 : (2 : Nat) ^ 57 = 144115188075855872 := by decide
       omega
     refine ⟨v2, h3, ?_, ?_, g3.trans k3⟩
     · rw [fA, aA, d, aE, qY, aA, aPQ (by omega), aA]
       rw [show u % 256 % 128 + 128 = u % 128 + 128 from by omega, show (DV.int .u8 (.ofNat 0)) = eQ 0 from rfl, g1, aIq _ _ (by decide), aA]
       exact k1
     · rw [if_neg h128]
       simpa using k2
def aDQ (B : cE) : Prop := ∀ (v : DV) (s : Ln) (n : Int) (h : H), aKH h v (bU s) -> s.length <= 100000 -> gC n -> ∃ v' h', B [v, .int .i64 n] h = some (v', h') /\ cU h.size h' v' (bU (s ++ iQ n)) /\ cL h.size h h'
theorem aVa {E : bO} : aDQ (aXc E) := by
 intro v s n h hc hs hn; have hz := aTS hn.1 hn.2; obtain ⟨v', h', a1, a2, a3⟩ := aOy (E := E) (n0 := h.size) 9 (aR - 10) (zz n) s v h (by simpa using hz) (Nat.le_refl _) (by omega) (Nat.le_refl _) hc.1 hc.2
 rw [show aR - 10 + (9 + 1) = aR from by unfold aR; omega] at a1
 refine ⟨v', h', ?_, a2, a3⟩; obtain ⟨x, y, z, e1, e2, e3, w, e4, e5⟩ := bIC hn.1 hn.2; show aKw E v (.int .i64 n) h = _; unfold aKw; rw [e1, aA, e2, aA, e3, aA, e4, aA, e5, aA]; exact a1
def aJm (B : cE) : Prop := ∀ (v : DV) (s t : Ln) (h : H), aKH h v (bU s) -> s.length <= 100000 -> t.length <= 100000 -> ∃ v' h', B [v, .str t] h = some (v', h') /\ cU h.size h' v' (bU (s ++ oU t)) /\ cL h.size h h'
theorem iM {n : Nat} (h : n < 9223372036854775808) : gC (.ofNat n) := ⟨by simp only [Int.ofNat_eq_natCast]; omega, by simp only [Int.ofNat_eq_natCast]; omega⟩
theorem aUc {E : bO} (hN : cD E 106 aDQ) : aJm (aXb E) := by
 obtain ⟨B, hB, sB⟩ := hN.call; intro v s t h hc hs ht; obtain ⟨v1, h1, f1, f2, f3⟩ := sB v s (.ofNat t.length) h hc hs (iM (by omega))
 have hl := (eW (.ofNat t.length)).2; obtain ⟨v2, h2, g1, g2, g3⟩ := f2.appendStr f3.size t (by rw [List.length_append]; omega)
 refine ⟨v2, h2, ?_, ?_, f3.trans g3⟩
 · show aKu E v (.str t) h = _; unfold aKu; rw [bC, aA, hB, f1, aB, g1, aB]
 · unfold oU; rw [<- List.append_assoc]; exact g2
theorem aLA {E : bO} {n0 : Nat} : ∀ (k m u : Nat) (s : Ln) (v : DV) (h : H), u < 2 ^ (7 * k + 1) -> k <= 9 -> s.length + k <= 1000000 -> bF s = true -> n0 <= h.size -> cU n0 h v (bU s) ->
   ∃ h', aHN E (m + (k + 1)) (.int .u64 (.ofNat u)) v h = some (.str (s ++ uH k u), h') /\ cL n0 h h' := by
 intro k
 induction k with
 | zero =>
   intro m u s v h hu hk9 hs hok hn ho; have hu' : u < 2 := by simpa using hu
   show ∃ h', aNi E (aHN E m) _ _ h = _ /\ _; unfold aNi; have d : decide (128 <= u) = false := by simp; omega
   obtain ⟨v1, h1, g1, g2, g3⟩ := ho.push1 (x := eQ (u % 256)) (z := eQ 0) (bytes := 1) hn rfl (by rw [bS]; unfold aW; omega) (by rw [bS]; unfold aW; omega)
   have hb : cU n0 h1 v1 (bU (s ++ uH 0 u)) := by
     rw [uH, eF]; have : u % 256 = u := by omega
     rw [this] at g2; exact g2
   refine ⟨h1, ?_, g3⟩; rw [fA, aA, d, aC]; unfold aMS; rw [qY, aA, show (DV.int .u8 (.ofNat (u % 256))) = eQ (u % 256) from rfl, show (DV.int .u8 (.ofNat 0)) = eQ 0 from rfl, g1, hb.text (cW hok (aDA 0 u hu)), aA]
 | succ k ih =>
   intro m u s v h hu hk9 hs hok hn ho; have hu0 := hu; show ∃ h', aNi E (aHN E (m + (k + 1))) _ _ h = _ /\ _; unfold aNi; by_cases h128 : u < 128
   · have d : decide (128 <= u) = false := by simp; omega
     obtain ⟨v1, h1, g1, g2, g3⟩ := ho.push1 (x := eQ (u % 256)) (z := eQ 0) (bytes := 1) hn rfl (by rw [bS]; unfold aW; omega) (by rw [bS]; unfold aW; omega)
     have hb : cU n0 h1 v1 (bU (s ++ uH (k + 1) u)) := by
       rw [uH, if_pos h128, eF]; have : u % 256 = u := by omega
       rw [this] at g2; exact g2
     refine ⟨h1, ?_, g3⟩; rw [fA, aA, d, aC]; unfold aMS; rw [qY, aA, show (DV.int .u8 (.ofNat (u % 256))) = eQ (u % 256) from rfl, show (DV.int .u8 (.ofNat 0)) = eQ 0 from rfl, g1, hb.text (cW hok (aDA (k + 1) u hu0)), aA]
   · have d : decide (128 <= u) = true := by simp; omega
     have h2 : (2 : Nat) ^ (7 * (k + 1) + 1) = 128 * 2 ^ (7 * k + 1) := by
       rw [show 7 * (k + 1) + 1 = 7 + (7 * k + 1) from by omega, Nat.pow_add]
     rw [h2] at hu; have h64 : u < 18446744073709551616 := by
       have : (2 : Nat) ^ (7 * k + 1) <= 2 ^ 57 := Nat.pow_le_pow_right (by omega) (by omega)
       have e57 : (2 : Nat) ^ 57 = 144115188075855872 := by decide
       omega
     obtain ⟨v1, h1, g1, g2, g3⟩ := ho.push1 (x := eQ (u % 128 + 128)) (z := eQ 0) (bytes := 1) hn rfl (by rw [bS]; unfold aW; omega) (by rw [bS]; unfold aW; omega)
     have g2' : cU n0 h1 v1 (bU (s ++ [u % 128 + 128])) := by rw [eF]; exact g2
     obtain ⟨h3, k1, k3⟩ := ih m (u / 128) (s ++ [u % 128 + 128]) v1 h1 (Nat.div_lt_of_lt_mul hu) (by omega) (by simp; omega) (cW hok (by simp only [bF, Bool.and_true, Nat.blt_eq]; omega)) (Nat.le_trans hn g3.size) g2'
     refine ⟨h3, ?_, g3.trans k3⟩; rw [fA, aA, d, aE, aUa h64, aA, qY, aA, aPQ (by omega), aA]
     rw [show u % 128 % 256 % 128 + 128 = u % 128 + 128 from by omega, show (DV.int .u8 (.ofNat 0)) = eQ 0 from rfl, g1, aIq _ _ (by decide), aA, uH, if_neg h128]
     rw [List.append_assoc] at k1; exact k1
def qF (B : cE) : Prop := ∀ (n : Int) (h : H), gC n -> ∃ h', B [.int .i64 n] h = some (.str (iQ n), h') /\ aH h h'
theorem aSM {E : bO} : qF (S53 E) := by
 intro n h hn; have hz := aTS hn.1 hn.2; obtain ⟨h', a1, a3⟩ := aLA (E := E) (n0 := h.size) 9 (aR - 10) (zz n) [] .nils h (by simpa using hz) (Nat.le_refl _) (by simp) rfl (Nat.le_refl _) (cU.nil _ _)
 rw [show aR - 10 + (9 + 1) = aR from by unfold aR; omega, List.nil_append] at a1
 refine ⟨h', ?_, a3.grown⟩; obtain ⟨x, y, e1, e2, e3, e4⟩ := bBB hn.1 hn.2; show aRE E (.int .i64 n) h = _; unfold aRE; rw [e1, aA, e2, aA, eZ, aA]; by_cases h0 : n < 0
 · rw [decide_eq_true (show n < Int.ofNat 0 from h0), aE, e4 h0, aA]
   exact a1
 · rw [decide_eq_false (show ¬ n < Int.ofNat 0 from h0), aC, e3 (by omega)]
   exact a1
def pH (B : cE) : Prop := ∀ (s : Ln) (h : H), s.length <= 100000 -> ∃ h', B [.str s] h = some (.str (oU s), h') /\ aH h h'
theorem aNX {E : bO} (hI : cD E 53 qF) : pH (S54 E) := by
 obtain ⟨B, hB, sB⟩ := hI.call; intro s h hs; obtain ⟨h', f1, f2⟩ := sB (.ofNat s.length) h (iM (by omega))
 have hl := (eW (.ofNat s.length)).2; refine ⟨h', ?_, f2⟩; show aRD E (.str s) h = _; unfold aRD; rw [bC, aA, hB, f1, aB, gM (by unfold gV; omega), aA]; rfl
def qB (h : H) (b : Nat) (s : Ln) : Prop := ∃ v, bB h b [ii 65536, v, ii 0] /\ cU (b + 1) h v (bU s)
theorem aMJ {n0 b : Nat} {h h' : H} {v : DV} {L : List DV} (o : cU n0 h v L) (hb : b < n0) (k : But b h h') : cU n0 h' v L := by
 rcases o with o | ⟨c, hc, e, hcell⟩
 · exact .inl o
 · exact .inr ⟨c, hc, e, hcell.but (by omega) k⟩
theorem bDa {n0 : Nat} {h : H} {v : DV} {L : List DV} (o : cU n0 h v L) : ∃ c, yJ 1 v none (ii L.length) (ii L.length) = some c /\ aKH h c L := by
 rcases o with ⟨rfl, rfl⟩ | ⟨b, _, rfl, hb⟩
 · exact ⟨.nils, rfl, .inl (cU.nil _ _), λ b o n c op e => by cases e⟩
 · have hlt := hb.1; obtain ⟨_, pl, t, g1, g2⟩ := id hb; by_cases hL : 0 < L.length
   · refine ⟨.slc b 0 L.length L.length false, ?_, .inr ⟨b, 0, _, rfl, g1, λ j x hj => by rw [Nat.zero_add]; exact hb.rd hj⟩, λ b' o n c op e => by cases e; exact hlt⟩
     simp only [yJ, dF, dHi, dLo]; rw [Nat.ble_eq_true_of_le (Nat.le_refl _), cond_true, cond_true, Nat.ble_eq_true_of_le (Nat.zero_le _), cond_true, dT hL, cond_true]; simp [bE]
   · have h0 : L.length = 0 := by omega
     have hn : L = [] := List.eq_nil_of_length_eq_zero h0; subst hn; exact ⟨.slc b 0 0 0 false, rfl, .inr ⟨b, 0, _, rfl, g1, λ j x hj => by cases hj⟩, λ b' o n c op e => by cases e; exact hlt⟩
theorem aLO {h h' : H} {b : Nat} {s : Ln} (q : kP (λ c => c = b) h h') (w : qB h b s) : cL b h h' := by
 obtain ⟨v, ho, _⟩ := w; exact ⟨q.size, λ c hc => q.get c (Nat.lt_trans hc ho.1) (by intro e; subst e; exact absurd hc (Nat.lt_irrefl _))⟩
def bWK (E : bO) (f : DV) (h : H) (s new : Ln) : Prop := ∀ c, aKH h c (bU s) -> ∃ v' h', oW E f [c] h = some (v', h') /\ cU h.size h' v' (bU (s ++ new)) /\ cL h.size h h'
theorem aIR {E : bO} {b : Nat} {s new : Ln} {f : DV} {h : H} (hw : qB h b s) (hf : bWK E f h s new) (hl : s.length + new.length <= 65536) :
   ∃ h', aOZ E [.ptr b 0, f] h = some (.tup [], h') /\ qB h' b (s ++ new) /\ kP (λ c => c = b) h h' := by
 obtain ⟨v, ho, hv⟩ := hw; obtain ⟨c, hc1, hc2⟩ := bDa hv; obtain ⟨v', h1, f1, f2, f3⟩ := hf c hc2; have ho1 := ho.grown f3.grown; obtain ⟨h2, g1, g2, g3⟩ := ho1.set (v := v') (j := 1) (by rcases f2 with ⟨rfl, _⟩ | ⟨_, _, rfl, _⟩ <;> rfl) (by simp)
 have hb := ho.1; refine ⟨h2, ?_, ⟨v', g2, aMJ (f2.mono (by omega)) (by omega) g3⟩, (f3.grown.off _).trans (g3.off rfl)⟩
 show aKz E (.ptr b 0) f h = _; unfold aKz; have fa : ∀ k, aF k (.ptr b 0) = some (.ptr b k) := λ k => by rw [aM, Nat.zero_add]
 have d1 : decide (65536 < (bU (s ++ new)).length) = false := by rw [bS, List.length_append]; simp; omega
 simp only [dI, aA, dX, bG, fa, ho.read (j := 2) rfl, bR, decide_true, Bool.not_true, bY]; rw [aC]; simp only [bG, aA, fa, ho.read (j := 1) rfl, hv.len, hc1, f1, aB, f2.len, ho1.read (j := 0) rfl, dB, d1]; rw [aC]; simp only [bG, aA, fa, g1, aB]
theorem aHW {h : H} {b : Nat} {s : Ln} (hw : qB h b s) (o : iX) : qB (h.push o) b s := by
 obtain ⟨v, ho, hv⟩ := hw; exact ⟨v, ho.grown (aH.push h o), hv.keep (cL.push (Nat.le_refl _) o) (Nat.le_refl _)⟩
theorem aHX {h h' : H} {b : Nat} {s : Ln} (hw : qB h b s) (k : cL h.size h h') : qB h' b s := by
 obtain ⟨v, ho, hv⟩ := hw; exact ⟨v, ho.grown k.grown, hv.keep k (Nat.le_refl _)⟩
def oM (B : cE) : Prop := ∀ (b : Nat) (s : Ln) (n : Int) (h : H), qB h b s -> gC n -> s.length + 10 <= 65536 -> ∃ h', B [.ptr b 0, .int .i64 n] h = some (.tup [], h') /\ qB h' b (s ++ iQ n) /\ kP (λ c => c = b) h h'
theorem aSj {E F G : bO} (h1 : E 103 = some (aOZ F)) (h2 : F 105 = some (bEE G)) (hN : cD G 106 aDQ) : oM (S50 E) := by
 obtain ⟨B, hB, sB⟩ := hN.call; intro b s n h hw hn hs; have hbox : bB (h.push (.blk ⟨1, 1, false, true, Tr.ofL [.int .i64 n]⟩)) h.size [.int .i64 n] := bB.pushed (L := [.int .i64 n]); have hl := (eW n).2; have hb : b < h.size := by obtain ⟨v, ho, _⟩ := hw; exact ho.1
 obtain ⟨h', f1, f2, f3⟩ := aIR (E := F) (b := b) (s := s) (new := iQ n) (f := .fn (.func 105) [] [.ptr h.size 0]) (aHW hw (.blk ⟨1, 1, false, true, Tr.ofL [.int .i64 n]⟩)) (by
   intro c hc; obtain ⟨v', h', a1, a2, a3⟩ := sB c s n _ hc (by omega) hn
   refine ⟨v', h', ?_, a2, a3⟩; show aD F 105 ([] ++ [c] ++ [.ptr h.size 0]) _ = _; rw [cO h2]; show aKx G c (.ptr h.size 0) _ = _; unfold aKx; rw [hbox.read (j := 0) rfl, aA, hB, a1, aB]) (by omega)
 refine ⟨h', ?_, f2, ((aH.push h _).off _).trans f3⟩; show aRH E (.ptr b 0) (.int .i64 n) h = _; unfold aRH; rw [xE rfl, cO h1, f1, aB]
def nN (B : cE) : Prop := ∀ (b : Nat) (s t : Ln) (h : H), qB h b s -> s.length + t.length + 10 <= 65536 -> ∃ h', B [.ptr b 0, .str t] h = some (.tup [], h') /\ qB h' b (s ++ oU t) /\ kP (λ c => c = b) h h'
theorem aNv {E F G : bO} (h1 : E 103 = some (aOZ F)) (h2 : F 107 = some (bEB G)) (hN : cD G 108 aJm) : nN (S51 E) := by
 obtain ⟨B, hB, sB⟩ := hN.call; intro b s t h hw hs; have hbox : bB (h.push (.blk ⟨1, 1, false, true, Tr.ofL [.str t]⟩)) h.size [.str t] := bB.pushed (L := [.str t]); have hl := (eW (.ofNat t.length)).2; have hb : b < h.size := by obtain ⟨v, ho, _⟩ := hw; exact ho.1
 obtain ⟨h', f1, f2, f3⟩ := aIR (E := F) (b := b) (s := s) (new := oU t) (f := .fn (.func 107) [] [.ptr h.size 0]) (aHW hw (.blk ⟨1, 1, false, true, Tr.ofL [.str t]⟩)) (by
   intro c hc; obtain ⟨v', h', a1, a2, a3⟩ := sB c s t _ hc (by omega) (by omega)
   refine ⟨v', h', ?_, a2, a3⟩; show aD F 107 ([] ++ [c] ++ [.ptr h.size 0]) _ = _; rw [cO h2]; show aKv G c (.ptr h.size 0) _ = _; unfold aKv; rw [hbox.read (j := 0) rfl, aA, hB, a1, aB]) (by unfold oU; rw [List.length_append]; omega)
 refine ⟨h', ?_, f2, ((aH.push h _).off _).trans f3⟩; show aRG E (.ptr b 0) (.str t) h = _; unfold aRG; rw [xE rfl, cO h1, f1, aB]
def sA (B : cE) : Prop := ∀ (b : Nat) (s : Ln) (n : Nat) (h : H), qB h b s -> n < 256 -> s.length + 1 <= 65536 -> ∃ h', B [.ptr b 0, ii n] h = some (.tup [], h') /\ qB h' b (s ++ [n]) /\ kP (λ c => c = b) h h'
theorem aNz {E F G : bO} (h1 : E 103 = some (aOZ F)) (h2 : F 104 = some (bEG G)) : sA (S49 E) := by
 intro b s n h hw hn hs; have hbox : bB (h.push (.blk ⟨1, 1, false, true, Tr.ofL [ii n]⟩)) h.size [ii n] := bB.pushed (L := [ii n]); have hb : b < h.size := by obtain ⟨v, ho, _⟩ := hw; exact ho.1
 have hw1 := aHW hw (.blk ⟨1, 1, false, true, Tr.ofL [ii n]⟩); obtain ⟨h', f1, f2, f3⟩ := aIR (E := F) (b := b) (s := s) (new := [n]) (f := .fn (.func 104) [] [.ptr h.size 0]) hw1 (by
   intro c hc; obtain ⟨v1, h3, g1, g2, g3⟩ := hc.1.push1 (x := eQ n) (z := eQ 0) (bytes := 1) hc.2 (Nat.le_refl _) rfl (by rw [bS]; unfold aW; omega) (by rw [bS]; unfold aW; omega)
   refine ⟨v1, h3, ?_, by rw [eF]; exact g2, g3⟩
   show aD F 104 ([] ++ [c] ++ [.ptr h.size 0]) _ = _; rw [cO h2]; show aKy G c (.ptr h.size 0) _ = _; unfold aKy; rw [hbox.read (j := 0) rfl, aA, qY, aA, Nat.mod_eq_of_lt hn, show (DV.int .u8 (.ofNat n)) = eQ n from rfl, show (DV.int .u8 (.ofNat 0)) = eQ 0 from rfl, g1]) (by simpa using hs)
 refine ⟨h', ?_, f2, ((aH.push h _).off _).trans f3⟩; show aRJ E (.ptr b 0) (ii n) h = _; unfold aRJ; obtain ⟨v, ho, hv⟩ := hw1; have fa : ∀ k, aF k (.ptr b 0) = some (.ptr b k) := λ k => by rw [aM, Nat.zero_add]
 have d1 : decide (n < 0) = false := by simp
 have d2 : decide (255 < n) = false := by simp; omega
 rw [xE rfl]; simp only [uR, aA, hH, bG, fa, ho.read (j := 2) rfl, cG, decide_true, bX, hbox.read (j := 0) rfl, aN, d1, dX, dB, d2, bY]; rw [aC]; unfold aRI; rw [cO h1, f1, aB]
def nO (B : cE) : Prop := ∀ (b : Nat) (s : Ln) (h : H), qB h b s -> bF s = true -> B [.ptr b 0] h = some (.tup [.str s, ii 0], h)
theorem aNy {E : bO} : nO (S52 E) := by
 intro b s h hw hok; obtain ⟨v, ho, hv⟩ := hw; show aRF E (.ptr b 0) h = _; unfold aRF; have fa : ∀ k, aF k (.ptr b 0) = some (.ptr b k) := λ k => by rw [aM, Nat.zero_add]
 rw [dI, aA, aC]; simp only [bG, aA, fa, ho.read (j := 2) rfl, bR, decide_true, Bool.not_true]; rw [aC]; simp only [bG, aA, fa, ho.read (j := 1) rfl, hv.text hok]
def sK (B : cE) : Prop := ∀ (h : H), ∃ h', B [ii 65536] h = some (.ptr h.size 0, h') /\ qB h' h.size [] /\ aH h h'
theorem aSY {E : bO} : sK (S48 E) := by
 intro h; have hb : eM [(ii 0), .nils, (ii 0)] [(0, 1, ii 65536)] = some (.agg [ii 65536, .nils, ii 0]) := rfl; refine ⟨h.push (.blk ⟨3, 3, false, true, Tr.ofL [ii 65536, .nils, ii 0]⟩), ?_, ⟨.nils, bB.pushed (L := [ii 65536, .nils, ii 0]), cU.nil _ _⟩, aH.push h _⟩; show aRK E (ii 65536) h = _; unfold aRK; rw [aDZ, aA, pJ, aA]; rw [show min (max 65536 0) 65536 = 65536 from rfl, hb, aA, fJ]; rfl
def pX (e : Ln × Nat) : Ln := oU e.1 ++ iQ (.ofNat e.2)
def yO (l : EL) : Ln := iQ (.ofNat l.length) ++ l.flatMap pX
def uC (e : Ln × Nat) : Prop := e.1.length <= 28 /\ bF e.1 = true /\ e.2 < 256
theorem aBJ (s : Ln) : 1 <= (oU s).length /\ (oU s).length <= 10 + s.length := by
 have := eW (.ofNat s.length); unfold oU; rw [List.length_append]; omega
theorem aMo {e : Ln × Nat} (h : uC e) : (pX e).length <= 48 := by
 have h1 := (eW (.ofNat e.1.length)).2; have h2 := (eW (.ofNat e.2)).2; have := h.1; unfold pX oU; simp only [List.length_append]; omega
theorem xJ : ∀ {l : EL}, (∀ e ∈ l, uC e) -> (l.flatMap pX).length <= 48 * l.length
 | [], _ => by simp
 | e :: l, h => by
   have h1 := aMo (h e (by simp))
   have h2 := xJ (l := l) λ x hx => h x (by simp [hx])
   simp only [List.flatMap_cons, List.length_append, List.length_cons]; omega
theorem bCw {e : Ln × Nat} (h : uC e) : bF (pX e) = true := by
 have := h.1; have h3 := h.2.2; exact cW (aLc h.2.1 (by omega)) (qV (iM (by omega)))
theorem aFc : ∀ {l : EL}, (∀ e ∈ l, uC e) -> bF (l.flatMap pX) = true
 | [], _ => rfl
 | e :: l, h => by
   rw [List.flatMap_cons]; exact cW (bCw (h e (by simp))) (aFc λ x hx => h x (by simp [hx]))
theorem aUi {l : EL} (h : ∀ e ∈ l, uC e) (hl : l.length <= 256) : bF (yO l) = true /\ (yO l).length <= 12300 := by
 refine ⟨cW (qV (iM (by omega))) (aFc h), ?_⟩
 have h1 := (eW (.ofNat l.length)).2; have h2 := xJ h; unfold yO; rw [List.length_append]; omega
def aCH (B : cE) : Prop := ∀ (d : Nat) (l : EL) (h : H), aBt (λ c => c < h.size) h d l -> l.length <= 256 -> (∀ e ∈ l, uC e) -> ∃ h', B [.ptr d 0] h = some (.str (yO l), h') /\ aH h h'
theorem aGZ {l : EL} {i : Nat} {e : Ln × Nat} (he : l[i]? = some e) : (l.take (i + 1)).flatMap pX = (l.take i).flatMap pX ++ pX e := by
 rw [List.take_add_one, he, List.flatMap_append]; simp
theorem aJd {E : bO} (hI : cD E 50 oM) (hT : cD E 51 nN) (hD : cD E 52 nO) {n0 : Nat} {w : DV} {l : EL} (hl : l.length <= 256) (hok : ∀ e ∈ l, uC e) {s0 : Ln} (hs0 : s0.length <= 10) (hs0k : bF s0 = true) :
   ∀ (k i m : Nat) (h : H), l.length - i = k -> i <= l.length -> n0 < h.size -> RowE (λ c => c < n0) 2 h w (eA l) -> qB h n0 (s0 ++ (l.take i).flatMap pX) ->
   ∃ h', aCp E (.ptr n0 0) w (ii l.length) (m + (k + 1)) (ii i) h = some (.str (s0 ++ l.flatMap pX), h') /\ cL n0 h h' := by
 obtain ⟨B1, b1, s1⟩ := hI.call; obtain ⟨B2, b2, s2⟩ := hT.call; obtain ⟨B3, b3, s3⟩ := hD.call; intro k
 induction k with
 | zero =>
   intro i m h hk hi hn r o; have : i = l.length := by omega
   subst this; rw [List.take_length] at o; refine ⟨h, ?_, cL.refl _ _⟩; show aFO E _ w _ (aCp E _ w _ m) _ h = _; unfold aFO; rw [aN, aA, decide_eq_false (Nat.lt_irrefl _), aC]; unfold aJw; rw [b3, s3 n0 _ h o (cW hs0k (aFc hok)), aB, aY, aA, aX, aA]
 | succ k ih =>
   intro i m h hk hi hn r o; have hlt : i < l.length := by omega
   obtain ⟨e, he⟩ : ∃ e, l[i]? = some e := ⟨_, List.getElem?_eq_getElem hlt⟩; have hoe := hok e (List.mem_of_getElem? he); obtain ⟨b, oo, q1, q2, q3, q4, q5, q6, q7, q8⟩ := lQ r he .i64; obtain ⟨h1, e1, g1, o1⟩ := aP h 2 2 [(.str []), (ii 0)] rfl; obtain ⟨h2, f2, o2, k2⟩ := o1.setAll (n := 2) (cs := [.str e.1, ii e.2]) rfl rfl rfl; have hw2 : qB h2 n0 (s0 ++ (l.take i).flatMap pX) := aHX o ((g1.keeps (Nat.le_refl h.size)).trans (k2.keeps (Nat.le_refl h.size))); have hlen := xJ (l := l.take i) λ x hx => hok x (List.mem_of_mem_take hx)
   have hlt2 : (l.take i).length <= 255 := by rw [List.length_take]; omega
   have hsl : (s0 ++ (l.take i).flatMap pX).length <= 12300 := by rw [List.length_append]; omega
   have hoe1 := hoe.1; have hoe3 := hoe.2.2; obtain ⟨h3, f3, w3, p3⟩ := s2 n0 _ e.1 h2 hw2 (by omega)
   have o3 : bB h3 h.size [.str e.1, ii e.2] := o2.off p3 (by omega)
   have hb3 := (aBJ e.1).2; obtain ⟨h4, f4, w4, p4⟩ := s1 n0 _ (.ofNat e.2) h3 w3 (iM (by omega)) (by simp only [List.length_append] at hsl ⊢; omega)
   have kk : cL n0 h h4 := (((g1.keeps (Nat.le_of_lt hn)).trans (k2.keeps (Nat.le_of_lt hn))).trans (aLO p3 hw2)).trans (aLO p4 w3); have etk : s0 ++ (l.take (i + 1)).flatMap pX = s0 ++ (l.take i).flatMap pX ++ oU e.1 ++ iQ (.ofNat e.2) := by
     rw [aGZ he]; unfold pX; simp
   rw [<- etk] at w4; obtain ⟨h', f5, k5⟩ := ih (i + 1) m h4 (by omega) (by omega) (Nat.lt_of_lt_of_le hn kk.size) (r.keeps kk) w4
   refine ⟨h', ?_, kk.trans k5⟩; show aFO E _ w _ (aCp E _ w _ (m + (k + 1))) _ h = _; unfold aFO; rw [aN, aA, decide_eq_true hlt, aE, q1, aA, q4, aA, bW, <- e1, f2, aB, aM, aA, o2.read (j := 0 + 0) rfl, aA, b2, f3, aB, aM, aA, o3.read (j := 0 + 1) rfl, aA, b1, f4, aB, bV (by omega), aA]
   exact f5
theorem aOQ {E : bO} (hN : cD E 48 sK) (hI : cD E 50 oM) (hT : cD E 51 nN) (hD : cD E 52 nO) : aCH (aWo E) := by
 obtain ⟨B0, b0, s0⟩ := hN.call; obtain ⟨B1, b1, s1⟩ := hI.call; intro d l h r hl hok; obtain ⟨h1, f1, w1, g1⟩ := s0 h; obtain ⟨v, o, rr⟩ := r; have o1 := o.grown g1; obtain ⟨h2, f2, w2, p2⟩ := s1 h.size [] (.ofNat l.length) h1 w1 (iM (by omega)) (by simp)
 have hdlt : d < h.size := o.1; have o2 := o1.off p2 (by omega)
 have rr2 := (rr.keeps (g1.keeps (Nat.le_refl _))).keeps (aLO p2 w1); obtain ⟨n, e1, e2⟩ := rr.len; have hn : n = l.length := by rw [bM] at e1; omega
 subst hn; have hw : h.size < h2.size := by
   obtain ⟨_, x, _⟩ := w2; exact x.1
 obtain ⟨h3, f3, k3⟩ := aJd (E := E) hI hT hD hl hok (eW (.ofNat l.length)).2 (qV (iM (by omega))) l.length 0 (aR - (l.length + 1)) h2 (by omega) (by omega) hw rr2 (by simpa using w2)
 rw [show aR - (l.length + 1) + (l.length + 1) = aR from by unfold aR; omega] at f3
 refine ⟨h3, ?_, eE (((g1.keeps (Nat.le_refl _)).trans (aLO p2 w1)).trans k3)⟩; show aJx E (.ptr d 0) h = _; unfold aJx; have fa0 : aF 0 (.ptr d 0) = some (.ptr d 0) := by rw [aM]
 rw [dI, aA, aC, b0, f1, aB, bG, aA, fa0, aA, o1.read (j := 0) rfl, aA, e2, aA, b1, f2, aB, aA, fa0, aA, o2.read (j := 0) rfl, aA, e2, aA]; exact f3
def aFu (B : cE) : Prop := ∀ (v : DV) (l : EL) (key : Ln) (n : Nat) (h : H), RowE (λ c => c < h.size) 2 h v (eA l) -> l.length < 100000 -> 1 <= n -> n < 256 -> eD key = true -> eJ l key = false ->
 ∃ v' h', B [v, .str key, ii n] h = some (.tup [v', ii 0], h') /\ lC h.size 2 h' v' (eA (gD l key n)) /\ aH h h'
theorem iT {a b : Nat} (h : a + b < 1000000) (bytes : Nat) (hb : bytes <= 100) : (a + b) * bytes < aW /\ a + b < aW := by
 have : (a + b) * bytes <= 1000000 * 100 := Nat.mul_le_mul (by omega) hb
 unfold aW; omega
theorem aSP {E : bO} (hN : cD E 170 jR) (hF : cD E 169 sJ) : aFu (aWE E) := by
 obtain ⟨B1, b1, s1⟩ := hN.call; obtain ⟨B2, b2, s2⟩ := hF.call; intro v l key n h r hl hn1 hn2 hk hh; have hple := tK l key; obtain ⟨v1, e1, r1⟩ := r.to (i := dQ l key) (bM l) hple (by omega) .i64
 obtain ⟨v2, e2, r2⟩ := r.from (i := dQ l key) (bM l) hple (by omega) .i64
 obtain ⟨h1, eh1, g1, hb⟩ := aP h 2 2 [DV.str key, ii n] rfl; have hs1 : h1.size = h.size + 1 := by rw [eh1]; exact H.size_push _ _
 obtain ⟨k1, q1, q2, q3⟩ := (r1.grown g1).src; have l1 : ((eA l).take (dQ l key * 2)).length = dQ l key * 2 := by rw [List.length_take, bM]; omega
 have hk1 : k1 = dQ l key := by omega
 subst hk1; obtain ⟨w1, h2, f2, o2, p2⟩ := (lC.nil (n0 := h1.size) (es := 2) (h := h1)).app (Nat.le_refl _) (x := v1) (bytes := 24) q2 q3 l1 (by rw [rX]; exact pW _) (by omega) (λ m hm => iT (by simp at hm; omega) 24 (by omega))
 have hb2 : bB h2 h.size [DV.str key, ii n] := hb.keep p2 (by omega)
 have hN2 : dP 2 h2.get (.slc h.size 0 1 1 false) = some [DV.str key, ii n] := by
   have := hb2.cells (o := 0) (k := 2) (by simp)
   exact this
 obtain ⟨w2, h3, f3, o3, p3⟩ := o2.app p2.size (x := .slc h.size 0 1 1 false) (k := 1) (bytes := 24) rfl hN2 rfl rfl (by omega) (λ m hm => iT (by simp [l1] at hm; omega) 24 (by omega))
 have r23 : RowE (λ c => c < h.size) 2 h3 v2 ((eA l).drop (dQ l key * 2)) := (r2.grown g1).move (Nat.le_trans p2.size p3.size) (λ c hc _ => (p3.get c (by omega)).trans (p2.get c (by omega))) λ _ hc _ => hc
 obtain ⟨k2, u1, u2, u3⟩ := r23.src; have l2 : ((eA l).drop (dQ l key * 2)).length = (l.length - dQ l key) * 2 := by rw [List.length_drop, bM]; omega
 have hk2 : k2 = l.length - dQ l key := by omega
 subst hk2; obtain ⟨w3, h4, f4, o4, p4⟩ := o3.app (Nat.le_trans p2.size p3.size) (x := v2) (bytes := 24) u2 u3 l2 (by rw [nK]; exact pW _) (by omega) (λ m hm => iT (by
   simp only [List.nil_append, List.length_append, l1, List.length_cons, List.length_nil] at hm; omega) 24 (by omega))
 have ecells : [] ++ (eA l).take (dQ l key * 2) ++ [DV.str key, ii n] ++ (eA l).drop (dQ l key * 2) = eA (gD l key n) := by rw [List.nil_append]; exact aHx l key n
 rw [ecells] at o4; refine ⟨w3, h4, ?_, o4.mono (by omega), g1.trans (eE ((p2.trans p3).trans p4))⟩
 show aJP E v (.str key) (ii n) h = _; unfold aJP; have d1 : decide (n < 1) = false := by simp; omega
 have d2 : decide (256 <= n) = false := by simp; omega
 have bld : eM [(.str []), (ii 0)] [(0, 1, .str key), (1, 1, ii n)] = some (.agg [.str key, ii n]) := rfl; have nl := zK hk; have na : B1 [.str key] h = some (.bool true, h) := by rw [s1 key h (by omega), hk]
 have fd := s2 _ v l key h r (by omega)
 rw [hh] at fd; simp only [aN, d1, aA, dX, fA, d2, bY]; rw [aC, b1, na, aB, fE, aA, Bool.not_true, aC, b2, fd, aB, aY, aA, aX, aA, aC, e1, aA, bld, aA, aHk rfl rfl, <- eh1, e2, aA, f2, aB, f3, aB, f4, aB]
def aFt (B : cE) : Prop := ∀ (v : DV) (l : EL) (key : Ln) (h : H), RowE (λ c => c < h.size) 2 h v (eA l) -> l.length < 100000 -> eJ l key = true ->
 ∃ v' h', B [v, .str key] h = some (.tup [v', ii ((jK l key)), ii 0], h') /\ lC h.size 2 h' v' (eA (fU l key)) /\ aH h h'
theorem aSG {E : bO} (hF : cD E 169 sJ) : aFt (aWB E) := by
 obtain ⟨B2, b2, s2⟩ := hF.call; intro v l key h r hl hh; obtain ⟨n, q1, q2⟩ := oI hh; have hpl : dQ l key < l.length := (List.getElem?_eq_some_iff.1 q1).1; obtain ⟨v1, e1, r1⟩ := r.to (i := dQ l key) (bM l) (by omega) (by omega) .i64
 obtain ⟨v2, e2, r2⟩ := r.from (i := dQ l key + 1) (bM l) (by omega) (by omega) .i64
 obtain ⟨k1, z1, z2, z3⟩ := r1.src; have l1 : ((eA l).take (dQ l key * 2)).length = dQ l key * 2 := by rw [List.length_take, bM]; omega
 have hk1 : k1 = dQ l key := by omega
 subst hk1; obtain ⟨w1, h2, f2, o2, p2⟩ := (lC.nil (n0 := h.size) (es := 2) (h := h)).app (Nat.le_refl _) (x := v1) (bytes := 24) z2 z3 l1 (by rw [rX]; exact pW _) (by omega) (λ m hm => iT (by simp at hm; omega) 24 (by omega))
 obtain ⟨k2, u1, u2, u3⟩ := (r2.keeps p2).src; have l2 : ((eA l).drop ((dQ l key + 1) * 2)).length = (l.length - (dQ l key + 1)) * 2 := by rw [List.length_drop, bM]; omega
 have hk2 : k2 = l.length - (dQ l key + 1) := by omega
 subst hk2; obtain ⟨w3, h4, f4, o4, p4⟩ := o2.app p2.size (x := v2) (bytes := 24) u2 u3 l2 (by rw [nK]; exact pW _) (by omega) (λ m hm => iT (by
   simp only [List.nil_append, l1] at hm; omega) 24 (by omega))
 have ecells : [] ++ (eA l).take (dQ l key * 2) ++ (eA l).drop ((dQ l key + 1) * 2) = eA (fU l key) := by rw [List.nil_append]; exact aTm l key
 rw [ecells] at o4; obtain ⟨b, o, i1, i2, i3, i4, i5, i6, i7, i8⟩ := lQ r q1 .i64; have hblt : aI h2.get (.ptr b (o + 1)) = some (ii n) := by
   obtain ⟨b', o', j1, j2, j3, j4, j5, j6, j7, j8⟩ := lQ (r.keeps p2) q1 .i64; rw [i1] at j1; cases j1; exact j8
 have hblt4 : aI h4.get (.ptr b (o + 1)) = some (ii n) := by
   obtain ⟨b', o', j1, j2, j3, j4, j5, j6, j7, j8⟩ := lQ ((r.keeps p2).keeps p4) q1 .i64; rw [i1] at j1; cases j1; exact j8
 refine ⟨w3, h4, ?_, o4, eE (p2.trans p4)⟩; have fd := s2 _ v l key h r (by omega)
 rw [hh] at fd; show aJM E v (.str key) h = _; unfold aJM; rw [b2, fd, aB, aY, aA, aX, aA, fE, aA, Bool.not_true, aC, e1, aA, fN (by omega), aA, e2, aA, i1, aA, i6, aA, i8, aA, f2, aB, hblt, oZ, gF, f4, aB, hblt4, oZ, gF, q2]
def uA (B : cE) : Prop := ∀ (v : DV) (l : EL) (h : H), RowE (λ c => c < h.size) 2 h v (eA l) -> l.length <= 256 -> (∀ e ∈ l, uC e) -> ∃ h', B [v] h = some (.str (yO l), h') /\ aH h h'
theorem aGB {E : bO} (hI : cD E 53 qF) (hT : cD E 54 pH) {n0 : Nat} {w : DV} {l : EL} (hl : l.length <= 256) (hok : ∀ e ∈ l, uC e) {s0 : Ln} (hs0 : s0.length <= 10) :
   ∀ (k i m : Nat) (h : H), l.length - i = k -> i <= l.length -> n0 <= h.size -> RowE (λ c => c < n0) 2 h w (eA l) ->
   ∃ h', aHK E w (m + (k + 1)) (.str (s0 ++ (l.take i).flatMap pX)) (ii i) h = some (.str (s0 ++ l.flatMap pX), h') /\ aH h h' := by
 obtain ⟨B1, b1, s1⟩ := hI.call; obtain ⟨B2, b2, s2⟩ := hT.call; intro k
 induction k with
 | zero =>
   intro i m h hk hi hn r; have : i = l.length := by omega
   subst this; obtain ⟨n, e1, e2⟩ := r.len; have hn' : n = l.length := by rw [bM] at e1; omega
   subst hn'; rw [List.take_length]; refine ⟨h, ?_, aH.refl _⟩; show aNf E w (aHK E w m) _ _ h = _; unfold aNf; rw [e2, aA, aN, aA, decide_eq_false (Nat.lt_irrefl _), aC]; rfl
 | succ k ih =>
   intro i m h hk hi hn r; have hlt : i < l.length := by omega
   obtain ⟨n, e1, e2⟩ := r.len; have hn' : n = l.length := by rw [bM] at e1; omega
   subst hn'; obtain ⟨e, he⟩ : ∃ e, l[i]? = some e := ⟨_, List.getElem?_eq_getElem hlt⟩; have hoe := hok e (List.mem_of_getElem? he); have hoe1 := hoe.1; have hoe3 := hoe.2.2; obtain ⟨b, oo, q1, q2, q3, q4, q5, q6, q7, q8⟩ := lQ r he .i64; obtain ⟨h1, f1, g1⟩ := s2 e.1 h (by omega)
   have r1 := r.grown g1; have q8' : aI h1.get (.ptr b (oo + 1)) = some (ii e.2) := by
     obtain ⟨b', o', j1, j2, j3, j4, j5, j6, j7, j8⟩ := lQ r1 he .i64; rw [q1] at j1; cases j1; exact j8
   obtain ⟨h2, f2, g2⟩ := s1 (.ofNat e.2) h1 (iM (by omega))
   obtain ⟨h', f3, g3⟩ := ih (i + 1) m h2 (by omega) (by omega) (Nat.le_trans hn (g1.trans g2).size) (r1.grown g2)
   refine ⟨h', ?_, (g1.trans g2).trans g3⟩; have hlen := xJ (l := l.take i) λ x hx => hok x (List.mem_of_mem_take hx)
   have hlt2 : (l.take i).length <= 255 := by rw [List.length_take]; omega
   have hb := aMo hoe; have a1 : bJ (.str (oU e.1)) (.str (iQ (.ofNat e.2))) = some (.str (pX e)) := gM (by unfold pX at hb; rw [List.length_append] at hb; unfold gV; omega)
   have a2 : bJ (.str (s0 ++ (l.take i).flatMap pX)) (.str (pX e)) = some (.str (s0 ++ (l.take (i + 1)).flatMap pX)) := by
     rw [aGZ he, <- List.append_assoc]; exact gM (by rw [List.length_append]; unfold gV; omega)
   show aNf E w (aHK E w (m + (k + 1))) _ _ h = _; unfold aNf; rw [e2, aA, aN, aA, decide_eq_true hlt, aE, q1, aA, q5, aA, q7, aA, aA, q6, aA, q8, aA, b2, f1, aB, q8', oZ, gF, b1, f2, aB, a1, aA, a2, aA, bV (by omega), aA]
   exact f3
theorem aGA {E : bO} (hI : cD E 53 qF) (hT : cD E 54 pH) : uA (S77 E) := by
 obtain ⟨B1, b1, s1⟩ := hI.call; intro v l h r hl hok; obtain ⟨n, e1, e2⟩ := r.len; have hn' : n = l.length := by rw [bM] at e1; omega
 subst hn'; obtain ⟨h1, f1, g1⟩ := s1 (.ofNat l.length) h (iM (by omega))
 obtain ⟨h2, f2, g2⟩ := aGB (E := E) hI hT (n0 := h.size) hl hok (eW (.ofNat l.length)).2 l.length 0 (aR - (l.length + 1)) h1 (by omega) (by omega) g1.size (r.grown g1)
 rw [show aR - (l.length + 1) + (l.length + 1) = aR from by unfold aR; omega] at f2
 refine ⟨h2, ?_, g1.trans g2⟩; show aRr E v h = _; unfold aRr; rw [List.take_zero, List.flatMap_nil, List.append_nil] at f2; rw [e2, aA, b1, f1, aB]; exact f2
end Go.Proofs.YtmafhiogonejfaaGreatDoor
end
