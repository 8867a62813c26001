/- Specs. No condition beyond the theorems' own. -/
import Derived.Test.YthpciaidbgjoeaaGreatVa
set_option linter.unusedVariables false
set_option linter.unusedSimpArgs false
namespace Go.Proofs.YthpciaidbgjoeaaGreat
open Go.DI
theorem mL (f : Nat -> Nat) (b : Nat -> Ln) (id i : Nat) : ∀ k, lI ((List.range k).map λ x => ⟨x, f x, b x⟩) id i = if id < k /\ f id = i then some (b id) else none
 | 0 => by simp [lI]
 | k + 1 => by
   rw [List.range_succ, List.map_append, List.map_cons, List.map_nil]; by_cases e : k = id /\ f k = i
   · obtain ⟨rfl, rfl⟩ := e; rw [if_pos ⟨Nat.lt_succ_self _, rfl⟩]; have h0 := mL f b k (f k) k; rw [if_neg (λ h => Nat.lt_irrefl _ h.1)] at h0
     unfold lI at h0 ⊢; rw [List.find?_append]; rw [Option.map_eq_none_iff] at h0; rw [h0]; simp
   · have : k ≠ id \/ f k ≠ i := by
       by_cases h : k = id
       · exact .inr λ h2 => e ⟨h, h2⟩
       · exact .inl h
     rw [aSG this, mL f b id i k]; by_cases c : id < k /\ f id = i
     · rw [if_pos c, if_pos ⟨by omega, c.2⟩]
     · rw [if_neg c, if_neg]
       rintro ⟨h1, h2⟩
       by_cases h3 : id = k
       · subst h3; exact e ⟨rfl, h2⟩
       · exact c ⟨by omega, h2⟩
def kQ (Lf : Nat -> Nat -> Ln) (j s : Nat) : List Fr := if s < 4 then (List.range j).map λ id => ⟨id, (s + 3 * id) % 4, Lf id ((s + 3 * id) % 4)⟩ else []
def lsS (Lf : Nat -> Nat -> Ln) (n lost t s : Nat) : List Fr := if s = 4 then (List.range t).map λ id => ⟨id, wA lost id, Lf id (wA lost id)⟩ else kQ Lf n s
theorem kS.congr {X : List eX} {ls ls' : Nat -> List Fr} {dn lo dn' lo' : Nat -> Bool} (h : kS X ls dn lo) (e : ∀ i, i < 5 -> ls i = ls' i /\ dn i = dn' i /\ lo i = lo' i) : kS X ls' dn' lo' := λ i hi => by
 obtain ⟨x, h1, h2, h3, h4⟩ := h i hi; obtain ⟨e1, e2, e3⟩ := e i hi; exact ⟨x, h1, h2.trans e2, h3.trans e3, by rw [<- e1]; exact h4⟩
theorem aTl (Lf : Nat -> Nat -> Ln) (j s : Nat) : (kQ Lf j s).length <= j := by
 unfold kQ; split
 · rw [List.length_map, List.length_range]; exact Nat.le_refl _
 · exact Nat.zero_le _
theorem aMe (Lf : Nat -> Nat -> Ln) {j : Nat} (hj : j < 6) : aKR (kQ Lf j) j 0 := λ k _ hk => by
 refine ⟨?_, by have := aTl Lf j ((k + j) % 4); omega⟩
 unfold kQ; rw [if_pos (Nat.mod_lt _ (by decide)), mL, if_neg (λ h => Nat.lt_irrefl _ h.1)]
theorem aME (Lf : Nat -> Nat -> Ln) {j s : Nat} (hs : s < 4) : kQ Lf (j + 1) s = kQ Lf j s ++ [⟨j, (s + 3 * j) % 4, Lf j ((s + 3 * j) % 4)⟩] := by
 unfold kQ; rw [if_pos hs, if_pos hs, List.range_succ, List.map_append]; rfl
theorem aUv (Lf : Nat -> Nat -> Ln) {L : List (Ln)} {j : Nat} (hL : ∀ i, i < 4 -> L.getD i [] = Lf j i) {s : Nat} (hs : s < 5) : xA (kQ Lf j) j L 4 s = kQ Lf (j + 1) s := by
 show rL (rL (rL (rL (kQ Lf j) ((0 + j) % 4) ⟨j, 0, L.getD 0 []⟩) ((1 + j) % 4) ⟨j, 1, L.getD 1 []⟩) ((2 + j) % 4) ⟨j, 2, L.getD 2 []⟩) ((3 + j) % 4) ⟨j, 3, L.getD 3 []⟩ s = _; rw [hL 0 (by decide), hL 1 (by decide), hL 2 (by decide), hL 3 (by decide)]
 unfold rL; by_cases s4 : s < 4
 · rw [aME Lf s4]; have : (s + 3 * j) % 4 = 0 \/ (s + 3 * j) % 4 = 1 \/ (s + 3 * j) % 4 = 2 \/ (s + 3 * j) % 4 = 3 := by omega
   rcases this with h | h | h | h
   · have e : s = (0 + j) % 4 := by omega
     rw [h, if_neg (by omega), if_neg (by omega), if_neg (by omega), if_pos e, <- e]
   · have e : s = (1 + j) % 4 := by omega
     rw [h, if_neg (by omega), if_neg (by omega), if_pos e, <- e, if_neg (by omega)]
   · have e : s = (2 + j) % 4 := by omega
     rw [h, if_neg (by omega), if_pos e, <- e, if_neg (by omega), if_neg (by omega)]
   · have e : s = (3 + j) % 4 := by omega
     rw [h, if_pos e, <- e, if_neg (by omega), if_neg (by omega), if_neg (by omega)]
 · rw [if_neg (by omega), if_neg (by omega), if_neg (by omega), if_neg (by omega)]
   unfold kQ; rw [if_neg s4, if_neg s4]
theorem aUS (Lf : Nat -> Nat -> Ln) (n lost : Nat) {s : Nat} (hs : s < 5) : kQ Lf n s = lsS Lf n lost 0 s := by
 unfold lsS; by_cases h : s = 4
 · rw [if_pos h]; unfold kQ; rw [if_neg (by omega)]; rfl
 · rw [if_neg h]
theorem aUT (Lf : Nat -> Nat -> Ln) (n lost t s : Nat) : rL (lsS Lf n lost t) 4 ⟨t, wA lost t, Lf t (wA lost t)⟩ s = lsS Lf n lost (t + 1) s := by
 unfold rL; by_cases h : s = 4
 · rw [if_pos h]; unfold lsS; rw [if_pos rfl, if_pos h, List.range_succ, List.map_append]; rfl
 · rw [if_neg h]; unfold lsS; rw [if_neg h, if_neg h]
theorem aFd {lost id i : Nat} (hi : i < 4) (hl : lost < 4) : (i = wA lost id /\ sgL lost id i = 4) \/ (i ≠ wA lost id /\ sgL lost id i = (i + id) % 4 /\ (i + id) % 4 ≠ lost /\ (i + id) % 4 < 4) := by
 unfold sgL wA; by_cases h : (i + id) % 4 = lost
 · rw [show Nat.beq ((i + id) % 4) lost = true from by rw [h]; exact Nat.beq_refl _]
   exact .inl ⟨by omega, rfl⟩
 · rw [show Nat.beq ((i + id) % 4) lost = false from Bool.eq_false_iff.2 λ hh => h (Nat.eq_of_beq_eq_true hh)]
   exact .inr ⟨by omega, rfl, h, Nat.mod_lt _ (by decide)⟩
theorem aMa (lost id : Nat) : wA lost id < 4 := Nat.mod_lt _ (by decide)
def dnT (lost t id i : Nat) : Bool := decide (i = wA lost id) && decide (t <= id)
theorem aOJ (Lf : Nat -> Nat -> Ln) {n lost t id : Nat} (hl : lost < 4) (hid : id < n) : aRR (lsS Lf n lost t) (λ _ => false) (λ i => if i = lost then true else false) (sgL lost id) id (Lf id) (dnT lost t id) := λ i hi => by
 rcases aFd (id := id) hi hl with ⟨h1, h2⟩ | ⟨h1, h2, h3, h4⟩
 · rw [h2]; refine ⟨by decide, ?_⟩
   have lk : lI (lsS Lf n lost t 4) id i = if id < t then some (Lf id i) else none := by
     unfold lsS; rw [if_pos rfl, mL]; by_cases c : id < t
     · rw [if_pos ⟨c, h1.symm⟩, if_pos c, h1]
     · rw [if_neg (λ h => c h.1), if_neg c]
   unfold dnT; rw [lk]; by_cases c : id < t
   · right
     rw [if_pos c, decide_eq_false (by omega : ¬ t <= id), Bool.and_false]
     refine ⟨rfl, ?_, rfl⟩; show (false || if 4 = lost then true else false) = false
     rw [if_neg (by omega)]; rfl
   · left
     rw [if_neg c, decide_eq_true h1, decide_eq_true (by omega : t <= id)]
     exact ⟨rfl, .inr rfl⟩
 · rw [h2]; refine ⟨by omega, .inr ⟨?_, ?_, ?_⟩⟩
   · unfold dnT; rw [decide_eq_false h1]; rfl
   · show (false || if (i + id) % 4 = lost then true else false) = false
     rw [if_neg h3]; rfl
   · unfold lsS kQ; rw [if_neg (by omega), if_pos h4, mL, if_pos ⟨hid, by omega⟩]
     congr 2
     omega
theorem aOD {lost t id : Nat} : iS (dnT lost t id) 4 = if decide (t <= id) then [wA lost id] else [] := by
 unfold iS dnT; have := aMa lost id; generalize wA lost id = x at this; by_cases h : t <= id
 · have : x = 0 \/ x = 1 \/ x = 2 \/ x = 3 := by omega
   rcases this with rfl | rfl | rfl | rfl <;> simp [h] <;> rfl
 · simp [h]
theorem bBH (Lf : Nat -> Nat -> Ln) {n lost id d : Nat} (hl : lost < 4) (hid : id < n) : aRR (lsS Lf n lost n) (λ i => decide (i = d) && !decide (d = lost)) (λ i => if i = lost then true else false) (sgL lost id) id (Lf id) (λ i => decide (sgL lost id i = d) && !decide (d = lost)) := λ i hi => by
 obtain ⟨h0, hg⟩ := aOJ Lf (t := n) hl hid i hi; refine ⟨h0, ?_⟩; rcases hg with ⟨h1, h2⟩ | ⟨h1, h2, h3⟩
 · exfalso
   unfold dnT at h1; rw [Bool.and_eq_true, decide_eq_true_eq, decide_eq_true_eq] at h1; omega
 · have h2' : (if sgL lost id i = lost then true else false) = false := by simpa using h2
   by_cases c : (decide (sgL lost id i = d) && !decide (d = lost)) = true
   · exact .inl ⟨c, .inl (by show ((decide (sgL lost id i = d) && !decide (d = lost)) || _) = true; rw [c]; rfl)⟩
   · rw [Bool.not_eq_true] at c; exact .inr ⟨c, by show ((decide (sgL lost id i = d) && !decide (d = lost)) || (if sgL lost id i = lost then true else false)) = false; rw [c, h2']; rfl, h3⟩
theorem bBC : ∀ id, id < 6 -> ∀ lost, lost < 4 -> ∀ d, d < 5 -> (iS (λ i => decide (sgL lost id i = d) && !decide (d = lost)) 4).length < 2 := by decide
theorem aOV {text : Ln} (h : (tT text 4).length = 4) : l4 (λ i => (tT text 4).getD i []) = tT text 4 := by
 match tT text 4, h with
 | [a, b, c, d], _ => rfl
theorem aUU {text : Ln} (ok : aP text = true) (h2 : text.length <= 1536) : LOk text.length text (λ i => (tT text 4).getD i []) := by
 have hN : jQ text 4 <= 512 := by unfold jQ eP; omega
 obtain ⟨L1, L2⟩ := aOU (s := text) (w := 4) (by decide) hN ok
 have hget : ∀ i, i < 4 -> (tT text 4)[i]? = some ((tT text 4).getD i []) := λ i hi => by
   rw [List.getD_eq_getElem?_getD, List.getElem?_eq_getElem (by omega)]; rfl
 have hm := zU text (w := 4) (by decide)
 refine ⟨λ i hi => L2 _ (List.mem_of_getElem? (hget i hi)), hN, λ i hi => ?_, ?_, by unfold jQ at hm; omega⟩
 · rw [aOV L1]; exact aSU (hget i hi) hN L2 (aTd (by decide) hN ok)
 · rw [aOV L1]; have hf := aGZ (s := text) (w := 4) (by decide)
   have hl : text.length <= (mX text 4).flatten.length := by
     have := congrArg List.length hf; rw [List.length_take] at this; omega
   unfold tT; rw [List.flatten_append, List.take_append_of_le_length hl]; exact hf
end Go.Proofs.YthpciaidbgjoeaaGreat
