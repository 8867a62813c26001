/- Specs. No condition beyond the theorems' own. -/
import Derived.Test.YthpciaidbgjoeaaGreatRw
set_option linter.unusedVariables false
set_option linter.unusedSimpArgs false
noncomputable section
namespace Go.Proofs.YthpciaidbgjoeaaGreat
open Go.DI
abbrev E1 (k : Nat) : aQ := SE pI table k
theorem bCB (k : Nat) : E1 (k + 1) 73 = some kE := by kernel_rfl
theorem aPd (k : Nat) : E1 (k + 1) 182 = some qR := by kernel_rfl
theorem aVV (k : Nat) : E1 (k + 1) 91 = some kW := by kernel_rfl
theorem aPe (k : Nat) : fK (E1 (k + 3)) 75 wM := ⟨_, cO (s := S75) (by kernel_rfl) (by kernel_rfl) (k + 2), aJI (cO (s := aKH) (by kernel_rfl) (by kernel_rfl) (k + 1)) (cO (s := aTt) (by kernel_rfl) (by kernel_rfl) k)⟩
theorem bCD (k : Nat) : fK (E1 (k + 3)) 135 aEp := ⟨_, cO (s := aXY) (by kernel_rfl) (by kernel_rfl) (k + 2), aJH (cO (s := aKH) (by kernel_rfl) (by kernel_rfl) (k + 1)) (cO (s := aTp) (by kernel_rfl) (by kernel_rfl) k)⟩
theorem bHU (k : Nat) : fK (E1 (k + 1)) 109 aAj := ⟨_, cO (s := aTv) (by kernel_rfl) (by kernel_rfl) k, aDw⟩
theorem bEk {E : aQ} (hE : E 91 = some kW) : aKI (S59 E) := λ s n h hn hs => ⟨jL s n, by simp [jL]; omega, λ ok => by
 unfold jL; exact eG ok (iR _), by simp [jL], aUB hE _ _ _ (aGk hn hs h)⟩
theorem aVX (k : Nat) : fK (E1 (k + 2)) 59 aKI := ⟨_, cO (s := S59) (by kernel_rfl) (by kernel_rfl) (k + 1), bEk (aVV k)⟩
theorem bCA (k : Nat) : fK (E1 (k + 3)) 147 aAi := ⟨_, cO (s := aTq) (by kernel_rfl) (by kernel_rfl) (k + 2), aBn (cO (s := aEO) (by kernel_rfl) (by kernel_rfl) (k + 1)) (aPd k) (cO (s := aKD) (by kernel_rfl) (by kernel_rfl) (k + 1))⟩
theorem bCC (k : Nat) : fK (E1 (k + 5)) 110 vI := by
 obtain ⟨P, p1, p2⟩ := aVX (k + 2); obtain ⟨Q, q1, q2⟩ := bCA (k + 1); exact ⟨_, cO (s := aTu) (by kernel_rfl) (by kernel_rfl) (k + 4), aBE (cO (s := aEO) (by kernel_rfl) (by kernel_rfl) (k + 3)) (aPd (k + 2)) (cO (s := aKF) (by kernel_rfl) (by kernel_rfl) (k + 3)) p1 p2 q1 q2⟩
theorem aVW (k : Nat) : fK (E1 (k + 2)) 180 nH := ⟨_, cO (s := aXF) (by kernel_rfl) (by kernel_rfl) (k + 1), aHc (by kernel_rfl)⟩
theorem bHT (k : Nat) : aYq (E1 (k + 10)) where
 may := bHU (k + 9)
 free := bCD (k + 7)
 find := aPe (k + 7)
 pad := aVX (k + 8)
 head := bCC (k + 5)
 wr := ⟨_, cO (s := aTr) (by kernel_rfl) (by kernel_rfl) (k + 9)⟩
 st := ⟨_, cO (s := aTs) (by kernel_rfl) (by kernel_rfl) (k + 9), ⟨_, cO (s := aMN) (by kernel_rfl) (by kernel_rfl) (k + 8), by
     obtain ⟨B, b1, b2⟩ := aVW (k + 6); exact ⟨B, b1, b2⟩⟩, _, _, cO (s := aMQ) (by kernel_rfl) (by kernel_rfl) (k + 8), cO (s := aKE) (by kernel_rfl) (by kernel_rfl) (k + 7)⟩
theorem bCE (k : Nat) : fK (E1 (k + 11)) 97 aEj := ⟨_, cO (s := S97) (by kernel_rfl) (by kernel_rfl) (k + 10), aMi (bHT k)⟩
theorem bCF (k : Nat) : fK (E1 (k + 4)) 142 aEo := ⟨_, cO (s := aXV) (by kernel_rfl) (by kernel_rfl) (k + 3), aMk (aPe k) (bCB (k + 2))⟩
theorem bHE : fK EG 97 aEj := by
 have := bCE (aK - 11)
 rwa [show aK - 11 + 11 = aK from by unfold aK; omega] at this
theorem bHF : fK EG 142 aEo := by
 have := bCF (aK - 4)
 rwa [show aK - 4 + 4 = aK from by unfold aK; omega] at this
theorem yY (L : List (Ln)) (a : Nat) (s : Ln) : ∀ (k j : Nat), j < a \/ a + k <= j -> (iM L a s k)[j]? = L[j]?
 | 0, _, _ => rfl
 | k + 1, j, h => by
   show ((iM L a s k).set (a + k) _)[j]? = _; rw [List.getElem?_set, if_neg (by omega)]
   exact yY L a s k j (by omega)
theorem aOi (L : List (Ln)) (a : Nat) (s : Ln) : ∀ (k j : Nat), j < k -> a + k <= L.length -> (iM L a s k)[a + j]? = some ((s.take ((j + 1) * 64)).drop (j * 64))
 | 0, _, h, _ => absurd h (Nat.not_lt_zero _)
 | k + 1, j, h, hl => by
   show ((iM L a s k).set (a + k) _)[a + j]? = _; rw [List.getElem?_set]; by_cases e : j = k
   · subst e; rw [if_pos rfl, if_pos (by rw [kK]; omega)]
   · rw [if_neg (by omega)]; exact aOi L a s k j (by omega) (by omega)
theorem aGG {L L' : List (Ln)} {a b : Nat} : ∀ {n : Nat}, (∀ j, j < n -> L[a + j]? = L'[b + j]?) -> rdS L a n = rdS L' b n := by
 intro n h; unfold rdS
 congr 1
 apply List.ext_getElem?; intro j; simp only [List.getElem?_take, List.getElem?_drop]; split
 · rename_i hj; exact h j hj
 · rfl
theorem aIZ {L : List (Ln)} {a : Nat} {s : Ln} : ∀ {k : Nat}, a + k <= L.length -> k * 64 <= s.length -> rdS (iM L a s k) a k = s.take (k * 64)
 | 0, _, _ => by simp [rdS]
 | k + 1, hl, hs => by
   have h1 : rdS (iM L a s (k + 1)) a (k + 1) = rdS (iM L a s (k + 1)) a k ++ (s.take ((k + 1) * 64)).drop (k * 64) := by
     have e := aOi L a s (k + 1) k (by omega) hl
     unfold rdS; rw [List.take_add_one, List.getElem?_drop, e]; simp
   have h2 : rdS (iM L a s (k + 1)) a k = rdS (iM L a s k) a k := aGG λ j hj => by
     show ((iM L a s k).set (a + k) _)[a + j]? = _; rw [List.getElem?_set, if_neg (by omega)]
   rw [h1, h2, aIZ (by omega) (by omega)]
   rw [show s.take (k * 64) = (s.take ((k + 1) * 64)).take (k * 64) from by rw [List.take_take]; congr 1; omega]
   exact List.take_append_drop _ _
theorem aIS {L : List (Ln)} {a : Nat} {s t : Ln} : ∀ {k : Nat}, t ∈ iM L a s k -> t ∈ L \/ ∃ j, j < k /\ t = (s.take ((j + 1) * 64)).drop (j * 64)
 | 0, h => .inl h
 | k + 1, h => by
   rcases List.mem_or_eq_of_mem_set h with h | h
   · rcases aIS h with h | ⟨j, hj, h⟩
     · exact .inl h
     · exact .inr ⟨j, by omega, h⟩
   · exact .inr ⟨k, by omega, h⟩
theorem aCM {L : List (Ln)} {a : Nat} {s : Ln} {k : Nat} (hL : vG L) (hs : aP s = true) (hl : k * 64 <= s.length) : vG (iM L a s k) := by
 intro t ht; rcases aIS ht with h | ⟨j, hj, rfl⟩
 · exact hL t h
 · refine ⟨rD hs λ b hb => List.mem_of_mem_take (List.mem_of_mem_drop hb), ?_⟩
   have : (j + 1) * 64 <= k * 64 := Nat.mul_le_mul_right _ (by omega)
   rw [List.length_drop, List.length_take]; omega
theorem aIw (n : Nat) : vG (List.replicate n iK) := λ s hs => by
 rw [List.eq_of_mem_replicate hs]; exact ⟨iR 64, List.length_replicate⟩
end Go.Proofs.YthpciaidbgjoeaaGreat
end
