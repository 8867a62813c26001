/- Specs. No condition beyond the theorems' own. -/
import Derived.Test.YthpciaidbgjoeaaGreatRw
set_option linter.unusedVariables false
set_option linter.unusedSimpArgs false
noncomputable section
namespace Go.Proofs.YthpciaidbgjoeaaGreat
open Go.DI
abbrev E1 (k : Nat) : bF := SE pJ table k
theorem bAf (k : Nat) : E1 (k + 1) 73 = some kK := by kernel_rfl
theorem aOw (k : Nat) : E1 (k + 1) 182 = some qV := by kernel_rfl
theorem aUz (k : Nat) : E1 (k + 1) 91 = some kX := by kernel_rfl
theorem aOx (k : Nat) : fT (E1 (k + 3)) 75 wO := ⟨_, cN (s := S75) (by kernel_rfl) (by kernel_rfl) (k + 2), aJt (cN (s := aKu) (by kernel_rfl) (by kernel_rfl) (k + 1)) (cN (s := aSr) (by kernel_rfl) (by kernel_rfl) k)⟩
theorem bAh (k : Nat) : fT (E1 (k + 3)) 135 aEh := ⟨_, cN (s := aWq) (by kernel_rfl) (by kernel_rfl) (k + 2), aJs (cN (s := aKu) (by kernel_rfl) (by kernel_rfl) (k + 1)) (cN (s := aSn) (by kernel_rfl) (by kernel_rfl) k)⟩
theorem bEO (k : Nat) : fT (E1 (k + 1)) 109 aAi := ⟨_, cN (s := aSt) (by kernel_rfl) (by kernel_rfl) k, aDq⟩
theorem bBB {E : bF} (hE : E 91 = some kX) : aKv (S59 E) := λ s n h hn hs => ⟨jW s n, by simp [jW]; omega, λ ok => by
 unfold jW; exact eT ok (jA _), by simp [jW], aTs hE _ _ _ (aGc hn hs h)⟩
theorem aUB (k : Nat) : fT (E1 (k + 2)) 59 aKv := ⟨_, cN (s := S59) (by kernel_rfl) (by kernel_rfl) (k + 1), bBB (aUz k)⟩
theorem bAe (k : Nat) : fT (E1 (k + 3)) 147 aAh := ⟨_, cN (s := aSo) (by kernel_rfl) (by kernel_rfl) (k + 2), aBn (cN (s := aEH) (by kernel_rfl) (by kernel_rfl) (k + 1)) (aOw k) (cN (s := aKq) (by kernel_rfl) (by kernel_rfl) (k + 1))⟩
theorem bAg (k : Nat) : fT (E1 (k + 5)) 110 vP := by
 obtain ⟨P, p1, p2⟩ := aUB (k + 2); obtain ⟨Q, q1, q2⟩ := bAe (k + 1); exact ⟨_, cN (s := aSs) (by kernel_rfl) (by kernel_rfl) (k + 4), aBF (cN (s := aEH) (by kernel_rfl) (by kernel_rfl) (k + 3)) (aOw (k + 2)) (cN (s := aKs) (by kernel_rfl) (by kernel_rfl) (k + 3)) p1 p2 q1 q2⟩
theorem aUA (k : Nat) : fT (E1 (k + 2)) 180 nM := ⟨_, cN (s := aWc) (by kernel_rfl) (by kernel_rfl) (k + 1), aGP (by kernel_rfl)⟩
theorem bEN (k : Nat) : aWE (E1 (k + 10)) where
 may := bEO (k + 9)
 free := bAh (k + 7)
 find := aOx (k + 7)
 pad := aUB (k + 8)
 head := bAg (k + 5)
 wr := ⟨_, cN (s := aSp) (by kernel_rfl) (by kernel_rfl) (k + 9)⟩
 st := ⟨_, cN (s := aSq) (by kernel_rfl) (by kernel_rfl) (k + 9), ⟨_, cN (s := aMs) (by kernel_rfl) (by kernel_rfl) (k + 8), by
     obtain ⟨B, b1, b2⟩ := aUA (k + 6); exact ⟨B, b1, b2⟩⟩, _, _, cN (s := aMv) (by kernel_rfl) (by kernel_rfl) (k + 8), cN (s := aKr) (by kernel_rfl) (by kernel_rfl) (k + 7)⟩
theorem bAi (k : Nat) : fT (E1 (k + 11)) 97 aEb := ⟨_, cN (s := S97) (by kernel_rfl) (by kernel_rfl) (k + 10), aLN (bEN k)⟩
theorem bAj (k : Nat) : fT (E1 (k + 4)) 142 aEg := ⟨_, cN (s := aWn) (by kernel_rfl) (by kernel_rfl) (k + 3), aLP (aOx k) (bAf (k + 2))⟩
theorem bEy : fT EG 97 aEb := by
 have := bAi (aT - 11)
 rwa [show aT - 11 + 11 = aT from by unfold aT; omega] at this
theorem bEz : fT EG 142 aEg := by
 have := bAj (aT - 4)
 rwa [show aT - 4 + 4 = aT from by unfold aT; omega] at this
theorem aIC (L : List (Ln)) (a : Nat) (s : Ln) : ∀ (k j : Nat), j < a \/ a + k <= j -> (jF L a s k)[j]? = L[j]?
 | 0, _, _ => rfl
 | k + 1, j, h => by
   show ((jF L a s k).set (a + k) _)[j]? = _; rw [List.getElem?_set, if_neg (by omega)]
   exact aIC L a s k j (by omega)
theorem aNI (L : List (Ln)) (a : Nat) (s : Ln) : ∀ (k j : Nat), j < k -> a + k <= L.length -> (jF L a s k)[a + j]? = some ((s.take ((j + 1) * 64)).drop (j * 64))
 | 0, _, h, _ => absurd h (Nat.not_lt_zero _)
 | k + 1, j, h, hl => by
   show ((jF L a s k).set (a + k) _)[a + j]? = _; rw [List.getElem?_set]; by_cases e : j = k
   · subst e; rw [if_pos rfl, if_pos (by rw [nC]; omega)]
   · rw [if_neg (by omega)]; exact aNI L a s k j (by omega) (by omega)
theorem aNW {L L' : List (Ln)} {a b : Nat} : ∀ {n : Nat}, (∀ j, j < n -> L[a + j]? = L'[b + j]?) -> rdS L a n = rdS L' b n := by
 intro n h; unfold rdS
 congr 1
 apply List.ext_getElem?; intro j; simp only [List.getElem?_take, List.getElem?_drop]; split
 · rename_i hj; exact h j hj
 · rfl
theorem aIJ {L : List (Ln)} {a : Nat} {s : Ln} : ∀ {k : Nat}, a + k <= L.length -> k * 64 <= s.length -> rdS (jF L a s k) a k = s.take (k * 64)
 | 0, _, _ => by simp [rdS]
 | k + 1, hl, hs => by
   have h1 : rdS (jF L a s (k + 1)) a (k + 1) = rdS (jF L a s (k + 1)) a k ++ (s.take ((k + 1) * 64)).drop (k * 64) := by
     have e := aNI L a s (k + 1) k (by omega) hl
     unfold rdS; rw [List.take_add_one, List.getElem?_drop, e]; simp
   have h2 : rdS (jF L a s (k + 1)) a k = rdS (jF L a s k) a k := aNW λ j hj => by
     show ((jF L a s k).set (a + k) _)[a + j]? = _; rw [List.getElem?_set, if_neg (by omega)]
   rw [h1, h2, aIJ (by omega) (by omega)]
   rw [show s.take (k * 64) = (s.take ((k + 1) * 64)).take (k * 64) from by rw [List.take_take]; congr 1; omega]
   exact List.take_append_drop _ _
theorem aIB {L : List (Ln)} {a : Nat} {s t : Ln} : ∀ {k : Nat}, t ∈ jF L a s k -> t ∈ L \/ ∃ j, j < k /\ t = (s.take ((j + 1) * 64)).drop (j * 64)
 | 0, h => .inl h
 | k + 1, h => by
   rcases List.mem_or_eq_of_mem_set h with h | h
   · rcases aIB h with h | ⟨j, hj, h⟩
     · exact .inl h
     · exact .inr ⟨j, by omega, h⟩
   · exact .inr ⟨k, by omega, h⟩
theorem aCJ {L : List (Ln)} {a : Nat} {s : Ln} {k : Nat} (hL : vM L) (hs : aW s = true) (hl : k * 64 <= s.length) : vM (jF L a s k) := by
 intro t ht; rcases aIB ht with h | ⟨j, hj, rfl⟩
 · exact hL t h
 · refine ⟨mK hs λ b hb => List.mem_of_mem_take (List.mem_of_mem_drop hb), ?_⟩
   have : (j + 1) * 64 <= k * 64 := Nat.mul_le_mul_right _ (by omega)
   rw [List.length_drop, List.length_take]; omega
structure tR (X : fM) (st ix : Nat) (body : Ln) : Prop where
 i : X.M.findIdx? (atP st ix) = some 0
 e : X.M[0]? = some ⟨true, st, ix, body.length⟩
 r : (rdS X.L 1 8).take body.length = body
 ok : vM X.L
 sz : body.length <= 512
theorem aId (n : Nat) : vM (List.replicate n gF) := λ s hs => by
 rw [List.eq_of_mem_replicate hs]; exact ⟨jA 64, List.length_replicate⟩
theorem aRL {n st ix : Nat} {body whole hd : Ln} (hn : 9 <= n) (hb : body.length <= 512) (h1 : whole.length = 512) (h2 : whole.take body.length = body) (h3 : aW whole = true) (h4 : hd.length = 64) (h5 : aW hd = true) (dn ls : Bool) :
   tR ⟨dn, ls, (uT (n / 9)).set 0 ⟨true, st, ix, body.length⟩, jF (jF (List.replicate n gF) 1 whole 8) 0 hd 1⟩ st ix body where
 i := by
   obtain ⟨k, hk⟩ : ∃ k, n / 9 = k + 1 := ⟨n / 9 - 1, by omega⟩
   simp [uT, hk, List.replicate_succ, List.findIdx?_cons, atP]
 e := by
   obtain ⟨k, hk⟩ : ∃ k, n / 9 = k + 1 := ⟨n / 9 - 1, by omega⟩
   simp [uT, hk, List.replicate_succ]
 r := by
   have h : rdS (jF (jF (List.replicate n gF) 1 whole 8) 0 hd 1) 1 8 = rdS (jF (List.replicate n gF) 1 whole 8) 1 8 := aNW λ j hj => aIC _ _ _ _ _ (.inr (by omega))
   show (rdS (jF (jF (List.replicate n gF) 1 whole 8) 0 hd 1) 1 8).take body.length = body; rw [h, aIJ (by rw [List.length_replicate]; omega) (by omega), List.take_of_length_le (i := 8 * 64) (by omega)]
   exact h2
 ok := aCJ (aCJ (aId n) h3 (by omega)) h5 (by omega)
 sz := hb
end Go.Proofs.YthpciaidbgjoeaaGreat
end
