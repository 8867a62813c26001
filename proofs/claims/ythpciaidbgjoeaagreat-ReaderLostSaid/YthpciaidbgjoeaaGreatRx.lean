/- Specs. No condition beyond the theorems' own. -/
import Derived.Test.YthpciaidbgjoeaaGreatRw
set_option linter.unusedVariables false
set_option linter.unusedSimpArgs false
noncomputable section
namespace Go.Proofs.YthpciaidbgjoeaaGreat
open Go.DI
abbrev E1 (k : Nat) : bH := SE pA table k
theorem aZx (k : Nat) : E1 (k + 1) 73 = some kH := by kernel_rfl
theorem aNO (k : Nat) : E1 (k + 1) 182 = some qM := by kernel_rfl
theorem aTL (k : Nat) : E1 (k + 1) 91 = some kU := by kernel_rfl
theorem aNP (k : Nat) : fU (E1 (k + 3)) 75 vY := ⟨_, cO (s := S75) (by kernel_rfl) (by kernel_rfl) (k + 2), aIV (cO (s := aJS) (by kernel_rfl) (by kernel_rfl) (k + 1)) (cO (s := aRC) (by kernel_rfl) (by kernel_rfl) k)⟩
theorem aZz (k : Nat) : fU (E1 (k + 3)) 135 aDO := ⟨_, cO (s := aVA) (by kernel_rfl) (by kernel_rfl) (k + 2), aIU (cO (s := aJS) (by kernel_rfl) (by kernel_rfl) (k + 1)) (cO (s := aRy) (by kernel_rfl) (by kernel_rfl) k)⟩
theorem bEl (k : Nat) : fU (E1 (k + 1)) 109 zV := ⟨_, cO (s := aRE) (by kernel_rfl) (by kernel_rfl) k, aCX⟩
theorem bAT {E : bH} (hE : E 91 = some kU) : aJT (S59 E) := λ s n h hn hs => ⟨jS s n, by simp [jS]; omega, λ ok => by
 unfold jS; exact eJ ok (iW _), by simp [jS], aSB hE _ _ _ (aFJ hn hs h)⟩
theorem aTN (k : Nat) : fU (E1 (k + 2)) 59 aJT := ⟨_, cO (s := S59) (by kernel_rfl) (by kernel_rfl) (k + 1), bAT (aTL k)⟩
theorem aZw (k : Nat) : fU (E1 (k + 3)) 147 zU := ⟨_, cO (s := aRz) (by kernel_rfl) (by kernel_rfl) (k + 2), aAY (cO (s := aEq) (by kernel_rfl) (by kernel_rfl) (k + 1)) (aNO k) (cO (s := aJO) (by kernel_rfl) (by kernel_rfl) (k + 1))⟩
theorem aZy (k : Nat) : fU (E1 (k + 5)) 110 vB := by
 obtain ⟨P, p1, p2⟩ := aTN (k + 2); obtain ⟨Q, q1, q2⟩ := aZw (k + 1); exact ⟨_, cO (s := aRD) (by kernel_rfl) (by kernel_rfl) (k + 4), aBt (cO (s := aEq) (by kernel_rfl) (by kernel_rfl) (k + 3)) (aNO (k + 2)) (cO (s := aJQ) (by kernel_rfl) (by kernel_rfl) (k + 3)) p1 p2 q1 q2⟩
theorem aTM (k : Nat) : fU (E1 (k + 2)) 180 nD := ⟨_, cO (s := aVm) (by kernel_rfl) (by kernel_rfl) (k + 1), aGy (by kernel_rfl)⟩
theorem bEk (k : Nat) : aVO (E1 (k + 10)) where
 may := bEl (k + 9)
 free := aZz (k + 7)
 find := aNP (k + 7)
 pad := aTN (k + 8)
 head := aZy (k + 5)
 wr := ⟨_, cO (s := aRA) (by kernel_rfl) (by kernel_rfl) (k + 9)⟩
 st := ⟨_, cO (s := aRB) (by kernel_rfl) (by kernel_rfl) (k + 9), ⟨_, cO (s := aLL) (by kernel_rfl) (by kernel_rfl) (k + 8), by
     obtain ⟨B, b1, b2⟩ := aTM (k + 6); exact ⟨B, b1, b2⟩⟩, _, _, cO (s := aLO) (by kernel_rfl) (by kernel_rfl) (k + 8), cO (s := aJP) (by kernel_rfl) (by kernel_rfl) (k + 7)⟩
theorem aZA (k : Nat) : fU (E1 (k + 11)) 97 aDI := ⟨_, cO (s := S97) (by kernel_rfl) (by kernel_rfl) (k + 10), aLf (bEk k)⟩
theorem aZB (k : Nat) : fU (E1 (k + 4)) 142 aDN := ⟨_, cO (s := aVx) (by kernel_rfl) (by kernel_rfl) (k + 3), aLh (aNP k) (aZx (k + 2))⟩
theorem bDV : fU EG 97 aDI := by
 have := aZA (aT - 11)
 rwa [show aT - 11 + 11 = aT from by unfold aT; omega] at this
theorem bDW : fU EG 142 aDN := by
 have := aZB (aT - 4)
 rwa [show aT - 4 + 4 = aT from by unfold aT; omega] at this
theorem aIh (L : List (Ln)) (a : Nat) (s : Ln) : ∀ (k j : Nat), j < a \/ a + k <= j -> (jB L a s k)[j]? = L[j]?
 | 0, _, _ => rfl
 | k + 1, j, h => by
   show ((jB L a s k).set (a + k) _)[j]? = _; rw [List.getElem?_set, if_neg (by omega)]
   exact aIh L a s k j (by omega)
theorem aNa (L : List (Ln)) (a : Nat) (s : Ln) : ∀ (k j : Nat), j < k -> a + k <= L.length -> (jB L a s k)[a + j]? = some ((s.take ((j + 1) * 64)).drop (j * 64))
 | 0, _, h, _ => absurd h (Nat.not_lt_zero _)
 | k + 1, j, h, hl => by
   show ((jB L a s k).set (a + k) _)[a + j]? = _; rw [List.getElem?_set]; by_cases e : j = k
   · subst e; rw [if_pos rfl, if_pos (by rw [mU]; omega)]
   · rw [if_neg (by omega)]; exact aNa L a s k j (by omega) (by omega)
theorem aNp {L L' : List (Ln)} {a b : Nat} : ∀ {n : Nat}, (∀ j, j < n -> L[a + j]? = L'[b + j]?) -> rdS L a n = rdS L' b n := by
 intro n h; unfold rdS
 congr 1
 apply List.ext_getElem?; intro j; simp only [List.getElem?_take, List.getElem?_drop]; split
 · rename_i hj; exact h j hj
 · rfl
theorem aIo {L : List (Ln)} {a : Nat} {s : Ln} : ∀ {k : Nat}, a + k <= L.length -> k * 64 <= s.length -> rdS (jB L a s k) a k = s.take (k * 64)
 | 0, _, _ => by simp [rdS]
 | k + 1, hl, hs => by
   have h1 : rdS (jB L a s (k + 1)) a (k + 1) = rdS (jB L a s (k + 1)) a k ++ (s.take ((k + 1) * 64)).drop (k * 64) := by
     have e := aNa L a s (k + 1) k (by omega) hl
     unfold rdS; rw [List.take_add_one, List.getElem?_drop, e]; simp
   have h2 : rdS (jB L a s (k + 1)) a k = rdS (jB L a s k) a k := aNp λ j hj => by
     show ((jB L a s k).set (a + k) _)[a + j]? = _; rw [List.getElem?_set, if_neg (by omega)]
   rw [h1, h2, aIo (by omega) (by omega)]
   rw [show s.take (k * 64) = (s.take ((k + 1) * 64)).take (k * 64) from by rw [List.take_take]; congr 1; omega]
   exact List.take_append_drop _ _
theorem aIg {L : List (Ln)} {a : Nat} {s t : Ln} : ∀ {k : Nat}, t ∈ jB L a s k -> t ∈ L \/ ∃ j, j < k /\ t = (s.take ((j + 1) * 64)).drop (j * 64)
 | 0, h => .inl h
 | k + 1, h => by
   rcases List.mem_or_eq_of_mem_set h with h | h
   · rcases aIg h with h | ⟨j, hj, h⟩
     · exact .inl h
     · exact .inr ⟨j, by omega, h⟩
   · exact .inr ⟨k, by omega, h⟩
theorem aCr {L : List (Ln)} {a : Nat} {s : Ln} {k : Nat} (hL : uY L) (hs : aW s = true) (hl : k * 64 <= s.length) : uY (jB L a s k) := by
 intro t ht; rcases aIg ht with h | ⟨j, hj, rfl⟩
 · exact hL t h
 · refine ⟨qY hs λ b hb => List.mem_of_mem_take (List.mem_of_mem_drop hb), ?_⟩
   have : (j + 1) * 64 <= k * 64 := Nat.mul_le_mul_right _ (by omega)
   rw [List.length_drop, List.length_take]; omega
structure tG (X : iS) (st ix : Nat) (body : Ln) : Prop where
 i : X.M.findIdx? (atP st ix) = some 0
 e : X.M[0]? = some ⟨true, st, ix, body.length⟩
 r : (rdS X.L 1 8).take body.length = body
 ok : uY X.L
 sz : body.length <= 512
theorem aHJ (n : Nat) : uY (List.replicate n fY) := λ s hs => by
 rw [List.eq_of_mem_replicate hs]; exact ⟨iW 64, List.length_replicate⟩
theorem aQX {n st ix : Nat} {body whole hd : Ln} (hn : 9 <= n) (hb : body.length <= 512) (h1 : whole.length = 512) (h2 : whole.take body.length = body) (h3 : aW whole = true) (h4 : hd.length = 64) (h5 : aW hd = true) (dn ls : Bool) :
   tG ⟨dn, ls, (uH (n / 9)).set 0 ⟨true, st, ix, body.length⟩, jB (jB (List.replicate n fY) 1 whole 8) 0 hd 1⟩ st ix body where
 i := by
   obtain ⟨k, hk⟩ : ∃ k, n / 9 = k + 1 := ⟨n / 9 - 1, by omega⟩
   simp [uH, hk, List.replicate_succ, List.findIdx?_cons, atP]
 e := by
   obtain ⟨k, hk⟩ : ∃ k, n / 9 = k + 1 := ⟨n / 9 - 1, by omega⟩
   simp [uH, hk, List.replicate_succ]
 r := by
   have h : rdS (jB (jB (List.replicate n fY) 1 whole 8) 0 hd 1) 1 8 = rdS (jB (List.replicate n fY) 1 whole 8) 1 8 := aNp λ j hj => aIh _ _ _ _ _ (.inr (by omega))
   show (rdS (jB (jB (List.replicate n fY) 1 whole 8) 0 hd 1) 1 8).take body.length = body; rw [h, aIo (by rw [List.length_replicate]; omega) (by omega), List.take_of_length_le (i := 8 * 64) (by omega)]
   exact h2
 ok := aCr (aCr (aHJ n) h3 (by omega)) h5 (by omega)
 sz := hb
end Go.Proofs.YthpciaidbgjoeaaGreat
end
