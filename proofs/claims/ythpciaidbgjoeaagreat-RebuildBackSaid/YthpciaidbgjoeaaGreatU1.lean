/- Specs. No condition beyond the theorems' own. -/
import Derived.Test.YthpciaidbgjoeaaGreatU0
set_option linter.unusedVariables false
set_option linter.unusedSimpArgs false
noncomputable section
namespace Go.Proofs.YthpciaidbgjoeaaGreat
open Go.DI
def rDo2 (E : aQ) (kind : Nat) (xs : List DV) (a : DV) (h : H) : Option (DV × H) := h.pushK (.blk ⟨xs.length, 1, false, true, Tr.ofL xs⟩) λ h' => aB E 29 [a, .int .i64 (.ofNat 15), .int .i64 (.ofNat kind), .slc h.size 0 xs.length xs.length false] h'
def isT (r : Option (DV × H)) (p : DV -> H -> Bool) : Bool := Option.rec (motive := λ _ => Bool) false (λ x => p x.1 x.2) r
def isO (r : Option DV) (p : DV -> Bool) : Bool := Option.rec (motive := λ _ => Bool) false p r
def isP (v : DV) (p : Nat -> Bool) : Bool := match v with
 | .ptr b 0 => p b
 | _ => false
def aKz (v : DV) (e : Nat) : Bool := match v with
 | .tup [.int .i64 (.ofNat n), _] => Nat.beq n e
 | _ => false
def aGy (v : DV) (h : H) (w : Nat) : Bool := match v with
 | .tup [.int .i64 (.ofNat 0), .slc b 0 2 2 _] => isO (rdCell h.get b 0) λ x => gL x (.int .i64 (.ofNat w))
 | _ => false
def stB (h : H) (a m : Nat) : Bool := (isO (rdCell h.get a 0) λ x => gL x (.ptr 2 0)) && isO (rdCell h.get a 1) λ x => gL x (.ptr m 0)
theorem tC {r : Option (DV × H)} {p : DV -> H -> Bool} (h : isT r p = true) : ∃ v h', r = some (v, h') /\ p v h' = true := by
 cases r with
 | none => cases h
 | some x => exact ⟨x.1, x.2, rfl, h⟩
theorem yC {r : Option DV} {p : DV -> Bool} (h : isO r p = true) : ∃ v, r = some v /\ p v = true := by
 cases r with
 | none => cases h
 | some x => exact ⟨x, rfl, h⟩
theorem aVa {v : DV} {p : Nat -> Bool} (h : isP v p = true) : ∃ b, v = .ptr b 0 /\ p b = true := by
 unfold isP at h; split at h
 · exact ⟨_, rfl, h⟩
 · cases h
theorem aEb {v : DV} {e : Nat} (h : aKz v e = true) : ∃ l, v = .tup [.int .i64 (.ofNat e), l] := by
 unfold aKz at h; split at h
 · rw [Nat.eq_of_beq_eq_true h]; exact ⟨_, rfl⟩
 · cases h
theorem aLF {v : DV} {h : H} {w : Nat} (e : aGy v h w = true) : ∃ b op, v = .tup [.int .i64 (.ofNat 0), .slc b 0 2 2 op] /\ rdCell h.get b 0 = some (.int .i64 (.ofNat w)) := by
 unfold aGy at e; split at e
 · obtain ⟨x, e1, e2⟩ := yC e; rw [gO _ _ e2] at e1; exact ⟨_, _, rfl, e1⟩
 · cases e
structure Stg (h : H) (a m : Nat) : Prop where
 c0 : rdCell h.get a 0 = some (.ptr 2 0)
 c1 : rdCell h.get a 1 = some (.ptr m 0)
theorem aCE {h : H} {a m : Nat} (e : stB h a m = true) : Stg h a m := by
 unfold stB at e; rw [Bool.and_eq_true] at e; obtain ⟨x, e1, e2⟩ := yC e.1; obtain ⟨y, e3, e4⟩ := yC e.2; rw [gO _ _ e2] at e1; rw [gO _ _ e4] at e3; exact ⟨e1, e3⟩
def aWo (E : aQ) (kind e : Nat) (pre : List DV) (a m : Nat) (h : H) (k : DV -> H -> Bool) : Bool := stB h a m && isT (aB E 69 [.ptr m 0] h) λ x h1 => gL x (.int .i64 (.ofNat e)) && isT (rDo2 E kind (pre ++ [.int .i64 (.ofNat e)]) (.ptr a 0) h1) k
structure Cmd (E : aQ) (kind e : Nat) (pre : List DV) (a m : Nat) (h : H) (v : DV) (h2 : H) : Prop where
 st : Stg h a m
 run : ∃ h1, aB E 69 [.ptr m 0] h = some (.int .i64 (.ofNat e), h1) /\ rDo2 E kind (pre ++ [.int .i64 (.ofNat e)]) (.ptr a 0) h1 = some (v, h2)
theorem aHj {E : aQ} {kind e : Nat} {pre : List DV} {a m : Nat} {h : H} {k : DV -> H -> Bool} (c : aWo E kind e pre a m h k = true) : ∃ v h2, Cmd E kind e pre a m h v h2 /\ k v h2 = true := by
 unfold aWo at c; rw [Bool.and_eq_true] at c; obtain ⟨x, h1, e1, c2⟩ := tC c.2; rw [Bool.and_eq_true] at c2; rw [gO _ _ c2.1] at e1; obtain ⟨v, h2, e2, c3⟩ := tC c2.2; exact ⟨v, h2, ⟨aCE c.1, h1, e1, e2⟩, c3⟩
def arrB (E : aQ) (w s : Nat) (k : Nat -> Nat -> H -> Bool) : Bool := isT (aJc E w s) λ a h => isP a λ a => isO (rdCell h.get a 1) λ m => isP m λ m => k a m h
theorem bDe {E : aQ} {w s : Nat} {k : Nat -> Nat -> H -> Bool} (c : arrB E w s k = true) : ∃ a m h, aJc E w s = some (.ptr a 0, h) /\ rdCell h.get a 1 = some (.ptr m 0) /\ k a m h = true := by
 obtain ⟨v, h, e1, c1⟩ := tC c; obtain ⟨a, rfl, c2⟩ := aVa c1; obtain ⟨u, e2, c3⟩ := yC c2; obtain ⟨m, rfl, c4⟩ := aVa c3; exact ⟨a, m, h, e1, e2, c4⟩
theorem sL2 {x y z : DV} {h : H} {kk : DV -> H -> Option (DV × H)} {Q : DV -> H -> Prop} (hx : x.one = true) (hy : y.one = true) (r : W (kk (.slc h.size 0 2 2 false) (h.push (.blk ⟨2, 1, false, true, Tr.ofL [x, y]⟩))) Q) : W (dI 2 1 [z] [(0, 1, x), (1, 1, y)] h kk) Q := by
 have hf : fG (iI [z] 2) [(0, 1, x), (1, 1, y)] = some [x, y] := by
   have hc : x.cells = [x] := by cases x <;> first | rfl | cases hx
   have hd : y.cells = [y] := by cases y <;> first | rfl | cases hy
   simp [iI, fG, hc, hd, pW]
   rfl
 simp only [dI, hf, Option.bind_some, H.pushK_eq]; exact r
section
variable {V : Vl} {Es' : aQ} {hs h' : H} {a m : Nat} {A : Re} {g g' : H} {pr : Nat} {sp : Int} {pb : Nat} {L : List DV} {pa pm sv lb : Nat} {S : List cZ} {X X' : List eX}
theorem iX.grown (r : iX V hs a m A g pa pm sv lb S X) (k : aX g g') : iX V hs a m A g' pa pm sv lb S X := ⟨(tD r.hr k).1, r.a, r.m, r.s, r.q.grown k, r.d⟩
end
end Go.Proofs.YthpciaidbgjoeaaGreat
end
