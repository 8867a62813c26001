/- Specs. No condition beyond the theorems' own. -/
import Derived.Test.YthpciaidbgjoeaaGreatU4
set_option linter.unusedVariables false
set_option linter.unusedSimpArgs false
namespace Go.Proofs.YthpciaidbgjoeaaGreat
open Go.DI
theorem aWb {w : Nat} (h2 : 2 <= w) (h8 : w <= 8) : chW w = true := by
 have : w = 2 \/ w = 3 \/ w = 4 \/ w = 5 \/ w = 6 \/ w = 7 \/ w = 8 := by omega
 rcases this with rfl | rfl | rfl | rfl | rfl | rfl | rfl
 · exact chW2
 · exact chW3
 · exact chW4
 · exact chW5
 · exact chW6
 · exact chW7
 · exact chW8
theorem elc {f : Nat} {s : aX -> bB} (hB : base f = none) (hT : Tr.at_ table f = some s) (k : Nat) : ∀ a b, aB (EL (k + 1)) f a b = s (EL k) a b := λ a b => cF (eT hB hT k) a b
theorem uM (m : Nat) : aWJ (EL (m + 63)) (EL (m + 62)) (EL (m + 61)) where
 aw := aKg (by kernel_rfl) (m + 62)
 new := elc (s := S8) (by kernel_rfl) (by kernel_rfl) (m + 62)
 rn := elc (s := S18) (by kernel_rfl) (by kernel_rfl) (m + 62)
 fl := elc (s := S19) (by kernel_rfl) (by kernel_rfl) (m + 62)
 st := elc (s := S20) (by kernel_rfl) (by kernel_rfl) (m + 62)
 lf := elc (s := S21) (by kernel_rfl) (by kernel_rfl) (m + 62)
 fi := elc (s := S22) (by kernel_rfl) (by kernel_rfl) (m + 62)
 ep := elc (s := S40) (by kernel_rfl) (by kernel_rfl) (m + 61)
 sv := elc (s := S10) (by kernel_rfl) (by kernel_rfl) (m + 61)
 ls := elc (s := S14) (by kernel_rfl) (by kernel_rfl) (m + 61)
 at_ := (eT (B := base) (T := table) (s := S33) (by kernel_rfl) (by kernel_rfl) (m + 60)).trans (congrArg some rfl)
 l2 := elc (s := S21) (by kernel_rfl) (by kernel_rfl) (m + 61)
 fm := ⟨_, elc (s := S41) (by kernel_rfl) (by kernel_rfl) (m + 61)⟩
 gm := ⟨_, elc (s := S41) (by kernel_rfl) (by kernel_rfl) (m + 60)⟩
 nw := aOF (m + 54)
theorem zQ {N sec w s i k : Int} (hi : eS i) (hk : eS k) : (S5 (SE base table 67) [.agg [.int .i64 N, .int .i64 sec, .int .i64 w, .int .i64 s], .int .i64 i, .int .i64 k] H0).map (λ x => x.1) = some (.bool true) := by
 have fin : W (S5 (EL (4 + 63)) [.agg [.int .i64 N, .int .i64 sec, .int .i64 w, .int .i64 s], .int .i64 i, .int .i64 k] H0) (λ v _ => v = .bool true) -> (S5 (SE base table 67) [.agg [.int .i64 N, .int .i64 sec, .int .i64 w, .int .i64 s], .int .i64 i, .int .i64 k] H0).map (λ x => x.1) = some (.bool true) := by
   rintro ⟨v, h', e, rfl⟩
   show (S5 (EL (4 + 63)) _ _).map _ = _; rw [e]; rfl
 refine fin ?_; by_cases hs : .ofNat 200 < sec
 · exact aUJ (uM 4).aw hs H0
 by_cases hb : 1 <= N /\ N <= 8 /\ 2 <= w /\ w <= 8 /\ 0 <= s /\ s <= N - w
 · obtain ⟨b1, b2, b3, b4, b5, b6⟩ := hb; obtain ⟨N, rfl⟩ : ∃ n : Nat, N = .ofNat n := ⟨N.toNat, (Int.toNat_of_nonneg (by omega)).symm⟩
   obtain ⟨w, rfl⟩ : ∃ n : Nat, w = .ofNat n := ⟨w.toNat, (Int.toNat_of_nonneg (by omega)).symm⟩
   obtain ⟨s, rfl⟩ : ∃ n : Nat, s = .ofNat n := ⟨s.toNat, (Int.toNat_of_nonneg (by omega)).symm⟩
   simp only [Int.ofNat_eq_natCast] at b1 b2 b3 b4 b5 b6; obtain ⟨c1, c2⟩ := bAC (s := s) (aWb (w := w) (by omega) (by omega)) (by omega)
   have z0 : eS (.ofNat 0) := kH (n := 0) (by decide)
   have z1 : eS (.negSucc 0) := ⟨by decide, by decide⟩
   have rel : ∀ {x y : Int}, eS x -> eS y -> InG w x y -> hU (Vk x y) (Ef w) (EL (4 + 62)) /\ hU (Vk x y) (Ef w) (EL (4 + 61)) := λ hx hy hg => ⟨aON (by omega) hx hy hg 6, aON (by omega) hx hy hg 5⟩
   by_cases hin : ∃ n : Nat, n < w /\ i = .ofNat n
   · obtain ⟨n, hn, rfl⟩ := hin; by_cases kin : ∃ n : Nat, n < w /\ k = .ofNat n
     · obtain ⟨r1, r2⟩ := rel (x := k) (y := .negSucc 0) hk z1 ⟨kin, λ n _ h => by cases h⟩
       exact aNN (c := true) (uM 4) r1 r2 (by omega) (by omega) (by omega) (by omega) (by omega) hs hn rfl (c2 n hn true) H0
     · obtain ⟨r1, r2⟩ := rel (x := .ofNat 0) (y := k) z0 hk ⟨⟨0, by omega, rfl⟩, λ n hn h => kin ⟨n, hn, h⟩⟩
       exact aNN (c := false) (uM 4) r1 r2 (by omega) (by omega) (by omega) (by omega) (by omega) hs hn rfl (c2 n hn false) H0
   · obtain ⟨r1, r2⟩ := rel (x := .ofNat 0) (y := i) z0 hi ⟨⟨0, by omega, rfl⟩, λ n hn h => hin ⟨n, hn, h⟩⟩
     exact aUI (uM 4) r1 r2 (by omega) (by omega) (by omega) (by omega) (by omega) hs c1 H0
 · exact aUK (uM 4) hs hb H0
end Go.Proofs.YthpciaidbgjoeaaGreat
