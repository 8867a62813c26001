/- RebuildOne: for every argument the law answers true, and its arguments read behind the call as before. No condition. -/
import Derived.Test.YthpciaidbgjoeaaGreatU5
import Derived.Test.YthpciaidbgjoeaaGreatRows
import Derived.ProofKit
import Derived.OpenShut
set_option linter.unusedSimpArgs false
set_option linter.unusedVariables false
namespace Go.Proofs.YthpciaidbgjoeaaGreat
open Go.ChangeShapes Go.WideShapes Go.ChangeAt Go.RowKit
theorem own : ownKnob Tryz.prog.godebug = none := by kernel_rfl
theorem aCV : laidOutB Tryz.prog = true := by kernel_rfl
theorem zT {P : Program} {W : World} {base : Nat} {t : TypeId} {v : Value} (ht : P.underlying t = some (.int .i64)) (h : Value.okWide P W .any base t v) : ∃ n, v = .int .i64 n /\ eS n := by
 simp only [Value.okWide, ht, Cell.okWide] at h; cases v <;> simp only [Cell.ok, ht] at h
 case int k n =>
   obtain ⟨rfl, h1, h2⟩ := h; refine ⟨n, rfl, ?_, ?_⟩
   · exact h1
   · exact Int.lt_of_le_of_lt h2 (by decide)
set_option maxRecDepth 100000 in
theorem aNM {W : World} {base : Nat} {v : Value} (h : Value.okWide Tryz.prog W .any base 42 v) : ∃ (c0 : Int) (c1 : Int) (c2 : Int) (c3 : Int), v = .agg #[.int .i64 c0, .int .i64 c1, .int .i64 c2, .int .i64 c3] := by
 have hc6 : Tryz.prog.cellsOf 42 = 4 := by kernel_rfl
 have hts : Tryz.prog.cellTypes Tryz.prog.depth 42 = some [3, 3, 3, 3] := by kernel_rfl
 have h' : ∃ cs, v = .agg cs /\ cs.size = Tryz.prog.cellsOf 42 /\ Row.okWide Tryz.prog W .any base 42 cs := by
   unfold Value.okWide at h; rw [Tryz.underlying42] at h; exact h
 obtain ⟨cs, rfl, hs, ts, hts', _, hc⟩ := h'; rw [hts] at hts'; cases hts'; rw [hc6] at hs; obtain ⟨l⟩ := cs; have gi : ∀ {x : Value}, Cell.okWide Tryz.prog W .any base 3 x -> ∃ n, x = .int .i64 n := λ {x} hx => by
   exact okWide_int Tryz.underlying3 (show Value.okWide Tryz.prog W .any base 3 x by unfold Value.okWide; rw [Tryz.underlying3]; exact hx)
 have gs : ∀ {x : Value}, Cell.okWide Tryz.prog W .any base 9 x -> ∃ n, x = .string n := λ {x} hx => by
   exact okWide_string Tryz.underlying9 (show Value.okWide Tryz.prog W .any base 9 x by unfold Value.okWide; rw [Tryz.underlying9]; exact hx)
 match l, hs, hc with
 | [v0, v1, v2, v3], _, hc =>
   obtain ⟨u0, e0, h0⟩ := hc 0 v0 rfl; obtain ⟨u1, e1, h1⟩ := hc 1 v1 rfl; obtain ⟨u2, e2, h2⟩ := hc 2 v2 rfl; obtain ⟨u3, e3, h3⟩ := hc 3 v3 rfl; cases e0; cases e1; cases e2; cases e3; obtain ⟨c0, rfl⟩ := gi h0; obtain ⟨c1, rfl⟩ := gi h1; obtain ⟨c2, rfl⟩ := gi h2; obtain ⟨c3, rfl⟩ := gi h3; exact ⟨c0, c1, c2, c3, rfl⟩
set_option maxRecDepth 100000 in
theorem uJ (os : Os) (started : os.Started) (H : Type) (enc : TypeId × Value -> H) :
   ReturnsInHanded {} Tryz.checked os 5 .any (Rows.rebuildOneSpec.pre6 enc Tryz.prog Tryz.f5 Rows.rebuildOneRow.domain false) (Rows.rebuildOneSpec.post enc Tryz.prog Tryz.f5 false true false false) := by
 refine returnsInHanded_of_change (C := Tryz.checked) own started (by kernel_rfl) Tryz.func5
   (ChangeSpec.witness6 (enc := enc) (C := Tryz.checked) false ⟨#[], #[.agg #[.int .i64 0, .int .i64 0, .int .i64 0, .int .i64 0], .int .i64 0, .int .i64 0], []⟩ 8 (by kernel_rfl) (by kernel_rfl) (by kernel_rfl) (by kernel_rfl)) ?_
 intro W base args ds gs before hval0 hW hcnd _; have hval : ∀ (j : Nat) t v, Tryz.f5.params[j]? = some t -> args[j]? = some v -> Value.okWide Tryz.prog W .any base t v := hval0; have hW' := hW; obtain ⟨p, q, hA0, hV, rfl, hfz, hnd⟩ := hW; have hA : DataW.TrodAll enc Tryz.prog W 0 (λ _ => true) true Tryz.f5.params.toList args.toList ds p := hA0
 rw [Tryz.params5] at hA hval; obtain ⟨v0, v1, v2, d0, d1, d2, p0, p1, p2, rfl, rfl, rfl, h0, h1, h2⟩ := trodAll_three hA; obtain ⟨rfl, rfl⟩ := trodVars_none hV; obtain ⟨c0_0, c0_1, c0_2, c0_3, rfl⟩ := aNM (hval 0 42 v0 rfl rfl); obtain ⟨x1, rfl, r1⟩ := zT Tryz.underlying3 (hval 1 3 v1 rfl rfl); obtain ⟨x2, rfl, r2⟩ := zT Tryz.underlying3 (hval 2 3 v2 rfl rfl)
 clear hA0 hval0
 simp only [List.append_nil] at hW'; have args_ok : DI.trs (λ _ => none) [.agg [.int .i64 c0_0, .int .i64 c0_1, .int .i64 c0_2, .int .i64 c0_3], .int .i64 x1, .int .i64 x2] = some [.agg #[.int .i64 c0_0, .int .i64 c0_1, .int .i64 c0_2, .int .i64 c0_3], .int .i64 x1, .int .i64 x2] := by
   simp [DI.trs, DI.tr, DI.toBA_ofBA, DI.okStr_ofBA]
 refine (DI.calls_true2 aWe tab (show DI.Tr.at_ table 5 = some S5 by kernel_rfl) args_ok (zQ r1 r2) W).mono λ e W' ⟨he, bel⟩ => ?_
 subst he; refine ⟨_, rfl, ?_⟩; refine ⟨_, _, _, [], _, [], hW', ?_, trodAll_cons_mk (Below.trod aCV (by kernel_rfl) (of_decide_eq_true (by kernel_rfl)) h0 bel (DI.Trod_lt h0)) (trodAll_cons_mk (Below.trod aCV (by kernel_rfl) (of_decide_eq_true (by kernel_rfl)) h1 bel (DI.Trod_lt h1)) (trodAll_cons_mk (Below.trod aCV (by kernel_rfl) (of_decide_eq_true (by kernel_rfl)) h2 bel (DI.Trod_lt h2)) (trodAll_mk0))), rfl, bel.frame _, λ h => by cases h⟩
 exact trodAll_mk1 (shut_bool Tryz.underlying4 _)
theorem rebuildOne_holds : Rows.RebuildOneSaid :=
 OpenClaim.holds_of_wide 5 Tryz.f5 rfl rfl rfl rfl rfl rfl rfl ⟨rfl, rfl, rfl, rfl, rfl⟩ rfl rfl rfl rfl rfl (by kernel_rfl) Tryz.func5 (by kernel_rfl)
   (of_decide_eq_true (by kernel_rfl)) (by unfold Func.isWrapper; first | (rw [if_pos (by decide +kernel)]; kernel_rfl) | (rw [if_neg (by decide +kernel)]; exact ⟨rfl, rfl⟩))
   (λ os started H enc _ => uJ os started H enc)
#print axioms rebuildOne_holds
end Go.Proofs.YthpciaidbgjoeaaGreat
