/- ParityByte: for every argument the law answers true, and its arguments read behind the call as before. No condition. -/
import Derived.Test.YtgipaebiihefpaaPa3
import Derived.Test.YtgipaebiihefpaaRows
import Derived.ProofKit
import Derived.OpenShut
set_option linter.unusedSimpArgs false
set_option linter.unusedVariables false
namespace Go.Proofs.Ytgipaebiihefpaa
open Go.ChangeShapes Go.WideShapes Go.ChangeAt Go.RowKit

theorem own : ownKnob Try.prog.godebug = none := by kernel_rfl
theorem laidOut : laidOutB Try.prog = true := by kernel_rfl
set_option maxRecDepth 100000 in
theorem open_t34 {W : World} {base : Nat} {v : Value} (h : Value.okWide Try.prog W .any base 34 v) : ∃ (c0 : Int) (c1 : Int), v = .agg #[.int .i64 c0, .int .i64 c1] := by
  have hc6 : Try.prog.cellsOf 34 = 2 := by kernel_rfl
  have hts : Try.prog.cellTypes Try.prog.depth 34 = some [3, 3] := by kernel_rfl
  have h' : ∃ cs, v = .agg cs ∧ cs.size = Try.prog.cellsOf 34 ∧ Row.okWide Try.prog W .any base 34 cs := by
    unfold Value.okWide at h
    rw [Try.underlying34] at h
    exact h
  obtain ⟨cs, rfl, hs, ts, hts', _, hc⟩ := h'
  rw [hts] at hts'
  cases hts'
  rw [hc6] at hs
  obtain ⟨l⟩ := cs
  have gi : ∀ {x : Value}, Cell.okWide Try.prog W .any base 3 x → ∃ n, x = .int .i64 n := fun {x} hx => by
    exact okWide_int Try.underlying3 (show Value.okWide Try.prog W .any base 3 x by unfold Value.okWide; rw [Try.underlying3]; exact hx)
  have gs : ∀ {x : Value}, Cell.okWide Try.prog W .any base 9 x → ∃ n, x = .string n := fun {x} hx => by
    exact okWide_string Try.underlying9 (show Value.okWide Try.prog W .any base 9 x by unfold Value.okWide; rw [Try.underlying9]; exact hx)
  match l, hs, hc with
  | [v0, v1], _, hc =>
    obtain ⟨u0, e0, h0⟩ := hc 0 v0 rfl
    obtain ⟨u1, e1, h1⟩ := hc 1 v1 rfl
    cases e0; cases e1
    obtain ⟨c0, rfl⟩ := gi h0
    obtain ⟨c1, rfl⟩ := gi h1
    exact ⟨c0, c1, rfl⟩

set_option maxRecDepth 100000 in
theorem parityByte_lifted (os : Os) (started : os.Started) (H : Type) (enc : TypeId × Value → H) :
    ReturnsInHanded {} Try.checked os 5 .any (Rows.parityByteSpec.pre6 enc Try.prog Try.f5 Rows.parityByteRow.domain false) (Rows.parityByteSpec.post enc Try.prog Try.f5 false true false false) := by
  refine returnsInHanded_of_change (C := Try.checked) own started (by kernel_rfl) Try.func5
    (ChangeSpec.witness6 (enc := enc) (C := Try.checked) false ⟨#[], #[.string ⟨#[]⟩, .int .i64 0, .agg #[.int .i64 0, .int .i64 0]], []⟩ 8 (by kernel_rfl) (by kernel_rfl) (by kernel_rfl) (by kernel_rfl)) ?_
  intro W base args ds gs before hval0 hW hcnd _
  have hval : ∀ (j : Nat) t v, Try.f5.params[j]? = some t → args[j]? = some v → Value.okWide Try.prog W .any base t v := hval0
  have hW' := hW
  obtain ⟨p, q, hA0, hV, rfl, hfz, hnd⟩ := hW
  have hA : DataW.TrodAll enc Try.prog W 0 (fun _ => true) true Try.f5.params.toList args.toList ds p := hA0
  rw [Try.params5] at hA hval
  obtain ⟨v0, v1, v2, d0, d1, d2, p0, p1, p2, rfl, rfl, rfl, h0, h1, h2⟩ := trodAll_three hA
  obtain ⟨rfl, rfl⟩ := trodVars_none hV
  obtain ⟨x0, rfl⟩ := okWide_string Try.underlying9 (hval 0 9 v0 rfl rfl)
  obtain ⟨x1, rfl⟩ := okWide_int Try.underlying3 (hval 1 3 v1 rfl rfl)
  obtain ⟨c2_0, c2_1, rfl⟩ := open_t34 (hval 2 34 v2 rfl rfl)
  clear hA0 hval0
  simp only [List.append_nil] at hW'
  have args_ok : DI.trs (fun _ => none) [.str (DI.ofBA x0), .int .i64 x1, .agg [.int .i64 c2_0, .int .i64 c2_1]] = some [.string x0, .int .i64 x1, .agg #[.int .i64 c2_0, .int .i64 c2_1]] := by
    simp [DI.trs, DI.tr, DI.toBA_ofBA, DI.okStr_ofBA]
  refine (DI.calls_true2 baseP2_ok tab (show DI.Tr.at_ table 5 = some S5 by kernel_rfl) args_ok (parityByte_run (par_env 7) (DI.okStr_ofBA x0)) W).mono fun e W' ⟨he, bel⟩ => ?_
  subst he
  refine ⟨_, rfl, ?_⟩
  refine ⟨_, _, _, [], _, [], hW', ?_, trodAll_cons_mk (Below.trod laidOut (by kernel_rfl) (of_decide_eq_true (by kernel_rfl)) h0 bel (DI.Trod_lt h0)) (trodAll_cons_mk (Below.trod laidOut (by kernel_rfl) (of_decide_eq_true (by kernel_rfl)) h1 bel (DI.Trod_lt h1)) (trodAll_cons_mk (Below.trod laidOut (by kernel_rfl) (of_decide_eq_true (by kernel_rfl)) h2 bel (DI.Trod_lt h2)) (trodAll_mk0))), rfl, bel.frame _, fun h => by cases h⟩
  exact trodAll_mk1 (shut_bool Try.underlying4 _)

theorem parityByte_holds : Rows.ParityByteSaid :=
  OpenClaim.holds_of_wide 5 Try.f5 rfl rfl rfl rfl rfl rfl rfl ⟨rfl, rfl, rfl, rfl, rfl⟩ rfl rfl rfl rfl rfl (by kernel_rfl) Try.func5 (by kernel_rfl)
    (of_decide_eq_true (by kernel_rfl)) (by unfold Func.isWrapper; first | (rw [if_pos (by decide +kernel)]; kernel_rfl) | (rw [if_neg (by decide +kernel)]; exact ⟨rfl, rfl⟩))
    (fun os started H enc _ => parityByte_lifted os started H enc)
#print axioms parityByte_holds
end Go.Proofs.Ytgipaebiihefpaa
