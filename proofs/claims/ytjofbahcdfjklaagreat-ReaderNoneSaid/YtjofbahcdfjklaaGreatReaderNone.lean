/- ReaderNone: for every argument the law answers true, and its argument reads behind the call as before. No condition. -/
import Derived.Test.YtjofbahcdfjklaaGreatRun
import Derived.Test.YtjofbahcdfjklaaGreatRows
import Derived.ProofKit
import Derived.OpenShut
namespace Go.Proofs.YtjofbahcdfjklaaGreat
open Go.ChangeShapes Go.WideShapes Go.ChangeAt Go.RowKit

theorem own : ownKnob Tryz.prog.godebug = none := by kernel_rfl
theorem laidOut : laidOutB Tryz.prog = true := by kernel_rfl
set_option maxRecDepth 100000 in
/-- What is asked for is three ints. -/
theorem open_ask {W : World} {base : Nat} {v : Value} (h : Value.okWide Tryz.prog W .any base 23 v) : ∃ (k a n : Int), v = .agg #[.int .i64 k, .int .i64 a, .int .i64 n] := by
  have hc6 : Tryz.prog.cellsOf 23 = 3 := by kernel_rfl
  have hts : Tryz.prog.cellTypes Tryz.prog.depth 23 = some [3, 3, 3] := by kernel_rfl
  have h' : ∃ cs, v = .agg cs ∧ cs.size = Tryz.prog.cellsOf 23 ∧ Row.okWide Tryz.prog W .any base 23 cs := by
    unfold Value.okWide at h
    rw [Tryz.underlying23] at h
    exact h
  obtain ⟨cs, rfl, hs, ts, hts', _, hc⟩ := h'
  rw [hts] at hts'
  cases hts'
  rw [hc6] at hs
  obtain ⟨l⟩ := cs
  have gi : ∀ {x : Value}, Cell.okWide Tryz.prog W .any base 3 x → ∃ n, x = .int .i64 n := fun {x} hx => by
    exact okWide_int Tryz.underlying3 (show Value.okWide Tryz.prog W .any base 3 x by unfold Value.okWide; rw [Tryz.underlying3]; exact hx)
  match l, hs, hc with
  | [c0, c1, c2], _, hc =>
    obtain ⟨u0, e0, h0⟩ := hc 0 c0 rfl
    obtain ⟨u1, e1, h1⟩ := hc 1 c1 rfl
    obtain ⟨u2, e2, h2⟩ := hc 2 c2 rfl
    cases e0; cases e1; cases e2
    obtain ⟨k, rfl⟩ := gi h0
    obtain ⟨a, rfl⟩ := gi h1
    obtain ⟨n, rfl⟩ := gi h2
    exact ⟨k, a, n, rfl⟩

set_option maxRecDepth 100000 in
theorem readerNone_lifted (os : Os) (started : os.Started) (H : Type) (enc : TypeId × Value → H) :
    ReturnsInHanded {} Tryz.checked os 3 .any (Rows.readerNoneSpec.pre6 enc Tryz.prog Tryz.f3 Rows.readerNoneRow.domain false) (Rows.readerNoneSpec.post enc Tryz.prog Tryz.f3 false true false false) := by
  refine returnsInHanded_of_change (C := Tryz.checked) own started (by kernel_rfl) Tryz.func3
    (ChangeSpec.witness6 (enc := enc) (C := Tryz.checked) false ⟨#[], #[.agg #[.int .i64 0, .int .i64 0, .int .i64 0]], []⟩ 8 (by kernel_rfl) (by kernel_rfl) (by kernel_rfl) (by kernel_rfl)) ?_
  intro W base args ds gs before hval0 hW hcnd _
  have hval : ∀ (j : Nat) t v, Tryz.f3.params[j]? = some t → args[j]? = some v → Value.okWide Tryz.prog W .any base t v := hval0
  have hW' := hW
  obtain ⟨p, q, hA0, hV, rfl, hfz, hnd⟩ := hW
  have hA : DataW.TrodAll enc Tryz.prog W 0 (fun _ => true) true Tryz.f3.params.toList args.toList ds p := hA0
  rw [Tryz.params3] at hA hval
  obtain ⟨v0, d0, rfl, rfl, h0⟩ := trodAll_one hA
  obtain ⟨rfl, rfl⟩ := trodVars_none hV
  obtain ⟨k, a, n, rfl⟩ := open_ask (hval 0 23 v0 rfl rfl)
  clear hA0 hval0
  simp only [List.append_nil] at hW'
  have hlt : ∀ x ∈ p, x.block < W.heap.size := fun x hx => by simpa using hW'.lt x hx
  have args_ok : DI.trs (fun _ => none) [.agg [.int .i64 k, .int .i64 a, .int .i64 n]] = some [.agg #[.int .i64 k, .int .i64 a, .int .i64 n]] := by
    simp [DI.trs, DI.tr]
  refine (DI.calls_true2 base_ok tab (show DI.Tr.at_ table 3 = some S3 by kernel_rfl) args_ok (run_readerNone k a n) W).mono fun e W' ⟨he, bel⟩ => ?_
  subst he
  refine ⟨_, rfl, ?_⟩
  refine ⟨_, _, _, [], p, [], hW', ?_, ?_, rfl, bel.frame _, fun h => by cases h⟩
  · exact trodAll_mk1 (shut_bool Tryz.underlying4 _)
  · exact trodAll_mk1 (Below.trod laidOut (by kernel_rfl) (of_decide_eq_true (by kernel_rfl)) h0 bel hlt)

theorem readerNone_holds : Rows.ReaderNoneSaid :=
  OpenClaim.holds_of_wide 3 Tryz.f3 rfl rfl rfl rfl rfl rfl rfl ⟨rfl, rfl, rfl, rfl, rfl⟩ rfl rfl rfl rfl rfl (by kernel_rfl) Tryz.func3 (by kernel_rfl)
    (of_decide_eq_true (by kernel_rfl)) (by unfold Func.isWrapper; first | (rw [if_pos (by decide +kernel)]; kernel_rfl) | (rw [if_neg (by decide +kernel)]; exact ⟨rfl, rfl⟩))
    (fun os started H enc _ => readerNone_lifted os started H enc)
#print axioms readerNone_holds
end Go.Proofs.YtjofbahcdfjklaaGreat
