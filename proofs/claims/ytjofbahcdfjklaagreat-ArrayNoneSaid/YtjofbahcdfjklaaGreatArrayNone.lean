/- ArrayNone: for every argument the law answers true, and its argument reads behind the call as before. No condition. -/
import Derived.Test.YtjofbahcdfjklaaGreatRun
import Derived.Test.YtjofbahcdfjklaaGreatRows
import Derived.ProofKit
import Derived.OpenShut
namespace Go.Proofs.YtjofbahcdfjklaaGreat
open Go.ChangeShapes Go.WideShapes Go.ChangeAt Go.RowKit

theorem own : ownKnob Tryz.prog.godebug = none := by kernel_rfl
theorem laidOut : laidOutB Tryz.prog = true := by kernel_rfl
set_option maxRecDepth 100000 in
/-- The argument's parts. -/
theorem open_arg {W : World} {base : Nat} {v : Value} (h : Value.okWide Tryz.prog W .any base 45 v) : ∃ (c0 : Int) (c1 : Int) (c2 : Int) (c3 : Int) (c4 : ByteArray) (c5 : Int) (c6 : Int) (c7 : Int) (c8 : Int) (c9 : Int) (c10 : Int) (c11 : Int) (c12 : Int), v = .agg #[.int .i64 c0, .int .i64 c1, .int .i64 c2, .int .i64 c3, .string c4, .int .i64 c5, .int .i64 c6, .int .i64 c7, .int .i64 c8, .int .i64 c9, .int .i64 c10, .int .i64 c11, .int .i64 c12] := by
  have hc6 : Tryz.prog.cellsOf 45 = 13 := by kernel_rfl
  have hts : Tryz.prog.cellTypes Tryz.prog.depth 45 = some [3, 3, 3, 3, 9, 3, 3, 3, 3, 3, 3, 3, 3] := by kernel_rfl
  have h' : ∃ cs, v = .agg cs ∧ cs.size = Tryz.prog.cellsOf 45 ∧ Row.okWide Tryz.prog W .any base 45 cs := by
    unfold Value.okWide at h
    rw [Tryz.underlying45] at h
    exact h
  obtain ⟨cs, rfl, hs, ts, hts', _, hc⟩ := h'
  rw [hts] at hts'
  cases hts'
  rw [hc6] at hs
  obtain ⟨l⟩ := cs
  have gi : ∀ {x : Value}, Cell.okWide Tryz.prog W .any base 3 x → ∃ n, x = .int .i64 n := fun {x} hx => by
    exact okWide_int Tryz.underlying3 (show Value.okWide Tryz.prog W .any base 3 x by unfold Value.okWide; rw [Tryz.underlying3]; exact hx)
  have gs : ∀ {x : Value}, Cell.okWide Tryz.prog W .any base 9 x → ∃ n, x = .string n := fun {x} hx => by
    exact okWide_string Tryz.underlying9 (show Value.okWide Tryz.prog W .any base 9 x by unfold Value.okWide; rw [Tryz.underlying9]; exact hx)
  match l, hs, hc with
  | [k0, k1, k2, k3, k4, k5, k6, k7, k8, k9, k10, k11, k12], _, hc =>
    obtain ⟨u0, e0, h0⟩ := hc 0 k0 rfl
    obtain ⟨u1, e1, h1⟩ := hc 1 k1 rfl
    obtain ⟨u2, e2, h2⟩ := hc 2 k2 rfl
    obtain ⟨u3, e3, h3⟩ := hc 3 k3 rfl
    obtain ⟨u4, e4, h4⟩ := hc 4 k4 rfl
    obtain ⟨u5, e5, h5⟩ := hc 5 k5 rfl
    obtain ⟨u6, e6, h6⟩ := hc 6 k6 rfl
    obtain ⟨u7, e7, h7⟩ := hc 7 k7 rfl
    obtain ⟨u8, e8, h8⟩ := hc 8 k8 rfl
    obtain ⟨u9, e9, h9⟩ := hc 9 k9 rfl
    obtain ⟨u10, e10, h10⟩ := hc 10 k10 rfl
    obtain ⟨u11, e11, h11⟩ := hc 11 k11 rfl
    obtain ⟨u12, e12, h12⟩ := hc 12 k12 rfl
    cases e0; cases e1; cases e2; cases e3; cases e4; cases e5; cases e6; cases e7; cases e8; cases e9; cases e10; cases e11; cases e12
    obtain ⟨c0, rfl⟩ := gi h0
    obtain ⟨c1, rfl⟩ := gi h1
    obtain ⟨c2, rfl⟩ := gi h2
    obtain ⟨c3, rfl⟩ := gi h3
    obtain ⟨c4, rfl⟩ := gs h4
    obtain ⟨c5, rfl⟩ := gi h5
    obtain ⟨c6, rfl⟩ := gi h6
    obtain ⟨c7, rfl⟩ := gi h7
    obtain ⟨c8, rfl⟩ := gi h8
    obtain ⟨c9, rfl⟩ := gi h9
    obtain ⟨c10, rfl⟩ := gi h10
    obtain ⟨c11, rfl⟩ := gi h11
    obtain ⟨c12, rfl⟩ := gi h12
    exact ⟨c0, c1, c2, c3, c4, c5, c6, c7, c8, c9, c10, c11, c12, rfl⟩

set_option maxRecDepth 100000 in
theorem arrayNone_lifted (os : Os) (started : os.Started) (H : Type) (enc : TypeId × Value → H) :
    ReturnsInHanded {} Tryz.checked os 5 .any (Rows.arrayNoneSpec.pre6 enc Tryz.prog Tryz.f5 Rows.arrayNoneRow.domain false) (Rows.arrayNoneSpec.post enc Tryz.prog Tryz.f5 false true false false) := by
  refine returnsInHanded_of_change (C := Tryz.checked) own started (by kernel_rfl) Tryz.func5
    (ChangeSpec.witness6 (enc := enc) (C := Tryz.checked) false ⟨#[], #[.agg #[.int .i64 0, .int .i64 0, .int .i64 0, .int .i64 0, .string ⟨#[]⟩, .int .i64 0, .int .i64 0, .int .i64 0, .int .i64 0, .int .i64 0, .int .i64 0, .int .i64 0, .int .i64 0]], []⟩ 8 (by kernel_rfl) (by kernel_rfl) (by kernel_rfl) (by kernel_rfl)) ?_
  intro W base args ds gs before hval0 hW hcnd _
  have hval : ∀ (j : Nat) t v, Tryz.f5.params[j]? = some t → args[j]? = some v → Value.okWide Tryz.prog W .any base t v := hval0
  have hW' := hW
  obtain ⟨p, q, hA0, hV, rfl, hfz, hnd⟩ := hW
  have hA : DataW.TrodAll enc Tryz.prog W 0 (fun _ => true) true Tryz.f5.params.toList args.toList ds p := hA0
  rw [Tryz.params5] at hA hval
  obtain ⟨v0, d0, rfl, rfl, h0⟩ := trodAll_one hA
  obtain ⟨rfl, rfl⟩ := trodVars_none hV
  obtain ⟨c0, c1, c2, c3, c4, c5, c6, c7, c8, c9, c10, c11, c12, rfl⟩ := open_arg (hval 0 45 v0 rfl rfl)
  clear hA0 hval0
  simp only [List.append_nil] at hW'
  have hlt : ∀ x ∈ p, x.block < W.heap.size := fun x hx => by simpa using hW'.lt x hx
  have args_ok : DI.trs (fun _ => none) [.agg [.int .i64 c0, .int .i64 c1, .int .i64 c2, .int .i64 c3, .str (DI.ofBA c4), .int .i64 c5, .int .i64 c6, .int .i64 c7, .int .i64 c8, .int .i64 c9, .int .i64 c10, .int .i64 c11, .int .i64 c12]] = some [.agg #[.int .i64 c0, .int .i64 c1, .int .i64 c2, .int .i64 c3, .string c4, .int .i64 c5, .int .i64 c6, .int .i64 c7, .int .i64 c8, .int .i64 c9, .int .i64 c10, .int .i64 c11, .int .i64 c12]] := by
    simp [DI.trs, DI.tr, DI.toBA_ofBA, DI.okStr_ofBA]
  refine (DI.calls_true2 base_ok tab (show DI.Tr.at_ table 5 = some S5 by kernel_rfl) args_ok (run_arrayNone c0 c1 c2 c3 (DI.ofBA c4) c5 c6 c7 c8 c9 c10 c11 c12) W).mono fun e W' ⟨he, bel⟩ => ?_
  subst he
  refine ⟨_, rfl, ?_⟩
  refine ⟨_, _, _, [], p, [], hW', ?_, ?_, rfl, bel.frame _, fun h => by cases h⟩
  · exact trodAll_mk1 (shut_bool Tryz.underlying4 _)
  · exact trodAll_mk1 (Below.trod laidOut (by kernel_rfl) (of_decide_eq_true (by kernel_rfl)) h0 bel hlt)

theorem arrayNone_holds : Rows.ArrayNoneSaid :=
  OpenClaim.holds_of_wide 5 Tryz.f5 rfl rfl rfl rfl rfl rfl rfl ⟨rfl, rfl, rfl, rfl, rfl⟩ rfl rfl rfl rfl rfl (by kernel_rfl) Tryz.func5 (by kernel_rfl)
    (of_decide_eq_true (by kernel_rfl)) (by unfold Func.isWrapper; first | (rw [if_pos (by decide +kernel)]; kernel_rfl) | (rw [if_neg (by decide +kernel)]; exact ⟨rfl, rfl⟩))
    (fun os started H enc _ => arrayNone_lifted os started H enc)
#print axioms arrayNone_holds
end Go.Proofs.YtjofbahcdfjklaaGreat
