/- VolumeNone: for every argument the law answers true, and its arguments read behind the call as before. Condition: the listed variables read as the program's text lays them. -/
import Derived.Test.YtiamncdkekcokaaGreatDoorRun
import Derived.Test.YtiamncdkekcokaaGreatDoorRows
import Derived.Test.YtiamncdkekcokaaGreatDoorCards
import Derived.Test.YtiamncdkekcokaaGreatDoorTie
import Derived.ProofKit
import Derived.OpenShut
import Derived.SizedLaws
import Derived.LaidMore
import Derived.Lay
import Derived.SevenTiedAt
import Derived.Stop.Joined
set_option linter.unusedSimpArgs false
set_option linter.unusedVariables false
namespace Go.Proofs.YtiamncdkekcokaaGreatDoor
open Go.ChangeShapes Go.WideShapes Go.ChangeAt Go.RowKit

theorem own : ownKnob Tryz.prog.godebug = none := by kernel_rfl
theorem laidOut : laidOutB Tryz.prog = true := by kernel_rfl
set_option maxRecDepth 100000 in
/-- The argument's parts. -/
theorem open_flat {W : World} {base : Nat} {v : Value} (h : Value.okWide Tryz.prog W .any base 29 v) : ∃ (z0 : Int) (z1 : Int) (z2 : Int) (z3 : Int) (z4 : Int) (z5 : ByteArray) (z6 : ByteArray) (z7 : ByteArray) (z8 : Int) (z9 : Int) (z10 : Int) (z11 : Int) (z12 : ByteArray) (z13 : Int) (z14 : Int) (z15 : Int) (z16 : Int) (z17 : Int) (z18 : Int) (z19 : Int) (z20 : Int), v = .agg #[.int .i64 z0, .int .i64 z1, .int .i64 z2, .int .i64 z3, .int .i64 z4, .string z5, .string z6, .string z7, .int .i64 z8, .int .i64 z9, .int .i64 z10, .int .i64 z11, .string z12, .int .i64 z13, .int .i64 z14, .int .i64 z15, .int .i64 z16, .int .i64 z17, .int .i64 z18, .int .i64 z19, .int .i64 z20] := by
  have hc6 : Tryz.prog.cellsOf 29 = 21 := by kernel_rfl
  have hts : Tryz.prog.cellTypes Tryz.prog.depth 29 = some [3, 3, 3, 3, 3, 9, 9, 9, 3, 3, 3, 3, 9, 3, 3, 3, 3, 3, 3, 3, 3] := by kernel_rfl
  have h' : ∃ cs, v = .agg cs ∧ cs.size = Tryz.prog.cellsOf 29 ∧ Row.okWide Tryz.prog W .any base 29 cs := by
    unfold Value.okWide at h
    rw [Tryz.underlying29] at h
    exact h
  obtain ⟨cs, rfl, hs, ts, hts', _, hc⟩ := h'
  rw [hts] at hts'
  cases hts'
  rw [hc6] at hs
  obtain ⟨l⟩ := cs
  have gi : ∀ {x : Value}, Cell.okWide Tryz.prog W .any base 3 x → ∃ n, x = .int .i64 n := fun {x} hx => by
    exact okWide_int Tryz.underlying3 (show Value.okWide Tryz.prog W .any base 3 x by unfold Value.okWide; rw [Tryz.underlying3]; exact hx)
  have gs : ∀ {x : Value}, Cell.okWide Tryz.prog W .any base 9 x → ∃ n, x = .string n := fun {x} hx => by
    exact okWide_string Tryz.underlying9 (show Value.okWide Tryz.prog W .any base 9 x by unfold Value.okWide; rw [Tryz.underlying9]; exact hx)
  have gb : ∀ {x : Value}, Cell.okWide Tryz.prog W .any base 4 x → ∃ n, x = .bool n := fun {x} hx => by
    exact okWide_bool Tryz.underlying4 (show Value.okWide Tryz.prog W .any base 4 x by unfold Value.okWide; rw [Tryz.underlying4]; exact hx)
  match l, hs, hc with
  | [k0, k1, k2, k3, k4, k5, k6, k7, k8, k9, k10, k11, k12, k13, k14, k15, k16, k17, k18, k19, k20], _, hc =>
    obtain ⟨u0, e0, h0⟩ := hc 0 k0 rfl
    obtain ⟨u1, e1, h1⟩ := hc 1 k1 rfl
    obtain ⟨u2, e2, h2⟩ := hc 2 k2 rfl
    obtain ⟨u3, e3, h3⟩ := hc 3 k3 rfl
    obtain ⟨u4, e4, h4⟩ := hc 4 k4 rfl
    obtain ⟨u5, e5, h5⟩ := hc 5 k5 rfl
    obtain ⟨u6, e6, h6⟩ := hc 6 k6 rfl
    obtain ⟨u7, e7, h7⟩ := hc 7 k7 rfl
    obtain ⟨u8, e8, h8⟩ := hc 8 k8 rfl
    obtain ⟨u9, e9, h9⟩ := hc 9 k9 rfl
    obtain ⟨u10, e10, h10⟩ := hc 10 k10 rfl
    obtain ⟨u11, e11, h11⟩ := hc 11 k11 rfl
    obtain ⟨u12, e12, h12⟩ := hc 12 k12 rfl
    obtain ⟨u13, e13, h13⟩ := hc 13 k13 rfl
    obtain ⟨u14, e14, h14⟩ := hc 14 k14 rfl
    obtain ⟨u15, e15, h15⟩ := hc 15 k15 rfl
    obtain ⟨u16, e16, h16⟩ := hc 16 k16 rfl
    obtain ⟨u17, e17, h17⟩ := hc 17 k17 rfl
    obtain ⟨u18, e18, h18⟩ := hc 18 k18 rfl
    obtain ⟨u19, e19, h19⟩ := hc 19 k19 rfl
    obtain ⟨u20, e20, h20⟩ := hc 20 k20 rfl
    cases e0; cases e1; cases e2; cases e3; cases e4; cases e5; cases e6; cases e7; cases e8; cases e9; cases e10; cases e11; cases e12; cases e13; cases e14; cases e15; cases e16; cases e17; cases e18; cases e19; cases e20
    obtain ⟨z0, rfl⟩ := gi h0
    obtain ⟨z1, rfl⟩ := gi h1
    obtain ⟨z2, rfl⟩ := gi h2
    obtain ⟨z3, rfl⟩ := gi h3
    obtain ⟨z4, rfl⟩ := gi h4
    obtain ⟨z5, rfl⟩ := gs h5
    obtain ⟨z6, rfl⟩ := gs h6
    obtain ⟨z7, rfl⟩ := gs h7
    obtain ⟨z8, rfl⟩ := gi h8
    obtain ⟨z9, rfl⟩ := gi h9
    obtain ⟨z10, rfl⟩ := gi h10
    obtain ⟨z11, rfl⟩ := gi h11
    obtain ⟨z12, rfl⟩ := gs h12
    obtain ⟨z13, rfl⟩ := gi h13
    obtain ⟨z14, rfl⟩ := gi h14
    obtain ⟨z15, rfl⟩ := gi h15
    obtain ⟨z16, rfl⟩ := gi h16
    obtain ⟨z17, rfl⟩ := gi h17
    obtain ⟨z18, rfl⟩ := gi h18
    obtain ⟨z19, rfl⟩ := gi h19
    obtain ⟨z20, rfl⟩ := gi h20
    exact ⟨z0, z1, z2, z3, z4, z5, z6, z7, z8, z9, z10, z11, z12, z13, z14, z15, z16, z17, z18, z19, z20, rfl⟩
set_option maxRecDepth 100000 in
theorem volumeNone_lifted (os : Os) (started : os.Started) (H : Type) (enc : TypeId × Value → H) :
    ReturnsInHanded {} Tryz.checked os 3 .any (fun w args => (Rows.volumeNoneSpec.pre enc Tryz.prog Tryz.f3 [] false w args ∧ laidMetH Tryz.prog Rows.volumeNoneRow.laid w) ∧ sizedMet enc Tryz.prog Tryz.f3 (OpenSpec.ofChange Rows.volumeNoneSpec) false w args)
      (Rows.volumeNoneSpec.post enc Tryz.prog Tryz.f3 false true false false) := by
  refine returnsInHanded_of_change_and (C := Tryz.checked) (X := fun w _ => laidMetH Tryz.prog Rows.volumeNoneRow.laid w) (fun _ _ _ hh h => h.of_heap hh) own started (by kernel_rfl) Tryz.func3
    (ChangeSpec.witness_shaped (enc := enc) (C := Tryz.checked) (os := os) (X := fun w _ => laidMetH Tryz.prog Rows.volumeNoneRow.laid w) false (World.laidAll Tryz.prog os Rows.volumeNoneRow.laid) #[.agg #[.int .i64 0, .int .i64 0, .int .i64 0, .int .i64 0, .int .i64 0, .string ⟨#[]⟩, .string ⟨#[]⟩, .string ⟨#[]⟩, .int .i64 0, .int .i64 0, .int .i64 0, .int .i64 0, .string ⟨#[]⟩, .int .i64 0, .int .i64 0, .int .i64 0, .int .i64 0, .int .i64 0, .int .i64 0, .int .i64 0, .int .i64 0]] 8 (World.laidAll_os _ _ _)
      (World.shaped_of_ZipB (by kernel_rfl) (by kernel_rfl)) (by kernel_rfl) (by kernel_rfl) (by kernel_rfl)
      (by rw [MakeChecks.laidMetH_plain _ _ _ (by kernel_rfl)]; exact laidMet_laidAll _ (by kernel_rfl) (by kernel_rfl))) ?_
  intro W base args ds gs before hval0 hW _ hsz _ _
  have hval : ∀ (j : Nat) t v, Tryz.f3.params[j]? = some t → args[j]? = some v → Value.okWide Tryz.prog W .any base t v := hval0
  have hW' := hW
  obtain ⟨p, q, hA0, hV, rfl, hfz, hnd⟩ := hW
  have hA : DataW.TrodAll enc Tryz.prog W 0 (fun _ => true) true Tryz.f3.params.toList args.toList ds p := hA0
  rw [Tryz.params3] at hA hval hsz
  obtain ⟨v0, d0, rfl, rfl, h0⟩ := trodAll_one hA
  obtain ⟨rfl, rfl⟩ := trodVars_none hV
  obtain ⟨z0, z1, z2, z3, z4, z5, z6, z7, z8, z9, z10, z11, z12, z13, z14, z15, z16, z17, z18, z19, z20, rfl⟩ := open_flat (hval 0 29 v0 rfl rfl)
  clear hA0 hval0
  have args_ok : DI.trs (fun _ => none) [.agg [.int .i64 z0, .int .i64 z1, .int .i64 z2, .int .i64 z3, .int .i64 z4, .str (DI.ofBA z5), .str (DI.ofBA z6), .str (DI.ofBA z7), .int .i64 z8, .int .i64 z9, .int .i64 z10, .int .i64 z11, .str (DI.ofBA z12), .int .i64 z13, .int .i64 z14, .int .i64 z15, .int .i64 z16, .int .i64 z17, .int .i64 z18, .int .i64 z19, .int .i64 z20]] = some [.agg #[.int .i64 z0, .int .i64 z1, .int .i64 z2, .int .i64 z3, .int .i64 z4, .string z5, .string z6, .string z7, .int .i64 z8, .int .i64 z9, .int .i64 z10, .int .i64 z11, .string z12, .int .i64 z13, .int .i64 z14, .int .i64 z15, .int .i64 z16, .int .i64 z17, .int .i64 z18, .int .i64 z19, .int .i64 z20]] := by
    simp [DI.trs, DI.tr, DI.toBA_ofBA, DI.okStr_ofBA]
  refine (DI.calls_true2 base2_ok tab (show DI.Tr.at_ table 3 = some S3 by kernel_rfl) args_ok (run_volumeNone z0 z1 z2 z3 z4 (DI.ofBA z5) (DI.ofBA z6) (DI.ofBA z7) z8 z9 z10 z11 (DI.ofBA z12) z13 z14 z15 z16 z17 z18 z19 z20) W).mono fun e W' ⟨he, bel⟩ => ?_
  subst he
  refine ⟨_, rfl, ?_⟩
  refine ⟨_, _, _, [], _, [], hW', ?_, trodAll_cons_mk (Below.trod laidOut (by kernel_rfl) (of_decide_eq_true (by kernel_rfl)) h0 bel (DI.Trod_lt h0)) (trodAll_mk0), rfl, bel.frame _, fun h => by cases h⟩
  exact trodAll_mk1 (shut_bool Tryz.underlying4 _)

set_option maxHeartbeats 4000000 in
theorem volumeNone_holds : Rows.VolumeNoneSaid :=
  OpenClaim.holds_of_wide 3 Tryz.f3 rfl rfl rfl rfl rfl rfl rfl ⟨rfl, rfl, rfl, rfl, rfl⟩ rfl rfl rfl rfl rfl (by as_aux_lemma => kernel_rfl) Tryz.func3 (by
      simp only [joinedFacts, Bool.and_eq_true]
      repeat' apply And.intro
      all_goals (as_aux_lemma => kernel_rfl))
    (of_decide_eq_true (by kernel_rfl)) (by unfold Func.isWrapper; first | (rw [if_pos (by decide +kernel)]; kernel_rfl) | (rw [if_neg (by decide +kernel)]; exact ⟨rfl, rfl⟩))
    (fun os started H enc _ => volumeNone_lifted os started H enc)
set_option maxHeartbeats 4000000 in
theorem volumeNone_card : Rows.VolumeNoneCardSaid :=
  Claim7.holds_tied_plain_at .later [] [.data, .pinned] true (true, "954497fe8c8bacfdd136821be40741e95282cc0ec3d88b44ba901463d845b8ca") true volumeNone_holds (fun _ h => by cases h) (by as_aux_lemma => kernel_rfl) (fun _ h => by cases h) volumeNone_row_tie rfl ⟨rfl, rfl⟩ (by as_aux_lemma => kernel_rfl) rfl
    (fun f fn hf hfn => by
      obtain rfl : f = 3 := Option.some.inj ((show Tryz.prog.funcNamed "hurdle/hurdlelaw42.VolumeNone" = some 3 by as_aux_lemma => kernel_rfl).symm.trans hf) |>.symm
      obtain rfl : fn = Tryz.f3 := (Option.some.inj (Tryz.func3.symm.trans hfn)).symm
      exact ⟨by as_aux_lemma => kernel_rfl, fun j t ht => by
        rw [Tryz.params3] at ht
        have hm : t ∈ [29] := by simpa using Array.mem_of_getElem? ht
        have hall : ([29].all fun u => !Tryz.prog.wantsStandIn u) = true := by kernel_rfl
        exact (show Tryz.prog.wantsStandIn t = false by simpa using List.all_eq_true.1 hall t hm)⟩)
    (by as_aux_lemma => kernel_rfl)
#print axioms volumeNone_card
end Go.Proofs.YtiamncdkekcokaaGreatDoor
