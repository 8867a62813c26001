/- ServiceNone: for every argument the law answers true, and its arguments read behind the call as before. Condition: the listed variables read as the program's text lays them. -/
import Derived.Test.YtlofaapaahpjfaaGreatDoorRun
import Derived.Test.YtlofaapaahpjfaaGreatDoorRows
import Derived.Test.YtlofaapaahpjfaaGreatDoorCards
import Derived.Test.YtlofaapaahpjfaaGreatDoorTie
import Derived.ProofKit
import Derived.OpenShut
import Derived.SizedLaws
import Derived.LaidMore
import Derived.Lay
import Derived.SevenTiedAt
import Derived.Stop.Joined
import Derived.LaidHandle
set_option linter.unusedSimpArgs false
set_option linter.unusedVariables false
namespace Go.Proofs.YtlofaapaahpjfaaGreatDoor
open Go.ChangeShapes Go.WideShapes Go.ChangeAt Go.RowKit

theorem own : ownKnob Tryz.prog.godebug = none := by kernel_rfl
theorem laidOut : laidOutB Tryz.prog = true := by kernel_rfl
theorem et : Tryz.prog.globalNamed "errors.errorType" = some 0 := by kernel_rfl
theorem rtp : (Tryz.prog.cutTypes.find? (·.1 == "internal/reflectlite.rtype")).map (·.2) = some 137 := by kernel_rfl
theorem oneRow : ((List.range 523).filter fun t => Tryz.prog.rowNamed t [101, 114, 114, 111, 114]) = [46] := by kernel_rfl
theorem tysize : Tryz.prog.types.size = 523 := by kernel_rfl
/-- What the condition gives: the variable's one cell. -/
theorem handle_of_laid {W : World} (h : laidMetH Tryz.prog Rows.serviceNoneRow.laid W) : W.cell? ⟨0, 0, none⟩ = some (.iface 137 (.agg #[.pointer (some ⟨4, 46, none⟩)])) := by
  have e : (Rows.serviceNoneRow.laid.filter fun x => x.2.handleName?.isSome) = [("errors.errorType", Rows.laid_errors_errorType)] := by kernel_rfl
  unfold laidMetH at h
  rw [e] at h
  obtain ⟨name, u, ty, e1, e2, e3, e4, e5⟩ := h.2 _ (List.mem_singleton.2 rfl)
  have en : name = [101, 114, 114, 111, 114] := (Option.some.inj e1).symm
  subst en
  obtain rfl := Option.some.inj (rtp.symm.trans e2)
  have hm : ty ∈ (List.range 523).filter fun t => Tryz.prog.rowNamed t [101, 114, 114, 111, 114] := List.mem_filter.2 ⟨List.mem_range.2 (by rw [← tysize]; exact e3), e4⟩
  rw [oneRow] at hm
  obtain rfl := List.mem_singleton.1 hm
  have hh : typeHandle Tryz.prog 46 = .pointer (some ⟨4, 46, none⟩) := by kernel_rfl
  rw [hh] at e5
  simpa using World.var?_cell et e5 0
theorem good_of {W : World} (h : laidMetH Tryz.prog Rows.serviceNoneRow.laid W) : DI.Good W := fun x hx => by
  unfold DI.goods at hx
  rw [List.mem_singleton] at hx
  subst hx
  exact handle_of_laid h
/-- A world that meets the condition: the variable's cell laid, then the plain ones. -/
noncomputable def plainLaid : List (String × DataW Unit) := Rows.serviceNoneRow.laid.filter fun x => x.2.handleName?.isNone
noncomputable def handled (os : Os) : World :=
  let w0 := World.holding Tryz.prog os ⟨#[], #[], []⟩
  { w0 with heap := w0.heap.modify 0 fun
      | .cells _ t frozen => .cells #[.iface 137 (.agg #[.pointer (some ⟨4, 46, none⟩)])] t frozen
      | o => o }
noncomputable def laidW (os : Os) : World := (handled os).layVars Tryz.prog plainLaid
theorem laidW_plain (os : Os) (args : Array Value) : laidMet Tryz.prog plainLaid ((laidW os).forCall (fun _ _ => 0) ⟨#[], args, []⟩).memory := by
  have e1 : (plainLaid.filter fun x => (plainLaid.map (·.1)).contains x.1) = plainLaid := List.filter_eq_self.2 fun x hx => List.contains_iff_mem.2 (List.mem_map.2 ⟨x, hx, rfl⟩)
  have e2 : (plainLaid.filter fun x => !(plainLaid.map (·.1)).contains x.1) = [] := List.filter_eq_nil_iff.2 fun x hx => by rw [List.contains_iff_mem.2 (List.mem_map.2 ⟨x, hx, rfl⟩)]; simp
  have h : laidMet Tryz.prog plainLaid (laidW os) := laidMet_layVars (w0 := handled os) (plainLaid.map (·.1)) [] (by rw [e1]; rfl) (by rw [e1]; kernel_rfl) (by rw [e1]; kernel_rfl) (by rw [e2]; exact LaidIn.none)
  exact h.of_heap (by simp [World.memory, World.forCall, Input.heap])
theorem laidW_met (os : Os) (args : Array Value) : laidMetH Tryz.prog Rows.serviceNoneRow.laid ((laidW os).forCall (fun _ _ => 0) ⟨#[], args, []⟩).memory :=
  laidMetH_of_parts (laidW_plain os args) (by kernel_rfl)
set_option maxRecDepth 100000 in
/-- The argument's parts. -/
theorem open_flat {W : World} {base : Nat} {v : Value} (h : Value.okWide Tryz.prog W .any base 27 v) : ∃ (z0 : Int) (z1 : Int) (z2 : Int) (z3 : Int) (z4 : ByteArray) (z5 : Int) (z6 : Int) (z7 : Int) (z8 : ByteArray) (z9 : ByteArray) (z10 : ByteArray) (z11 : Bool), v = .agg #[.int .i64 z0, .int .i64 z1, .int .i64 z2, .int .i64 z3, .string z4, .int .i64 z5, .int .i64 z6, .int .i64 z7, .string z8, .string z9, .string z10, .bool z11] := by
  have hc6 : Tryz.prog.cellsOf 27 = 12 := by kernel_rfl
  have hts : Tryz.prog.cellTypes Tryz.prog.depth 27 = some [3, 3, 3, 3, 9, 3, 3, 3, 9, 9, 9, 4] := by kernel_rfl
  have h' : ∃ cs, v = .agg cs ∧ cs.size = Tryz.prog.cellsOf 27 ∧ Row.okWide Tryz.prog W .any base 27 cs := by
    unfold Value.okWide at h
    rw [Tryz.underlying27] at h
    exact h
  obtain ⟨cs, rfl, hs, ts, hts', _, hc⟩ := h'
  rw [hts] at hts'
  cases hts'
  rw [hc6] at hs
  obtain ⟨l⟩ := cs
  have gi : ∀ {x : Value}, Cell.okWide Tryz.prog W .any base 3 x → ∃ n, x = .int .i64 n := fun {x} hx => by
    exact okWide_int Tryz.underlying3 (show Value.okWide Tryz.prog W .any base 3 x by unfold Value.okWide; rw [Tryz.underlying3]; exact hx)
  have gs : ∀ {x : Value}, Cell.okWide Tryz.prog W .any base 9 x → ∃ n, x = .string n := fun {x} hx => by
    exact okWide_string Tryz.underlying9 (show Value.okWide Tryz.prog W .any base 9 x by unfold Value.okWide; rw [Tryz.underlying9]; exact hx)
  have gb : ∀ {x : Value}, Cell.okWide Tryz.prog W .any base 4 x → ∃ n, x = .bool n := fun {x} hx => by
    exact okWide_bool Tryz.underlying4 (show Value.okWide Tryz.prog W .any base 4 x by unfold Value.okWide; rw [Tryz.underlying4]; exact hx)
  match l, hs, hc with
  | [k0, k1, k2, k3, k4, k5, k6, k7, k8, k9, k10, k11], _, hc =>
    obtain ⟨u0, e0, h0⟩ := hc 0 k0 rfl
    obtain ⟨u1, e1, h1⟩ := hc 1 k1 rfl
    obtain ⟨u2, e2, h2⟩ := hc 2 k2 rfl
    obtain ⟨u3, e3, h3⟩ := hc 3 k3 rfl
    obtain ⟨u4, e4, h4⟩ := hc 4 k4 rfl
    obtain ⟨u5, e5, h5⟩ := hc 5 k5 rfl
    obtain ⟨u6, e6, h6⟩ := hc 6 k6 rfl
    obtain ⟨u7, e7, h7⟩ := hc 7 k7 rfl
    obtain ⟨u8, e8, h8⟩ := hc 8 k8 rfl
    obtain ⟨u9, e9, h9⟩ := hc 9 k9 rfl
    obtain ⟨u10, e10, h10⟩ := hc 10 k10 rfl
    obtain ⟨u11, e11, h11⟩ := hc 11 k11 rfl
    cases e0; cases e1; cases e2; cases e3; cases e4; cases e5; cases e6; cases e7; cases e8; cases e9; cases e10; cases e11
    obtain ⟨z0, rfl⟩ := gi h0
    obtain ⟨z1, rfl⟩ := gi h1
    obtain ⟨z2, rfl⟩ := gi h2
    obtain ⟨z3, rfl⟩ := gi h3
    obtain ⟨z4, rfl⟩ := gs h4
    obtain ⟨z5, rfl⟩ := gi h5
    obtain ⟨z6, rfl⟩ := gi h6
    obtain ⟨z7, rfl⟩ := gi h7
    obtain ⟨z8, rfl⟩ := gs h8
    obtain ⟨z9, rfl⟩ := gs h9
    obtain ⟨z10, rfl⟩ := gs h10
    obtain ⟨z11, rfl⟩ := gb h11
    exact ⟨z0, z1, z2, z3, z4, z5, z6, z7, z8, z9, z10, z11, rfl⟩
set_option maxRecDepth 100000 in
theorem serviceNone_lifted (os : Os) (started : os.Started) (H : Type) (enc : TypeId × Value → H) :
    ReturnsInHanded {} Tryz.checked os 3 .any (fun w args => (Rows.serviceNoneSpec.pre enc Tryz.prog Tryz.f3 [] false w args ∧ laidMetH Tryz.prog Rows.serviceNoneRow.laid w) ∧ sizedMet enc Tryz.prog Tryz.f3 (OpenSpec.ofChange Rows.serviceNoneSpec) false w args)
      (Rows.serviceNoneSpec.post enc Tryz.prog Tryz.f3 false true false false) := by
  refine returnsInHanded_of_change_and (C := Tryz.checked) (X := fun w _ => laidMetH Tryz.prog Rows.serviceNoneRow.laid w) (fun _ _ _ hh h => h.of_heap hh) own started (by kernel_rfl) Tryz.func3
    (ChangeSpec.witness_shaped (enc := enc) (C := Tryz.checked) (os := os) (X := fun w _ => laidMetH Tryz.prog Rows.serviceNoneRow.laid w) false (laidW os) #[.agg #[.int .i64 0, .int .i64 0, .int .i64 0, .int .i64 0, .string ⟨#[]⟩, .int .i64 0, .int .i64 0, .int .i64 0, .string ⟨#[]⟩, .string ⟨#[]⟩, .string ⟨#[]⟩, .bool false]] 8 (World.layVars_os _ _ _)
      (World.shaped_of_ZipB (by kernel_rfl) (by kernel_rfl)) (by kernel_rfl) (by kernel_rfl) (by kernel_rfl)
      (laidW_met os _)) ?_
  intro W base args ds gs before hval0 hW _ hsz hL _
  have hval : ∀ (j : Nat) t v, Tryz.f3.params[j]? = some t → args[j]? = some v → Value.okWide Tryz.prog W .any base t v := hval0
  have hW' := hW
  obtain ⟨p, q, hA0, hV, rfl, hfz, hnd⟩ := hW
  have hA : DataW.TrodAll enc Tryz.prog W 0 (fun _ => true) true Tryz.f3.params.toList args.toList ds p := hA0
  rw [Tryz.params3] at hA hval hsz
  obtain ⟨v0, d0, rfl, rfl, h0⟩ := trodAll_one hA
  obtain ⟨rfl, rfl⟩ := trodVars_none hV
  obtain ⟨z0, z1, z2, z3, z4, z5, z6, z7, z8, z9, z10, z11, rfl⟩ := open_flat (hval 0 27 v0 rfl rfl)
  clear hA0 hval0
  have args_ok : DI.trs (fun _ => none) [.agg [.int .i64 z0, .int .i64 z1, .int .i64 z2, .int .i64 z3, .str (DI.ofBA z4), .int .i64 z5, .int .i64 z6, .int .i64 z7, .str (DI.ofBA z8), .str (DI.ofBA z9), .str (DI.ofBA z10), .bool z11]] = some [.agg #[.int .i64 z0, .int .i64 z1, .int .i64 z2, .int .i64 z3, .string z4, .int .i64 z5, .int .i64 z6, .int .i64 z7, .string z8, .string z9, .string z10, .bool z11]] := by
    simp [DI.trs, DI.tr, DI.toBA_ofBA, DI.okStr_ofBA]
  refine (DI.calls_true2 base2_ok tab (show DI.Tr.at_ table 3 = some S3 by kernel_rfl) args_ok (run_serviceNone z0 z1 z2 z3 (DI.ofBA z4) z5 z6 z7 (DI.ofBA z8) (DI.ofBA z9) (DI.ofBA z10) z11) W (good_of hL)).mono fun e W' ⟨he, bel⟩ => ?_
  subst he
  refine ⟨_, rfl, ?_⟩
  refine ⟨_, _, _, [], _, [], hW', ?_, trodAll_cons_mk (Below.trod laidOut (by kernel_rfl) (of_decide_eq_true (by kernel_rfl)) h0 bel (DI.Trod_lt h0)) (trodAll_mk0), rfl, bel.frame _, fun h => by cases h⟩
  exact trodAll_mk1 (shut_bool Tryz.underlying4 _)

set_option maxHeartbeats 4000000 in
theorem serviceNone_holds : Rows.ServiceNoneSaid :=
  OpenClaim.holds_of_wide 3 Tryz.f3 rfl rfl rfl rfl rfl rfl rfl ⟨rfl, rfl, rfl, rfl, rfl⟩ rfl rfl rfl rfl rfl (by as_aux_lemma => kernel_rfl) Tryz.func3 (by
      simp only [joinedFacts, Bool.and_eq_true]
      repeat' apply And.intro
      all_goals (as_aux_lemma => kernel_rfl))
    (of_decide_eq_true (by kernel_rfl)) (by unfold Func.isWrapper; first | (rw [if_pos (by decide +kernel)]; kernel_rfl) | (rw [if_neg (by decide +kernel)]; exact ⟨rfl, rfl⟩))
    (fun os started H enc _ => serviceNone_lifted os started H enc)
set_option maxHeartbeats 4000000 in
theorem serviceNone_card : Rows.ServiceNoneCardSaid :=
  Claim7.holds_tied_plain_at .later [] [.data, .handle, .pinned] true (true, "6644dc4456a5144f367595142e50dcf05eac67802526b8ea8d9fa81d639e2836") true serviceNone_holds (fun _ h => by cases h) (by as_aux_lemma => kernel_rfl) (fun _ h => by cases h) serviceNone_row_tie rfl ⟨rfl, rfl⟩ (by as_aux_lemma => kernel_rfl) rfl
    (fun f fn hf hfn => by
      obtain rfl : f = 3 := Option.some.inj ((show Tryz.prog.funcNamed "hurdle/hurdlelaw46.ServiceNone" = some 3 by as_aux_lemma => kernel_rfl).symm.trans hf) |>.symm
      obtain rfl : fn = Tryz.f3 := (Option.some.inj (Tryz.func3.symm.trans hfn)).symm
      exact ⟨by as_aux_lemma => kernel_rfl, fun j t ht => by
        rw [Tryz.params3] at ht
        have hm : t ∈ [27] := by simpa using Array.mem_of_getElem? ht
        have hall : ([27].all fun u => !Tryz.prog.wantsStandIn u) = true := by kernel_rfl
        exact (show Tryz.prog.wantsStandIn t = false by simpa using List.all_eq_true.1 hall t hm)⟩)
    (by as_aux_lemma => kernel_rfl)
#print axioms serviceNone_card
end Go.Proofs.YtlofaapaahpjfaaGreatDoor
