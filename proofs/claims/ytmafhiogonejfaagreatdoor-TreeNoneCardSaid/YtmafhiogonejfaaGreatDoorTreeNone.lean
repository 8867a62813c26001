/- TreeNone: for every operation the law answers true, and its argument reads behind the call as before. Condition: the listed variables read as the program's text lays them. -/
import Derived.Test.YtmafhiogonejfaaGreatDoorRun2
import Derived.Test.YtmafhiogonejfaaGreatDoorRows
import Derived.Test.YtmafhiogonejfaaGreatDoorCards
import Derived.Test.YtmafhiogonejfaaGreatDoorTie
import Derived.ProofKit
import Derived.OpenShut
import Derived.LaidMore
import Derived.Lay
import Derived.SevenTiedAt
import Derived.Stop.Joined
namespace Go.Proofs.YtmafhiogonejfaaGreatDoor
open Go.ChangeShapes Go.WideShapes Go.ChangeAt Go.RowKit

theorem own : ownKnob Tryz.prog.godebug = none := by kernel_rfl
theorem laidOut : laidOutB Tryz.prog = true := by kernel_rfl
set_option maxRecDepth 100000 in
/-- An operation is three ints and three texts. -/
theorem open_op {W : World} {base : Nat} {v : Value} (h : Value.okWide Tryz.prog W .any base 23 v) : ∃ (k a n : Int) (p q t : ByteArray), v = .agg #[.int .i64 k, .int .i64 a, .int .i64 n, .string p, .string q, .string t] := by
  have hc6 : Tryz.prog.cellsOf 23 = 6 := by kernel_rfl
  have hts : Tryz.prog.cellTypes Tryz.prog.depth 23 = some [3, 3, 3, 9, 9, 9] := by kernel_rfl
  have h' : ∃ cs, v = .agg cs ∧ cs.size = Tryz.prog.cellsOf 23 ∧ Row.okWide Tryz.prog W .any base 23 cs := by
    unfold Value.okWide at h
    rw [Tryz.underlying23] at h
    exact h
  obtain ⟨cs, rfl, hs, ts, hts', _, hc⟩ := h'
  rw [hts] at hts'
  cases hts'
  rw [hc6] at hs
  obtain ⟨l⟩ := cs
  have gi : ∀ {x : Value}, Cell.okWide Tryz.prog W .any base 3 x → ∃ n, x = .int .i64 n := fun {x} hx => by
    exact okWide_int Tryz.underlying3 (show Value.okWide Tryz.prog W .any base 3 x by unfold Value.okWide; rw [Tryz.underlying3]; exact hx)
  have gs : ∀ {x : Value}, Cell.okWide Tryz.prog W .any base 9 x → ∃ n, x = .string n := fun {x} hx => by
    exact okWide_string Tryz.underlying9 (show Value.okWide Tryz.prog W .any base 9 x by unfold Value.okWide; rw [Tryz.underlying9]; exact hx)
  match l, hs, hc with
  | [c0, c1, c2, c3, c4, c5], _, hc =>
    obtain ⟨u0, e0, h0⟩ := hc 0 c0 rfl
    obtain ⟨u1, e1, h1⟩ := hc 1 c1 rfl
    obtain ⟨u2, e2, h2⟩ := hc 2 c2 rfl
    obtain ⟨u3, e3, h3⟩ := hc 3 c3 rfl
    obtain ⟨u4, e4, h4⟩ := hc 4 c4 rfl
    obtain ⟨u5, e5, h5⟩ := hc 5 c5 rfl
    cases e0; cases e1; cases e2; cases e3; cases e4; cases e5
    obtain ⟨k, rfl⟩ := gi h0
    obtain ⟨a, rfl⟩ := gi h1
    obtain ⟨n, rfl⟩ := gi h2
    obtain ⟨p, rfl⟩ := gs h3
    obtain ⟨q, rfl⟩ := gs h4
    obtain ⟨t, rfl⟩ := gs h5
    exact ⟨k, a, n, p, q, t, rfl⟩

set_option maxRecDepth 100000 in
theorem treeNone_lifted (os : Os) (started : os.Started) (H : Type) (enc : TypeId × Value → H) :
    ReturnsInHanded {} Tryz.checked os 11 .any (fun w args => (Rows.treeNoneSpec.pre enc Tryz.prog Tryz.f11 [] false w args ∧ laidMetH Tryz.prog Rows.treeNoneRow.laid w) ∧ sizedMet enc Tryz.prog Tryz.f11 (OpenSpec.ofChange Rows.treeNoneSpec) false w args)
      (Rows.treeNoneSpec.post enc Tryz.prog Tryz.f11 false true false false) := by
  refine returnsInHanded_of_change_and (C := Tryz.checked) (X := fun w _ => laidMetH Tryz.prog Rows.treeNoneRow.laid w) (fun _ _ _ hh h => h.of_heap hh) own started (by kernel_rfl) Tryz.func11
    (ChangeSpec.witness_shaped (enc := enc) (C := Tryz.checked) (os := os) (X := fun w _ => laidMetH Tryz.prog Rows.treeNoneRow.laid w) false (World.laidAll Tryz.prog os Rows.treeNoneRow.laid) #[.agg #[.int .i64 0, .int .i64 0, .int .i64 0, .string ⟨#[]⟩, .string ⟨#[]⟩, .string ⟨#[]⟩]] 8 (World.laidAll_os _ _ _)
      (World.shaped_of_ZipB (by kernel_rfl) (by kernel_rfl)) (by kernel_rfl) (by kernel_rfl) (by kernel_rfl)
      (by rw [MakeChecks.laidMetH_plain _ _ _ (by kernel_rfl)]; exact laidMet_laidAll _ (by kernel_rfl) (by kernel_rfl))) ?_
  intro W base args ds gs before hval0 hW _ _ _ _
  have hval : ∀ (j : Nat) t v, Tryz.f11.params[j]? = some t → args[j]? = some v → Value.okWide Tryz.prog W .any base t v := hval0
  have hW' := hW
  obtain ⟨p, q, hA0, hV, rfl, hfz, hnd⟩ := hW
  have hA : DataW.TrodAll enc Tryz.prog W 0 (fun _ => true) true Tryz.f11.params.toList args.toList ds p := hA0
  rw [Tryz.params11] at hA hval
  obtain ⟨v0, d0, rfl, rfl, h0⟩ := trodAll_one hA
  obtain ⟨rfl, rfl⟩ := trodVars_none hV
  obtain ⟨k, a, n, s1, s2, s3, rfl⟩ := open_op (hval 0 23 v0 rfl rfl)
  clear hA0 hval0
  simp only [List.append_nil] at hW'
  have hlt : ∀ x ∈ p, x.block < W.heap.size := fun x hx => by simpa using hW'.lt x hx
  have args_ok : DI.trs (fun _ => none) [.agg [.int .i64 k, .int .i64 a, .int .i64 n, .str (DI.ofBA s1), .str (DI.ofBA s2), .str (DI.ofBA s3)]] = some [.agg #[.int .i64 k, .int .i64 a, .int .i64 n, .string s1, .string s2, .string s3]] := by
    simp [DI.trs, DI.tr, DI.toBA_ofBA, DI.okStr_ofBA]
  refine (DI.calls_true base_ok tab (show DI.Tr.at_ table 11 = some D11 by kernel_rfl) args_ok (run_treeNone k a n (DI.ofBA s1) (DI.ofBA s2) (DI.ofBA s3)) W).mono fun e W' ⟨he, bel⟩ => ?_
  subst he
  refine ⟨_, rfl, ?_⟩
  refine ⟨_, _, _, [], p, [], hW', ?_, ?_, rfl, bel.frame _, fun h => by cases h⟩
  · exact trodAll_mk1 (shut_bool Tryz.underlying4 _)
  · exact trodAll_mk1 (Below.trod laidOut (by kernel_rfl) (of_decide_eq_true (by kernel_rfl)) h0 bel hlt)

theorem treeNone_holds : Rows.TreeNoneSaid :=
  OpenClaim.holds_of_wide 11 Tryz.f11 rfl rfl rfl rfl rfl rfl rfl ⟨rfl, rfl, rfl, rfl, rfl⟩ rfl rfl rfl rfl rfl (by kernel_rfl) Tryz.func11 (by kernel_rfl)
    (of_decide_eq_true (by kernel_rfl)) (by unfold Func.isWrapper; first | (rw [if_pos (by decide +kernel)]; kernel_rfl) | (rw [if_neg (by decide +kernel)]; exact ⟨rfl, rfl⟩))
    (fun os started H enc _ => treeNone_lifted os started H enc)
theorem treeNone_card : Rows.TreeNoneCardSaid :=
  Claim7.holds_tied_plain_at .later [] [.data, .pinned] true (true, "3dd57d3444cfc5a4a37a0564436330203d77d586e2d28f5b2bbecef56e8f6c6a") true treeNone_holds (fun _ h => by cases h) (by kernel_rfl) (fun _ h => by cases h) treeNone_row_tie rfl ⟨rfl, rfl⟩ (by kernel_rfl) rfl
    (fun f fn hf hfn => by
      obtain rfl : f = 11 := Option.some.inj ((show Tryz.prog.funcNamed "hurdle/hurdlelaw39.TreeNone" = some 11 by kernel_rfl).symm.trans hf) |>.symm
      obtain rfl : fn = Tryz.f11 := (Option.some.inj (Tryz.func11.symm.trans hfn)).symm
      exact ⟨by kernel_rfl, fun j t ht => by
        rw [Tryz.params11] at ht
        have hm : t ∈ [23] := by simpa using Array.mem_of_getElem? ht
        have hall : ([23].all fun u => !Tryz.prog.wantsStandIn u) = true := by kernel_rfl
        exact (show Tryz.prog.wantsStandIn t = false by simpa using List.all_eq_true.1 hall t hm)⟩)
    (by kernel_rfl)
#print axioms treeNone_card
end Go.Proofs.YtmafhiogonejfaaGreatDoor
