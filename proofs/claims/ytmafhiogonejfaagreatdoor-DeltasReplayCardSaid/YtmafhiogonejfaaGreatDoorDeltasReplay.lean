/- DeltasReplay: for every argument the law answers true, and its arguments read behind the call as before. Condition: the listed variables read as the program's text lays them. -/
import Derived.Test.YtmafhiogonejfaaGreatDoorDe2
import Derived.Test.YtmafhiogonejfaaGreatDoorRows
import Derived.Test.YtmafhiogonejfaaGreatDoorCards
import Derived.Test.YtmafhiogonejfaaGreatDoorTie
import Derived.ProofKit
import Derived.OpenShut
import Derived.SizedLaws
import Derived.LaidMore
import Derived.Lay
import Derived.SevenTiedAt
import Derived.Stop.Joined
set_option linter.unusedSimpArgs false
set_option linter.unusedVariables false
namespace Go.Proofs.YtmafhiogonejfaaGreatDoor
open Go.ChangeShapes Go.WideShapes Go.ChangeAt Go.RowKit
theorem own : ownKnob Tryz.prog.godebug = none := by kernel_rfl
theorem bCp : laidOutB Tryz.prog = true := by kernel_rfl
set_option maxRecDepth 100000 in
theorem zH (os : Os) (started : os.Started) (H : Type) (enc : TypeId × Value -> H) :
   ReturnsInHanded {} Tryz.checked os 7 .any (λ w args => (Rows.deltasReplaySpec.pre enc Tryz.prog Tryz.f7 [] false w args /\ laidMetH Tryz.prog Rows.deltasReplayRow.laid w) /\ sizedMet enc Tryz.prog Tryz.f7 (OpenSpec.ofChange Rows.deltasReplaySpec) false w args)
     (Rows.deltasReplaySpec.post enc Tryz.prog Tryz.f7 false true false false) := by
 refine returnsInHanded_of_change_and (C := Tryz.checked) (X := λ w _ => laidMetH Tryz.prog Rows.deltasReplayRow.laid w) (λ _ _ _ hh h => h.of_heap hh) own started (by kernel_rfl) Tryz.func7
   (ChangeSpec.witness_shaped (enc := enc) (C := Tryz.checked) (os := os) (X := λ w _ => laidMetH Tryz.prog Rows.deltasReplayRow.laid w) false (World.laidAll Tryz.prog os Rows.deltasReplayRow.laid) #[.slice none 0 0] 8 (World.laidAll_os _ _ _)
     (World.shaped_of_ZipB (by kernel_rfl) (by kernel_rfl)) (by kernel_rfl) (by kernel_rfl) (by kernel_rfl)
     (by rw [MakeChecks.laidMetH_plain _ _ _ (by kernel_rfl)]; exact laidMet_laidAll _ (by kernel_rfl) (by kernel_rfl))) ?_
 intro W base args ds gs before hval0 hW _ hsz _ _; have hval : ∀ (j : Nat) t v, Tryz.f7.params[j]? = some t -> args[j]? = some v -> Value.okWide Tryz.prog W .any base t v := hval0; have hW' := hW; obtain ⟨p, q, hA0, hV, rfl, hfz, hnd⟩ := hW; have hA : DataW.TrodAll enc Tryz.prog W 0 (λ _ => true) true Tryz.f7.params.toList args.toList ds p := hA0
 rw [Tryz.params7] at hA hval hsz; obtain ⟨v0, d0, rfl, rfl, h0⟩ := trodAll_one hA; obtain ⟨rfl, rfl⟩ := trodVars_none hV; obtain ⟨L0, m, hh, dv, hw, hv, rr0, ty0⟩ := DI.openFlat Tryz.underlying40 (show DI.kindsF Tryz.prog 3 23 = some [.i, .i, .i, .s, .s, .s] by kernel_rfl) (by kernel_rfl) (by decide) (hval 0 40 v0 rfl rfl) h0
 obtain ⟨fl0, oks⟩ := aYb ty0; have rr : DI.RowE (λ c => c < hh.size) 6 hh dv (oO (L0.map opD)) := by rw [<- fl0]; exact rr0
 clear hA0 hval0
 have args_ok : DI.trs m [dv] = some [v0] := by
   simp [DI.trs, hv, DI.tr_str_any, DI.tr, DI.toBA_ofBA, DI.okStr_ofBA]
 refine (DI.calls_true3 aZv tab (show DI.Tr.at_ table 7 = some S7 by kernel_rfl) hw args_ok (aDn (bPT 0) rr oks)).mono λ e W' ⟨he, bel⟩ => ?_
 subst he; refine ⟨_, rfl, ?_⟩; refine ⟨_, _, _, [], _, [], hW', ?_, trodAll_cons_mk (Below.trod bCp (by kernel_rfl) (of_decide_eq_true (by kernel_rfl)) h0 bel (DI.Trod_lt h0)) (trodAll_mk0), rfl, bel.frame _, λ h => by cases h⟩
 exact trodAll_mk1 (shut_bool Tryz.underlying4 _)
theorem aAm : Rows.DeltasReplaySaid :=
 OpenClaim.holds_of_wide 7 Tryz.f7 rfl rfl rfl rfl rfl rfl rfl ⟨rfl, rfl, rfl, rfl, rfl⟩ rfl rfl rfl rfl rfl (by kernel_rfl) Tryz.func7 (by kernel_rfl)
   (of_decide_eq_true (by kernel_rfl)) (by unfold Func.isWrapper; first | (rw [if_pos (by decide +kernel)]; kernel_rfl) | (rw [if_neg (by decide +kernel)]; exact ⟨rfl, rfl⟩))
   (λ os started H enc _ => zH os started H enc)
theorem deltasReplay_card : Rows.DeltasReplayCardSaid :=
 Claim7.holds_tied_plain_at .later [] [.data, .pinned] true (true, "3dd57d3444cfc5a4a37a0564436330203d77d586e2d28f5b2bbecef56e8f6c6a") true aAm (λ _ h => by cases h) (by kernel_rfl) (λ _ h => by cases h) deltasReplay_row_tie rfl ⟨rfl, rfl⟩ (by kernel_rfl) rfl
   (λ f fn hf hfn => by
     obtain rfl : f = 7 := Option.some.inj ((show Tryz.prog.funcNamed "hurdle/hurdlelaw40.DeltasReplay" = some 7 by kernel_rfl).symm.trans hf) |>.symm
     obtain rfl : fn = Tryz.f7 := (Option.some.inj (Tryz.func7.symm.trans hfn)).symm; exact ⟨by kernel_rfl, λ j t ht => by
       rw [Tryz.params7] at ht; have hm : t ∈ [40] := by simpa using Array.mem_of_getElem? ht
       have hall : ([40].all λ u => !Tryz.prog.wantsStandIn u) = true := by kernel_rfl
       exact (show Tryz.prog.wantsStandIn t = false by simpa using List.all_eq_true.1 hall t hm)⟩)
   (by kernel_rfl)
#print axioms deltasReplay_card
end Go.Proofs.YtmafhiogonejfaaGreatDoor
