/- TreeNodes: for every argument the law answers true, and its arguments read behind the call as before. Condition: the listed variables read as the program's text lays them. -/
import Derived.Test.YtmafhiogonejfaaGreatDoorTr6
import Derived.Test.YtmafhiogonejfaaGreatDoorRows
import Derived.Test.YtmafhiogonejfaaGreatDoorCards
import Derived.Test.YtmafhiogonejfaaGreatDoorTie
import Derived.ProofKit
import Derived.OpenShut
import Derived.SizedLaws
import Derived.LaidMore
import Derived.Lay
import Derived.SevenTiedAt
import Derived.Stop.Joined
set_option linter.unusedSimpArgs false
set_option linter.unusedVariables false
namespace Go.Proofs.YtmafhiogonejfaaGreatDoor
open Go.ChangeShapes Go.WideShapes Go.ChangeAt Go.RowKit
theorem own : ownKnob Tryz.prog.godebug = none := by kernel_rfl
theorem aIS : laidOutB Tryz.prog = true := by kernel_rfl
set_option maxRecDepth 100000 in
theorem aBG (os : Os) (started : os.Started) (H : Type) (enc : TypeId × Value -> H) :
   ReturnsInHanded {} Tryz.checked os 10 .any (λ w args => (Rows.treeNodesSpec.pre enc Tryz.prog Tryz.f10 [] false w args /\ laidMetH Tryz.prog Rows.treeNodesRow.laid w) /\ sizedMet enc Tryz.prog Tryz.f10 (OpenSpec.ofChange Rows.treeNodesSpec) false w args)
     (Rows.treeNodesSpec.post enc Tryz.prog Tryz.f10 false true false false) := by
 refine returnsInHanded_of_change_and (C := Tryz.checked) (X := λ w _ => laidMetH Tryz.prog Rows.treeNodesRow.laid w) (λ _ _ _ hh h => h.of_heap hh) own started (by kernel_rfl) Tryz.func10
   (ChangeSpec.witness_shaped (enc := enc) (C := Tryz.checked) (os := os) (X := λ w _ => laidMetH Tryz.prog Rows.treeNodesRow.laid w) false (World.laidAll Tryz.prog os Rows.treeNodesRow.laid) #[.slice none 0 0, .string ⟨#[]⟩, .string ⟨#[]⟩] 8 (World.laidAll_os _ _ _)
     (World.shaped_of_ZipB (by kernel_rfl) (by kernel_rfl)) (by kernel_rfl) (by kernel_rfl) (by kernel_rfl)
     (by rw [MakeChecks.laidMetH_plain _ _ _ (by kernel_rfl)]; exact laidMet_laidAll _ (by kernel_rfl) (by kernel_rfl))) ?_
 intro W base args ds gs before hval0 hW _ hsz _ _; have hval : ∀ (j : Nat) t v, Tryz.f10.params[j]? = some t -> args[j]? = some v -> Value.okWide Tryz.prog W .any base t v := hval0; have hW' := hW; obtain ⟨p, q, hA0, hV, rfl, hfz, hnd⟩ := hW; have hA : DataW.TrodAll enc Tryz.prog W 0 (λ _ => true) true Tryz.f10.params.toList args.toList ds p := hA0
 rw [Tryz.params10] at hA hval hsz; obtain ⟨v0, v1, v2, d0, d1, d2, p0, p1, p2, rfl, rfl, rfl, h0, h1, h2⟩ := trodAll_three hA; obtain ⟨rfl, rfl⟩ := trodVars_none hV; obtain ⟨L0, m, hh, dv, hw, hv, rr0, ty0⟩ := DI.openFlat Tryz.underlying40 (show DI.kindsF Tryz.prog 3 23 = some [.i, .i, .i, .s, .s, .s] by kernel_rfl) (by kernel_rfl) (by decide) (hval 0 40 v0 rfl rfl) h0
 obtain ⟨fl0, oks⟩ := aUJ ty0; have rr : DI.RowE (λ c => c < hh.size) 6 hh dv (uI (L0.map opD)) := by rw [<- fl0]; exact rr0
 obtain ⟨x1, rfl, rfl, rfl, b1⟩ := Go.ChangeMaps.open_string Tryz.underlying9 (hval 1 9 v1 rfl rfl) h1; have r1 : (DI.ofBA x1).length < 140737488355328 := by
   have := sized_string hsz (j := 1) (t := 9) rfl rfl; simp only [reachBytes] at this; simp only [DI.ofBA, List.length_map]; omega
 obtain ⟨x2, rfl, rfl, rfl, b2⟩ := Go.ChangeMaps.open_string Tryz.underlying9 (hval 2 9 v2 rfl rfl) h2; have r2 : (DI.ofBA x2).length < 140737488355328 := by
   have := sized_string hsz (j := 2) (t := 9) rfl rfl; simp only [reachBytes] at this; simp only [DI.ofBA, List.length_map]; omega
 clear hA0 hval0
 have args_ok : DI.trs m [dv, .str (DI.ofBA x1), .str (DI.ofBA x2)] = some [v0, .string x1, .string x2] := by
   simp [DI.trs, hv, DI.tr_str_any, DI.tr, DI.toBA_ofBA, DI.okStr_ofBA]
 refine (DI.calls_true3 aWe tab (show DI.Tr.at_ table 10 = some S10 by kernel_rfl) hw args_ok (aGR (bTL 0) (bJI 1) rr oks (DI.okStr_ofBA x2))).mono λ e W' ⟨he, bel⟩ => ?_
 subst he; refine ⟨_, rfl, ?_⟩; refine ⟨_, _, _, [], _, [], hW', ?_, trodAll_cons_mk (Below.trod aIS (by kernel_rfl) (of_decide_eq_true (by kernel_rfl)) h0 bel (DI.Trod_lt h0)) (trodAll_cons_mk (Below.trod aIS (by kernel_rfl) (of_decide_eq_true (by kernel_rfl)) h1 bel (DI.Trod_lt h1)) (trodAll_cons_mk (Below.trod aIS (by kernel_rfl) (of_decide_eq_true (by kernel_rfl)) h2 bel (DI.Trod_lt h2)) (trodAll_mk0))), rfl, bel.frame _, λ h => by cases h⟩
 exact trodAll_mk1 (shut_bool Tryz.underlying4 _)
theorem aDs : Rows.TreeNodesSaid :=
 OpenClaim.holds_of_wide 10 Tryz.f10 rfl rfl rfl rfl rfl rfl rfl ⟨rfl, rfl, rfl, rfl, rfl⟩ rfl rfl rfl rfl rfl (by kernel_rfl) Tryz.func10 (by kernel_rfl)
   (of_decide_eq_true (by kernel_rfl)) (by unfold Func.isWrapper; first | (rw [if_pos (by decide +kernel)]; kernel_rfl) | (rw [if_neg (by decide +kernel)]; exact ⟨rfl, rfl⟩))
   (λ os started H enc _ => aBG os started H enc)
theorem treeNodes_card : Rows.TreeNodesCardSaid :=
 Claim7.holds_tied_plain_at .later [] [.data, .pinned] true (true, "3dd57d3444cfc5a4a37a0564436330203d77d586e2d28f5b2bbecef56e8f6c6a") true aDs (λ _ h => by cases h) (by kernel_rfl) (λ _ h => by cases h) treeNodes_row_tie rfl ⟨rfl, rfl⟩ (by kernel_rfl) rfl
   (λ f fn hf hfn => by
     obtain rfl : f = 10 := Option.some.inj ((show Tryz.prog.funcNamed "hurdle/hurdlelaw39.TreeNodes" = some 10 by kernel_rfl).symm.trans hf) |>.symm
     obtain rfl : fn = Tryz.f10 := (Option.some.inj (Tryz.func10.symm.trans hfn)).symm; exact ⟨by kernel_rfl, λ j t ht => by
       rw [Tryz.params10] at ht; have hm : t ∈ [40, 9, 9] := by simpa using Array.mem_of_getElem? ht
       have hall : ([40, 9, 9].all λ u => !Tryz.prog.wantsStandIn u) = true := by kernel_rfl
       exact (show Tryz.prog.wantsStandIn t = false by simpa using List.all_eq_true.1 hall t hm)⟩)
   (by kernel_rfl)
#print axioms treeNodes_card
end Go.Proofs.YtmafhiogonejfaaGreatDoor
