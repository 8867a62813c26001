/- ReaderBack: for every argument the law answers true, and its arguments read behind the call as before. No condition. -/
import Derived.Test.YthpciaidbgjoeaaGreatSB
import Derived.Test.YthpciaidbgjoeaaGreatRows
import Derived.ProofKit
import Derived.OpenShut
set_option linter.unusedSimpArgs false
set_option linter.unusedVariables false
namespace Go.Proofs.YthpciaidbgjoeaaGreat
open Go.ChangeShapes Go.WideShapes Go.ChangeAt Go.RowKit
theorem own : ownKnob Tryz.prog.godebug = none := by kernel_rfl
theorem aGz : laidOutB Tryz.prog = true := by kernel_rfl
set_option maxRecDepth 100000 in
theorem zG (os : Os) (started : os.Started) (H : Type) (enc : TypeId × Value -> H) :
   ReturnsInHanded {} Tryz.checked os 4 .any (Rows.readerBackSpec.pre6 enc Tryz.prog Tryz.f4 Rows.readerBackRow.domain false) (Rows.readerBackSpec.post enc Tryz.prog Tryz.f4 false true false false) := by
 refine returnsInHanded_of_change (C := Tryz.checked) own started (by kernel_rfl) Tryz.func4
   (ChangeSpec.witness6 (enc := enc) (C := Tryz.checked) false ⟨#[], #[.string ⟨#[]⟩, .int .i64 0, .int .i64 0], []⟩ 8 (by kernel_rfl) (by kernel_rfl) (by kernel_rfl) (by kernel_rfl)) ?_
 intro W base args ds gs before hval0 hW hcnd _; have hval : ∀ (j : Nat) t v, Tryz.f4.params[j]? = some t -> args[j]? = some v -> Value.okWide Tryz.prog W .any base t v := hval0; have hW' := hW; obtain ⟨p, q, hA0, hV, rfl, hfz, hnd⟩ := hW; have hA : DataW.TrodAll enc Tryz.prog W 0 (λ _ => true) true Tryz.f4.params.toList args.toList ds p := hA0
 rw [Tryz.params4] at hA hval; obtain ⟨v0, v1, v2, d0, d1, d2, p0, p1, p2, rfl, rfl, rfl, h0, h1, h2⟩ := trodAll_three hA; obtain ⟨rfl, rfl⟩ := trodVars_none hV; obtain ⟨x0, rfl⟩ := okWide_string Tryz.underlying9 (hval 0 9 v0 rfl rfl); obtain ⟨x1, rfl⟩ := okWide_int Tryz.underlying3 (hval 1 3 v1 rfl rfl); obtain ⟨x2, rfl⟩ := okWide_int Tryz.underlying3 (hval 2 3 v2 rfl rfl)
 clear hA0 hval0
 simp only [List.append_nil] at hW'; have args_ok : DI.trs (λ _ => none) [.str (DI.ofBA x0), .int .i64 x1, .int .i64 x2] = some [.string x0, .int .i64 x1, .int .i64 x2] := by
   simp [DI.trs, DI.tr, DI.toBA_ofBA, DI.okStr_ofBA]
 refine (DI.calls_true2 bAA tab (show DI.Tr.at_ table 4 = some S4 by kernel_rfl) args_ok (aCR (DI.okStr_ofBA x0)) W).mono λ e W' ⟨he, bel⟩ => ?_
 subst he; refine ⟨_, rfl, ?_⟩; refine ⟨_, _, _, [], _, [], hW', ?_, trodAll_cons_mk (Below.trod aGz (by kernel_rfl) (of_decide_eq_true (by kernel_rfl)) h0 bel (DI.Trod_lt h0)) (trodAll_cons_mk (Below.trod aGz (by kernel_rfl) (of_decide_eq_true (by kernel_rfl)) h1 bel (DI.Trod_lt h1)) (trodAll_cons_mk (Below.trod aGz (by kernel_rfl) (of_decide_eq_true (by kernel_rfl)) h2 bel (DI.Trod_lt h2)) (trodAll_mk0))), rfl, bel.frame _, λ h => by cases h⟩
 exact trodAll_mk1 (shut_bool Tryz.underlying4 _)
theorem readerBack_holds : Rows.ReaderBackSaid :=
 OpenClaim.holds_of_wide 4 Tryz.f4 rfl rfl rfl rfl rfl rfl rfl ⟨rfl, rfl, rfl, rfl, rfl⟩ rfl rfl rfl rfl rfl (by kernel_rfl) Tryz.func4 (by kernel_rfl)
   (of_decide_eq_true (by kernel_rfl)) (by unfold Func.isWrapper; first | (rw [if_pos (by decide +kernel)]; kernel_rfl) | (rw [if_neg (by decide +kernel)]; exact ⟨rfl, rfl⟩))
   (λ os started H enc _ => zG os started H enc)
#print axioms readerBack_holds
end Go.Proofs.YthpciaidbgjoeaaGreat
