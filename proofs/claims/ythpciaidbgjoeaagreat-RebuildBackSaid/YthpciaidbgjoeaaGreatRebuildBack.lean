/- RebuildBack: for every argument the law answers true, and its arguments read behind the call as before. No condition. -/
import Derived.Test.YthpciaidbgjoeaaGreatVi
import Derived.Test.YthpciaidbgjoeaaGreatRows
import Derived.ProofKit
import Derived.OpenShut
set_option linter.unusedSimpArgs false
set_option linter.unusedVariables false
namespace Go.Proofs.YthpciaidbgjoeaaGreat
open Go.ChangeShapes Go.WideShapes Go.ChangeAt Go.RowKit
theorem tR : ownKnob Tryz.prog.godebug = none := by kernel_rfl
theorem aGL : laidOutB Tryz.prog = true := by kernel_rfl
open Go.DI in
theorem aSy {H : Type} {enc : TypeId × Value -> H} {P : Program} {W : World} {r : Reach} {b0 : Nat} {t e : TypeId} {v : Value} {d : DataW H} {ps : List MemPlace} (ht : P.underlying t = some (.slice e)) (he : P.underlying e = some .string) (hc : P.cellsOf e = 1)
   (hval : Value.okWide P W r b0 t v) (hd : DataW.Trod enc P W 0 (λ _ => true) true t v d ps) (hg : Go.DI.Good W := by first | assumption | exact λ _ h => by cases h) :
   ∃ (l : List (Ln)) (m : Mp) (h : DI.H) (dv : DV), bH W.heap.size W m h W /\ tr m dv = some v /\ gF h dv (dR l) /\ ∀ s ∈ l, aP s = true := by
 obtain ⟨a, len, cap, rfl⟩ := Go.WideShapes.okWide_slice ht hval; obtain ⟨fuel, hf⟩ := hd; rcases Go.ChangeShapes.open_strings ht he hc hf with ⟨hcs, hx⟩ | ⟨a', len', cap', ss, hcs, _, hl, hm, hz, hx, hcell, hws⟩
 · have hcs : [Value.slice a len cap] = [Value.slice none 0 0] := hcs; cases hcs; exact ⟨[], λ _ => none, H0, .nils, bH.start W hg, rfl, gF.nil _, λ s hs => nomatch hs⟩
 · have hcs : [Value.slice a len cap] = [Value.slice (some a') len' cap'] := hcs; cases hcs; simp only [if_true] at hz; have hhas : W.has P r b0 a' e cap := by
     simp only [Value.okWide, ht, Cell.okWide, Cell.ok] at hval; exact hval.2.2
   obtain ⟨_, hspot, row, k, hshape, _⟩ := hhas; have hlen : (dR ((ss.take len).map aCW)).length = len := by simp [dR]; omega
   have hget : ∀ j x, (dR ((ss.take len).map aCW))[j]? = some x -> ∃ s, (ss.take len)[j]? = some s /\ x = DV.str (aCW s) := λ j x hj => by
     simp only [dR, List.map_map] at hj; rw [List.getElem?_map] at hj; cases hs : (ss.take len)[j]? with
     | none => rw [hs] at hj; cases hj
     | some s => rw [hs] at hj; cases hj; exact ⟨s, hs, rfl⟩
   obtain ⟨m, o, h1, h2, h3⟩ := bH.startRow (w := W) hg (a := a') (len := len) (cap := cap) (CL := dR ((ss.take len).map aCW)) hspot hshape (λ h0 => by omega) (λ j x hj => by
     obtain ⟨s, hs, rfl⟩ := hget j x hj; have hjl := gU hs; rw [List.getElem?_take] at hs; split at hs
     · have := hcell j (gU hs); rw [List.getD_eq_getElem?_getD, hs] at this; exact ⟨.string s, by simp [tr, toBA_ofBA, okStr_ofBA], this⟩
     · cases hs)
   refine ⟨(ss.take len).map aCW, m, _, .slc 0 o len cap false, h1, h2, ?_, ?_⟩
   · have := gF.start (CL := dR ((ss.take len).map aCW)) (o := o) (cap := cap) (op := false) h3 (by omega)
     rw [hlen] at this; exact this
   · intro s hs; obtain ⟨u, _, rfl⟩ := List.mem_map.1 hs; exact okStr_ofBA u
set_option maxRecDepth 100000 in
theorem xU (os : Os) (started : os.Started) (H : Type) (enc : TypeId × Value -> H) :
   ReturnsInHanded {} Tryz.checked os 6 .any (Rows.rebuildBackSpec.pre6 enc Tryz.prog Tryz.f6 Rows.rebuildBackRow.domain false) (Rows.rebuildBackSpec.post enc Tryz.prog Tryz.f6 false true false false) := by
 refine returnsInHanded_of_change (C := Tryz.checked) tR started (by kernel_rfl) Tryz.func6
   (ChangeSpec.witness6 (enc := enc) (C := Tryz.checked) false ⟨#[], #[.slice none 0 0, .int .i64 0, .int .i64 0], []⟩ 8 (by kernel_rfl) (by kernel_rfl) (by kernel_rfl) (by kernel_rfl)) ?_
 intro W base args ds gs before hval0 hW hcnd _; have hval : ∀ (j : Nat) t v, Tryz.f6.params[j]? = some t -> args[j]? = some v -> Value.okWide Tryz.prog W .any base t v := hval0; have hW' := hW; obtain ⟨p, q, hA0, hV, rfl, hfz, hnd⟩ := hW; have hA : DataW.TrodAll enc Tryz.prog W 0 (λ _ => true) true Tryz.f6.params.toList args.toList ds p := hA0
 rw [Tryz.params6] at hA hval; obtain ⟨v0, v1, v2, d0, d1, d2, p0, p1, p2, rfl, rfl, rfl, h0, h1, h2⟩ := trodAll_three hA; obtain ⟨rfl, rfl⟩ := trodVars_none hV; obtain ⟨l0, m, hh, dv, hw, hv, rr, ok⟩ := aSy Tryz.underlying50 Tryz.underlying9 (by kernel_rfl) (hval 0 50 v0 rfl rfl) h0
 obtain ⟨x1, rfl⟩ := okWide_int Tryz.underlying3 (hval 1 3 v1 rfl rfl); obtain ⟨x2, rfl⟩ := okWide_int Tryz.underlying3 (hval 2 3 v2 rfl rfl)
 clear hA0 hval0
 simp only [List.append_nil] at hW'; have args_ok : DI.trs m [dv, .int .i64 x1, .int .i64 x2] = some [v0, .int .i64 x1, .int .i64 x2] := by
   simp [DI.trs, hv, DI.tr_str_any, DI.tr, DI.toBA_ofBA, DI.okStr_ofBA]
 refine (DI.calls_true3 bDa tab (show DI.Tr.at_ table 6 = some S6 by kernel_rfl) hw args_ok (aBQ rr ok)).mono λ e W' ⟨he, bel⟩ => ?_
 subst he; refine ⟨_, rfl, ?_⟩; refine ⟨_, _, _, [], _, [], hW', ?_, trodAll_cons_mk (Below.trod aGL (by kernel_rfl) (of_decide_eq_true (by kernel_rfl)) h0 bel (DI.Trod_lt h0)) (trodAll_cons_mk (Below.trod aGL (by kernel_rfl) (of_decide_eq_true (by kernel_rfl)) h1 bel (DI.Trod_lt h1)) (trodAll_cons_mk (Below.trod aGL (by kernel_rfl) (of_decide_eq_true (by kernel_rfl)) h2 bel (DI.Trod_lt h2)) (trodAll_mk0))), rfl, bel.frame _, λ h => by cases h⟩
 exact trodAll_mk1 (shut_bool Tryz.underlying4 _)
theorem rebuildBack_holds : Rows.RebuildBackSaid :=
 OpenClaim.holds_of_wide 6 Tryz.f6 rfl rfl rfl rfl rfl rfl rfl ⟨rfl, rfl, rfl, rfl, rfl⟩ rfl rfl rfl rfl rfl (by kernel_rfl) Tryz.func6 (by kernel_rfl)
   (of_decide_eq_true (by kernel_rfl)) (by unfold Func.isWrapper; first | (rw [if_pos (by decide +kernel)]; kernel_rfl) | (rw [if_neg (by decide +kernel)]; exact ⟨rfl, rfl⟩))
   (λ os started H enc _ => xU os started H enc)
#print axioms rebuildBack_holds
end Go.Proofs.YthpciaidbgjoeaaGreat
