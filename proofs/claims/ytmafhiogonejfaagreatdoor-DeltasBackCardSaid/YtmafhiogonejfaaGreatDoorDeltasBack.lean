/- DeltasBack: for every argument the law answers true, and its arguments read behind the call as before. Condition: the listed variables read as the program's text lays them. -/
import Derived.Test.YtmafhiogonejfaaGreatDoorDe3
import Derived.Test.YtmafhiogonejfaaGreatDoorRows
import Derived.Test.YtmafhiogonejfaaGreatDoorCards
import Derived.Test.YtmafhiogonejfaaGreatDoorTie
import Derived.ProofKit
import Derived.OpenShut
import Derived.SizedLaws
import Derived.LaidMore
import Derived.Lay
import Derived.SevenTiedAt
import Derived.Stop.Joined
set_option linter.unusedSimpArgs false
set_option linter.unusedVariables false
namespace Go.Proofs.YtmafhiogonejfaaGreatDoor
open Go.ChangeShapes Go.WideShapes Go.ChangeAt Go.RowKit

theorem own : ownKnob Tryz.prog.godebug = none := by kernel_rfl
theorem laidOut : laidOutB Tryz.prog = true := by kernel_rfl
set_option maxRecDepth 100000 in
/-- An operation is three ints and three texts. -/
theorem open_op {W : World} {base : Nat} {v : Value} (h : Value.okWide Tryz.prog W .any base 23 v) : ∃ (k a n : Int) (p q t : ByteArray), v = .agg #[.int .i64 k, .int .i64 a, .int .i64 n, .string p, .string q, .string t] ∧ inI64 k ∧ inI64 a ∧ inI64 n := by
  have hc6 : Tryz.prog.cellsOf 23 = 6 := by kernel_rfl
  have hts : Tryz.prog.cellTypes Tryz.prog.depth 23 = some [3, 3, 3, 9, 9, 9] := by kernel_rfl
  have h' : ∃ cs, v = .agg cs ∧ cs.size = Tryz.prog.cellsOf 23 ∧ Row.okWide Tryz.prog W .any base 23 cs := by
    unfold Value.okWide at h
    rw [Tryz.underlying23] at h
    exact h
  obtain ⟨cs, rfl, hs, ts, hts', _, hc⟩ := h'
  rw [hts] at hts'
  cases hts'
  rw [hc6] at hs
  obtain ⟨l⟩ := cs
  have gi : ∀ {x : Value}, Cell.okWide Tryz.prog W .any base 3 x → ∃ n, x = .int .i64 n ∧ inI64 n := fun {x} hx => by
    obtain ⟨n, rfl⟩ := okWide_int Tryz.underlying3 (show Value.okWide Tryz.prog W .any base 3 x by unfold Value.okWide; rw [Tryz.underlying3]; exact hx)
    refine ⟨n, rfl, ?_⟩
    simp only [Cell.okWide, Tryz.underlying3, Cell.ok, IntKind.has, IntKind.min, IntKind.max, IntKind.signed, IntKind.bits, true_and] at hx
    obtain ⟨h1, h2⟩ := hx
    exact ⟨by simpa using h1, by have := h2; simp at this; omega⟩
  have gs : ∀ {x : Value}, Cell.okWide Tryz.prog W .any base 9 x → ∃ n, x = .string n := fun {x} hx => by
    exact okWide_string Tryz.underlying9 (show Value.okWide Tryz.prog W .any base 9 x by unfold Value.okWide; rw [Tryz.underlying9]; exact hx)
  match l, hs, hc with
  | [c0, c1, c2, c3, c4, c5], _, hc =>
    obtain ⟨u0, e0, h0⟩ := hc 0 c0 rfl
    obtain ⟨u1, e1, h1⟩ := hc 1 c1 rfl
    obtain ⟨u2, e2, h2⟩ := hc 2 c2 rfl
    obtain ⟨u3, e3, h3⟩ := hc 3 c3 rfl
    obtain ⟨u4, e4, h4⟩ := hc 4 c4 rfl
    obtain ⟨u5, e5, h5⟩ := hc 5 c5 rfl
    cases e0; cases e1; cases e2; cases e3; cases e4; cases e5
    obtain ⟨k, rfl, g0⟩ := gi h0
    obtain ⟨a, rfl, g1⟩ := gi h1
    obtain ⟨n, rfl, g2⟩ := gi h2
    obtain ⟨p, rfl⟩ := gs h3
    obtain ⟨q, rfl⟩ := gs h4
    obtain ⟨t, rfl⟩ := gs h5
    exact ⟨k, a, n, p, q, t, rfl, g0, g1, g2⟩
set_option maxRecDepth 100000 in
theorem deltasBack_lifted (os : Os) (started : os.Started) (H : Type) (enc : TypeId × Value → H) :
    ReturnsInHanded {} Tryz.checked os 4 .any (fun w args => (Rows.deltasBackSpec.pre enc Tryz.prog Tryz.f4 [] false w args ∧ laidMetH Tryz.prog Rows.deltasBackRow.laid w) ∧ sizedMet enc Tryz.prog Tryz.f4 (OpenSpec.ofChange Rows.deltasBackSpec) false w args)
      (Rows.deltasBackSpec.post enc Tryz.prog Tryz.f4 false true false false) := by
  refine returnsInHanded_of_change_and (C := Tryz.checked) (X := fun w _ => laidMetH Tryz.prog Rows.deltasBackRow.laid w) (fun _ _ _ hh h => h.of_heap hh) own started (by kernel_rfl) Tryz.func4
    (ChangeSpec.witness_shaped (enc := enc) (C := Tryz.checked) (os := os) (X := fun w _ => laidMetH Tryz.prog Rows.deltasBackRow.laid w) false (World.laidAll Tryz.prog os Rows.deltasBackRow.laid) #[.agg #[.int .i64 0, .int .i64 0, .int .i64 0, .string ⟨#[]⟩, .string ⟨#[]⟩, .string ⟨#[]⟩], .string ⟨#[]⟩] 8 (World.laidAll_os _ _ _)
      (World.shaped_of_ZipB (by kernel_rfl) (by kernel_rfl)) (by kernel_rfl) (by kernel_rfl) (by kernel_rfl)
      (by rw [MakeChecks.laidMetH_plain _ _ _ (by kernel_rfl)]; exact laidMet_laidAll _ (by kernel_rfl) (by kernel_rfl))) ?_
  intro W base args ds gs before hval0 hW _ hsz _ _
  have hval : ∀ (j : Nat) t v, Tryz.f4.params[j]? = some t → args[j]? = some v → Value.okWide Tryz.prog W .any base t v := hval0
  have hW' := hW
  obtain ⟨p, q, hA0, hV, rfl, hfz, hnd⟩ := hW
  have hA : DataW.TrodAll enc Tryz.prog W 0 (fun _ => true) true Tryz.f4.params.toList args.toList ds p := hA0
  rw [Tryz.params4] at hA hval hsz
  obtain ⟨v0, v1, d0, d1, p0, p1, rfl, rfl, rfl, h0, h1⟩ := trodAll_two hA
  obtain ⟨rfl, rfl⟩ := trodVars_none hV
  obtain ⟨xk0, xa0, xn0, xp0, xq0, xt0, rfl, ro0⟩ := open_op (hval 0 23 v0 rfl rfl)
  have w0 : OpP.ok ⟨xk0, xa0, xn0, DI.ofBA xp0, DI.ofBA xq0, DI.ofBA xt0⟩ := ⟨ro0.1, ro0.2.1, ro0.2.2, DI.okStr_ofBA xp0, DI.okStr_ofBA xq0, DI.okStr_ofBA xt0⟩
  obtain ⟨x1, rfl, rfl, rfl, b1⟩ := Go.ChangeMaps.open_string Tryz.underlying9 (hval 1 9 v1 rfl rfl) h1
  have r1 : (DI.ofBA x1).length < 140737488355328 := by
    have := sized_string hsz (j := 1) (t := 9) rfl rfl
    simp only [reachBytes] at this
    simp only [DI.ofBA, List.length_map]
    omega
  clear hA0 hval0
  have args_ok : DI.trs (fun _ => none) [.agg (opV ⟨xk0, xa0, xn0, DI.ofBA xp0, DI.ofBA xq0, DI.ofBA xt0⟩), .str (DI.ofBA x1)] = some [.agg #[.int .i64 xk0, .int .i64 xa0, .int .i64 xn0, .string xp0, .string xq0, .string xt0], .string x1] := by
    simp [DI.trs, opV, DI.tr, DI.toBA_ofBA, DI.okStr_ofBA]
  refine (DI.calls_true2 baseD1_ok tab (show DI.Tr.at_ table 4 = some S4 by kernel_rfl) args_ok (DeltasBack_run (cod_env 7) w0 (DI.okStr_ofBA x1)) W).mono fun e W' ⟨he, bel⟩ => ?_
  subst he
  refine ⟨_, rfl, ?_⟩
  refine ⟨_, _, _, [], _, [], hW', ?_, trodAll_cons_mk (Below.trod laidOut (by kernel_rfl) (of_decide_eq_true (by kernel_rfl)) h0 bel (DI.Trod_lt h0)) (trodAll_cons_mk (Below.trod laidOut (by kernel_rfl) (of_decide_eq_true (by kernel_rfl)) h1 bel (DI.Trod_lt h1)) (trodAll_mk0)), rfl, bel.frame _, fun h => by cases h⟩
  exact trodAll_mk1 (shut_bool Tryz.underlying4 _)

theorem deltasBack_holds : Rows.DeltasBackSaid :=
  OpenClaim.holds_of_wide 4 Tryz.f4 rfl rfl rfl rfl rfl rfl rfl ⟨rfl, rfl, rfl, rfl, rfl⟩ rfl rfl rfl rfl rfl (by kernel_rfl) Tryz.func4 (by kernel_rfl)
    (of_decide_eq_true (by kernel_rfl)) (by unfold Func.isWrapper; first | (rw [if_pos (by decide +kernel)]; kernel_rfl) | (rw [if_neg (by decide +kernel)]; exact ⟨rfl, rfl⟩))
    (fun os started H enc _ => deltasBack_lifted os started H enc)
theorem deltasBack_card : Rows.DeltasBackCardSaid :=
  Claim7.holds_tied_plain_at .later [] [.data, .pinned] true (true, "3dd57d3444cfc5a4a37a0564436330203d77d586e2d28f5b2bbecef56e8f6c6a") true deltasBack_holds (fun _ h => by cases h) (by kernel_rfl) (fun _ h => by cases h) deltasBack_row_tie rfl ⟨rfl, rfl⟩ (by kernel_rfl) rfl
    (fun f fn hf hfn => by
      obtain rfl : f = 4 := Option.some.inj ((show Tryz.prog.funcNamed "hurdle/hurdlelaw40.DeltasBack" = some 4 by kernel_rfl).symm.trans hf) |>.symm
      obtain rfl : fn = Tryz.f4 := (Option.some.inj (Tryz.func4.symm.trans hfn)).symm
      exact ⟨by kernel_rfl, fun j t ht => by
        rw [Tryz.params4] at ht
        have hm : t ∈ [23, 9] := by simpa using Array.mem_of_getElem? ht
        have hall : ([23, 9].all fun u => !Tryz.prog.wantsStandIn u) = true := by kernel_rfl
        exact (show Tryz.prog.wantsStandIn t = false by simpa using List.all_eq_true.1 hall t hm)⟩)
    (by kernel_rfl)
#print axioms deltasBack_card
end Go.Proofs.YtmafhiogonejfaaGreatDoor
