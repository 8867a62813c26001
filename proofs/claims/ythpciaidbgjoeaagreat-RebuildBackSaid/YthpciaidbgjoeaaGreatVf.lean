/- Specs. No condition beyond the theorems' own. -/
import Derived.Test.YthpciaidbgjoeaaGreatVe
set_option linter.unusedVariables false
set_option linter.unusedSimpArgs false
namespace Go.Proofs.YthpciaidbgjoeaaGreat
open Go.DI
section
variable {T : Nat -> Ln} {N : Nat -> Nat} {n : Nat}
theorem wrE (hN : ∀ j, 1 <= N j /\ N j <= 65536) (m : Nat) : WrE (EL (m + 68)) N where
 aw := aEf (by kernel_rfl) (m + 67)
 ok := λ {text j ls hs h' A g pa pm sv lb S X} ok h1 h2 hS hj hNj hlk w r hX => by
   rw [pM (s := S9) (by kernel_rfl) (by kernel_rfl) (m + 67)]
   exact aWD (jE hN (m + 7)) (jE hN (m + 6)) (pM (s := S28) (by kernel_rfl) (by kernel_rfl) (m + 66)) (bHB (m + 63)) (pM (s := S31) (by kernel_rfl) (by kernel_rfl) (m + 66)) (elp (by kernel_rfl) (m + 65)) ok h1 h2 hS (λ i _ => ⟨rfl, rfl⟩) hj hNj hlk w r hX
 bad := λ {text hs A g pa pm sv lb S X} hw r ht => by
   rw [pM (s := S9) (by kernel_rfl) (by kernel_rfl) (m + 67)]
   exact aLv (pM (s := S28) (by kernel_rfl) (by kernel_rfl) (m + 66)) hw r ht
theorem poE (x : Txt n T N) (m : Nat) : PoE (EL (m + 68)) N T n where
 aw := aEf (by kernel_rfl) (m + 67)
 rn := ⟨_, pM (s := S18) (by kernel_rfl) (by kernel_rfl) (m + 67)⟩
 fl := λ {lost e hs h' A g pr pa pm sv lb sp S X ls ds lo l} r hS hX hl st c => by
   rw [pM (s := S19) (by kernel_rfl) (by kernel_rfl) (m + 67)]
   exact bPY (jE x.N1 (m + 7)) (jE x.N1 (m + 6)) (pM (s := S40) (by kernel_rfl) (by kernel_rfl) (m + 66)) (pM (s := S41) (by kernel_rfl) (by kernel_rfl) (m + 65)) (pM (s := S10) (by kernel_rfl) (by kernel_rfl) (m + 66)) (pM (s := S14) (by kernel_rfl) (by kernel_rfl) (m + 66)) ((cO (B := base) (T := table) (s := S33) (by kernel_rfl) (by kernel_rfl) (m + 65)).trans (congrArg some rfl)) r hS hX hl st c
 st := λ {e bl w op hs h' A g pr pa pm sv lb sp S X} r hw c => by
   rw [pM (s := S20) (by kernel_rfl) (by kernel_rfl) (m + 67)]
   exact bGC (jE x.N1 (m + 7)) (jE x.N1 (m + 6)) (pM (s := S40) (by kernel_rfl) (by kernel_rfl) (m + 66)) (pM (s := S41) (by kernel_rfl) (by kernel_rfl) (m + 65)) r hw c
 lf := λ {lost t hs A g pr pa pm sv lb S X} hl R s => aHo x hl R s (m + 2)
 rd := λ {lost t id hs A g pr pa pm sv lb S X} hl R s hid => bCY x hl R s hid (m + 3)
 sp := λ {lost t hs A g pr pa pm sv lb S X} hl R s ht => bCX x hl R s ht (m + 1)
 fi := λ {lost hs hE A g pr pa pm sv lb S X l} hl R s c => bIc x hl R s c (m + 1)
 sv := ⟨_, pM (s := S10) (by kernel_rfl) (by kernel_rfl) (m + 67)⟩
 dn := ⟨EL (m + 67), (cO (B := base) (T := table) (s := S33) (by kernel_rfl) (by kernel_rfl) (m + 66)).trans (congrArg some rfl), pM (s := S11) (by kernel_rfl) (by kernel_rfl) (m + 67)⟩
 ra := λ {lost d id hs A g pa pm sv lb S X} hl hd hid R hS hX r => aOw x hid ⟨R.st, by have := x.n6; omega, R.str id hid, λ i hi => R.srv id i hid hi, hS, hX, bBH (LfT T) hl hid⟩ (bBC id (by have := x.n6; omega) lost hl d hd) r (m + 3)
end
theorem aWA {E F : aQ} {l : List (Ln)} {dv : DV} {h : H} (rr : gF h dv (dR l)) (ok : ∀ s ∈ l, aP s = true) (lost down : Int) (aw : E 17 = some vL) (new : ∀ a b, aB E 8 a b = S8 F a b) (nw : fK F 25 wJ)
   (hF : ∀ N : Nat -> Nat, (∀ j, 1 <= N j /\ N j <= 65536) -> fZ (Vt N) Eb F) (hW : ∀ N : Nat -> Nat, (∀ j, 1 <= N j /\ N j <= 65536) -> WrE E N) (hP : ∀ {n T N}, Txt n T N -> PoE E N T n) (ch : ∀ n, n <= 6 -> chN n = true) :
   W (S6 E [dv, .int .i64 lost, .int .i64 down] h) λ v _ => v = .bool true := by
 obtain ⟨n, hn⟩ : ∃ n, l.length = n := ⟨_, rfl⟩; have hl : aO dv = some (.int .i64 (.ofNat n)) := by
   rw [rr.len]; unfold dR; rw [List.length_map, hn]
 show W (bDT E dv (.int .i64 lost) (.int .i64 down) h) _; unfold bDT; by_cases n6 : n <= 6
 · obtain ⟨a, m, h0, f1, f2, c⟩ := bDe (ch n n6); rw [Bool.and_eq_true, Bool.and_eq_true] at c; have ea := Nat.eq_of_beq_eq_true c.1; have em := Nat.eq_of_beq_eq_true c.2.1; subst ea em; have hw := c.2.2; unfold gcB at hw; obtain ⟨T, hTd⟩ : ∃ T : Nat -> Ln, T = λ j => l.getD j [] := ⟨_, rfl⟩
   have hT : ∀ j, j < n -> l[j]? = some (T j) := λ j hj => by
     rw [hTd]; simp only [List.getD_eq_getElem?_getD]; rw [List.getElem?_eq_getElem (by omega)]; rfl
   obtain ⟨N, hNd⟩ : ∃ N : Nat -> Nat, N = λ j => if 1 <= (T j).length /\ (T j).length <= 65536 then (T j).length else 1 := ⟨_, rfl⟩
   have hN1 : ∀ j, 1 <= N j /\ N j <= 65536 := λ j => by
     rw [hNd]; simp only; split
     · assumption
     · exact ⟨by decide, by decide⟩
   have hN2 : ∀ j, j < n -> 1 <= (T j).length -> (T j).length <= 1536 -> N j = (T j).length := λ j _ h1 h2 => by
     rw [hNd]; simp only; rw [if_pos ⟨h1, by omega⟩]
   have hok : ∀ j, j < n -> aP (T j) = true := λ j hj => ok _ (List.mem_of_getElem? (hT j hj))
   obtain ⟨_, ga, e1, A, pa, pm, sv, lb, S, rfl, hS, r0, gr, y1, y2⟩ := aMF (N := 5) (w := 4) (s := 1) (sec := .ofNat 90) bOu (hF N hN1) nw (by decide) (by decide) (by decide) (by decide) (by decide) (by decide) f1 f2 h
   have hX0 : kS (List.replicate 5 (uL 90)) (kQ (LfT T) 0) (λ _ => false) (λ _ => false) := λ i hi =>
     ⟨uL 90, by rw [List.getElem?_replicate, if_pos hi], rfl, rfl, by
       have : kQ (LfT T) 0 i = [] := by unfold kQ; split <;> rfl
       rw [this]; exact aSP⟩
   have q0 : Pt A S sv lb h.size ga dv (dR l) := ⟨rr.grown gr, λ b o k c op e => by
     have hb : b < h.size := by
       rcases rr with ⟨_, h1 | ⟨_, _, _, h1⟩⟩ | ⟨b', o', c', op', h1, _, hb, _⟩
       · rw [h1] at e; cases e
       · rw [h1] at e; cases e
       · rw [h1] at e; cases e; exact hb
     exact ⟨λ hr => by have := y1 _ hr; omega, λ hr => by have := y2 _ hr; omega, hb⟩⟩
   have i0 : Ids A S sv lb h.size ga .nils 0 := ⟨gM.nil, λ c q e => by cases e⟩
   have e1 : aB E 8 [.int .i64 (.ofNat 5), .int .i64 (.ofNat 90), .int .i64 (.ofNat 4), .int .i64 (.ofNat 1)] h = some (.ptr pa 0, ga) := by rw [new]; exact e1
   repeat' (first | (with_reducible first | refine sT ?_ | refine sF ?_ | refine g1 ?_ | refine g2 ?_ | refine g3 ?_ | refine g4 ?_) | refine sW e1 ?_ | ((with_reducible apply sV); first | exact hl | exact dF) | exact W.ret ⟨rfl, rfl⟩ | with_reducible refine W.ret ?_)
   have := aRZ (hW N hN1) hn n6 hT hok hN2 hS (.int .i64 lost) (.int .i64 down) (Kf := λ h => (List.range 4).all λ lost => bGO n lost h) (z := h.size) (dv := dv) (pa := pa) (pm := pm) (λ A g u X hs hk hv r hX q hz ids => ?_) n 0 (aK - (n + 1)) A ga .nils _ _ (by omega) hw (λ i hi => absurd hi (Nat.not_lt_zero _)) r0.gc hX0 q0 gr.size i0
   · rw [show aK - (n + 1) + (n + 1) = aK from by unfold aK; omega] at this
     exact this
   · have x : Txt n T N := ⟨n6, hN1, λ j hj => ⟨hok j hj, (hv j hj).1, (hv j hj).2, hN2 j hj (hv j hj).1 (hv j hj).2⟩⟩
     exact end1 (hP x) n6 hn hT hS lost down (λ x hx => bBq (List.all_eq_true.1 hk x (List.mem_range.2 hx))) r hX q hz ids
 · repeat' (first | (with_reducible first | refine sT ?_ | refine sF ?_ | refine g1 ?_ | refine g2 ?_ | refine g3 ?_ | refine g4 ?_) | rw [vC aw] | ((with_reducible apply sV); first | exact hl | exact dF) | exact W.ret ⟨rfl, rfl⟩ | with_reducible refine W.ret ?_)
   exact ⟨.bool true, h, rfl, rfl⟩
end Go.Proofs.YthpciaidbgjoeaaGreat
