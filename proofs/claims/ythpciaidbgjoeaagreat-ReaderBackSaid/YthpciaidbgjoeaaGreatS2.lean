/- Specs. No condition beyond the theorems' own. -/
import Derived.Test.YthpciaidbgjoeaaGreatS1
set_option linter.unusedVariables false
set_option linter.unusedSimpArgs false
noncomputable section
namespace Go.Proofs.YthpciaidbgjoeaaGreat
open Go.DI
theorem aUi (k : Nat) : EL (k + 1) 73 = some kK := aBM (by kernel_rfl) k
theorem aOp (k : Nat) : EL (k + 1) 182 = some qV := aBM (by kernel_rfl) k
theorem aZD (k : Nat) : fT (EL (k + 1)) 109 aAi := ⟨_, cN (s := aSt) (by kernel_rfl) (by kernel_rfl) k, aDq⟩
theorem aUl (k : Nat) : fT (EL (k + 2)) 59 aKv := ⟨_, cN (s := S59) (by kernel_rfl) (by kernel_rfl) (k + 1), bBB (aDv k)⟩
theorem aZx (k : Nat) : fT (EL (k + 3)) 147 aAh := ⟨_, cN (s := aSo) (by kernel_rfl) (by kernel_rfl) (k + 2), aBn (cN (s := aEH) (by kernel_rfl) (by kernel_rfl) (k + 1)) (aOp k) (cN (s := aKq) (by kernel_rfl) (by kernel_rfl) (k + 1))⟩
theorem aZC (k : Nat) : fT (EL (k + 5)) 110 vP := by
 obtain ⟨P, q1, q2⟩ := aUl (k + 2); obtain ⟨Q, y1, y2⟩ := aZx (k + 1); exact ⟨_, cN (s := aSs) (by kernel_rfl) (by kernel_rfl) (k + 4), aBF (cN (s := aEH) (by kernel_rfl) (by kernel_rfl) (k + 3)) (aOp (k + 2)) (cN (s := aKs) (by kernel_rfl) (by kernel_rfl) (k + 3)) q1 q2 y1 y2⟩
theorem aUm (k : Nat) : fT (EL (k + 6)) 74 aCp := ⟨_, cN (s := S74) (by kernel_rfl) (by kernel_rfl) (k + 5), aJq (cN (s := aMB) (by kernel_rfl) (by kernel_rfl) (k + 4)) (aZD (k + 4)) (aZC k)⟩
theorem aUn (k : Nat) : fT (EL (k + 7)) 46 tT := ⟨_, cN (s := S46) (by kernel_rfl) (by kernel_rfl) (k + 6), aJr (aUi (k + 5)) (aUm k)⟩
theorem aUo (k : Nat) : fT (EL (k + 1)) 45 wR := ⟨_, cN (s := S45) (by kernel_rfl) (by kernel_rfl) k, aMb⟩
theorem aJz (k : Nat) : fT (EL (k + 8)) 25 aAU := ⟨_, cN (s := S25) (by kernel_rfl) (by kernel_rfl) (k + 7), aLi (aUo (k + 6)) (aUn k)⟩
def k1 : H := (aC Es 27 [.int .i64 0, .int .i64 (.ofNat 4)] hs0).elim hs0 Prod.snd
def k2 : H := (aC Es 27 [.int .i64 (.ofNat 4), .int .i64 (.ofNat 0)] k1).elim hs0 Prod.snd
def k3 : H := (aC Es 26 [.slc 3 0 4 4 false, .slc 4 0 0 0 false] k2).elim hs0 Prod.snd
theorem fk1 : aC Es 27 [.int .i64 0, .int .i64 (.ofNat 4)] hs0 = some (.slc 3 0 4 4 false, k1) := lT (by kernel_rfl)
theorem fk2 : aC Es 27 [.int .i64 (.ofNat 4), .int .i64 (.ofNat 0)] k1 = some (.slc 4 0 0 0 false, k2) := lT (by kernel_rfl)
theorem fk3 : aC Es 26 [.slc 3 0 4 4 false, .slc 4 0 0 0 false] k2 = some (.ptr 17 0, k3) := lT (by kernel_rfl)
theorem z_k3 : k3.size = 18 := by kernel_rfl
theorem bLw : hA = k3.push (arB (.ptr 17 0) 4) := by
 have : bDN 4 0 = some (.ptr k3.size 0, k3.push (arB (.ptr 17 0) 4)) := by
   unfold bDN rNew; rw [fk1, Option.bind_some, fk2, Option.bind_some, fk3, Option.bind_some, H.pushK_eq]
 unfold hA; rw [this]; rfl
theorem sXp {cs : List DV} {h : H} {kk : DV -> H -> Option (DV × H)} {Q : DV -> H -> Prop} (r : W (kk (.ptr h.size 0) (h.push (.blk ⟨cs.length, cs.length, false, true, Tr.ofL cs⟩))) Q) : W (dN (.agg cs) h kk) Q := by
 unfold dN; rw [aR, H.pushK_eq]; exact r
def A0 (sv : Nat) : Re := λ b => if b = 2 then some sv else none
theorem hr0 {n : Nat} {s : Ln} {sv : Nat} {g : H} (hs : sv < g.size) : HR (Vn n s) O3 (A0 sv) hs0 g where
 inj := λ a b c ha hb => by
   unfold A0 at ha hb; split at ha
   · split at hb
     · rename_i e1 e2; rw [e1, e2]
     · cases hb
   · cases ha
 dom := λ b c h => by
   unfold A0 at h; split at h
   · rename_i e; cases h; subst e; exact ⟨(by decide : 2 < 3), hs⟩
   · cases h
 obj0 := λ b c o _ ho => by
   have : hs0.get b = none := Tr.at_e b; rw [this] at ho; cases ho
 opq := λ b hb => ⟨hb, Tr.at_e b⟩
 unk := λ b u h => by
   unfold Vn at h; by_cases e0 : Nat.beq b 0 = true
   · rw [Nat.eq_of_beq_eq_true e0]; exact (by decide : 0 < 3)
   · rw [Bool.eq_false_iff.2 e0] at h; by_cases e1 : Nat.beq b 1 = true
     · rw [Nat.eq_of_beq_eq_true e1]; exact (by decide : 1 < 3)
     · rw [Bool.eq_false_iff.2 e1] at h; cases h
theorem aFJ {n : Nat} {E : bF} (hE : mC (Vn n (oL n)) Es E) (hN : fT E 25 aAU) (h : H) : W (S8 E [.int .i64 (.ofNat 4), .int .i64 (.ofNat 60), .int .i64 (.ofNat 4), .int .i64 (.ofNat 0)] h) λ v g => ∃ A pa pm sv lb S, v = .ptr pa 0 /\ S.length = 4 /\ iC n hA A g pa pm sv lb S (List.replicate 4 (lU 60)) := by
 obtain ⟨BN, bN, sN'⟩ := hN.call; show W (bBk E (.int .i64 (.ofNat 4)) (.int .i64 (.ofNat 60)) (.int .i64 (.ofNat 4)) (.int .i64 (.ofNat 0)) h) _; unfold bBk
 repeat' (first | with_reducible refine sT ?_ | with_reducible refine sF ?_ | with_reducible refine g1 ?_ | with_reducible refine g2 ?_ | with_reducible refine g3 ?_ | with_reducible refine g4 ?_ | ((with_reducible apply sV); first | exact aB.read (by assumption) (by rfl) | exact aB.readN (by assumption) (Nat.le_of_ble_eq_true rfl) | exact eG (by omega) | exact eH (by omega) | exact gtT (by omega) | exact gtF (by omega) | exact eI (by omega) | exact eJ (by omega) | exact geT (by omega) | exact geF (by omega) | exact dZ (by omega) | exact eK (by omega) | exact eE (by omega) | exact eF (by omega) | exact aD (by omega) | exact bT (by omega) | exact aE (by omega) (by omega) | exact aG (by omega) _ | exact aI _ _ _ _ | exact aJ _ _ _ _ | exact aF _ _ _ | exact rfl) | exact W.ret ⟨rfl, rfl⟩ | with_reducible refine W.ret ?_)
 refine sN bN (sN' 4 60 h (by decide) (by decide) (by decide)) ?_
 rintro _ ga ⟨sv, lb, S, rfl, hS, hle, a1, ⟨b1, b2, b3⟩, a3, a4, a5⟩
 have hsv : sv < ga.size := a1.1.1; have hat : ∀ (i : Nat) (B : dH) (x : fM), S[i]? = some B -> (List.replicate 4 (lU 60))[i]? = some x -> lZ ga B x := λ i B x hi hx => by
   rw [List.getElem?_replicate] at hx; split at hx
   · cases hx; exact b1 B (List.mem_of_getElem? hi)
   · cases hx
 have q : SvS ga sv lb S (List.replicate 4 (lU 60)) := ⟨a1, by rw [List.length_replicate, hS], hat, b2, λ B hB x hx => ⟨b3 B hB x hx, a3 B hB x hx⟩, a4⟩
 refine sR hE (hr0 hsv) (args' := [.int .i64 (.ofNat 0), .int .i64 (.ofNat 4)]) rfl fk1 λ A1 w1 gb s1 r1 v1 => ?_
 obtain ⟨c1, d1, rfl⟩ := gW v1; refine sR hE r1 (args' := [.int .i64 (.ofNat 4), .int .i64 (.ofNat 0)]) rfl fk2 λ A2 w2 gc s2 r2 v2 => ?_
 obtain ⟨c2, d2, rfl⟩ := gW v2; refine sR hE r2 (aL.2 ⟨_, _, fW (s2.le _ _ d1), aL.2 ⟨_, _, fW d2, rfl, rfl⟩, rfl⟩) fk3 λ A3 w3 gd s3 r3 v3 => ?_
 obtain ⟨pm, d3, rfl⟩ := jN v3; have hA3 : A3 2 = some sv := s3.le _ _ (s2.le _ _ (s1.le _ _ (by unfold A0; rw [if_pos rfl])))
 repeat' (first | with_reducible refine sT ?_ | with_reducible refine sF ?_ | with_reducible refine g1 ?_ | with_reducible refine g2 ?_ | with_reducible refine g3 ?_ | with_reducible refine g4 ?_ | ((with_reducible apply sV); first | exact aB.read (by assumption) (by rfl) | exact aB.readN (by assumption) (Nat.le_of_ble_eq_true rfl) | exact eG (by omega) | exact eH (by omega) | exact gtT (by omega) | exact gtF (by omega) | exact eI (by omega) | exact eJ (by omega) | exact geT (by omega) | exact geF (by omega) | exact dZ (by omega) | exact eK (by omega) | exact eE (by omega) | exact eF (by omega) | exact aD (by omega) | exact bT (by omega) | exact aE (by omega) (by omega) | exact aG (by omega) _ | exact aI _ _ _ _ | exact aJ _ _ _ _ | exact aF _ _ _ | exact rfl) | exact W.ret ⟨rfl, rfl⟩ | with_reducible refine W.ret ?_)
 refine sXp ?_; refine W.ret ?_; have ho : OR (Vn n (oL n)) A3 (arB (.ptr 17 0) 4) (some (.blk ⟨19, 19, false, true, Tr.ofL (.ptr sv 0 :: .ptr pm 0 :: .int .i64 (.ofNat 4) :: List.replicate 16 (.int .i64 (.ofNat 0)))⟩)) :=
   ⟨rfl, rfl, rfl, rfl, oI (aL.2 ⟨_, _, jU hA3, aL.2 ⟨_, _, jU d3, rfl, rfl⟩, rfl⟩)⟩
 obtain ⟨r4, s4, e4⟩ := r3.push ho; rw [<- bLw] at r4; rw [z_k3] at r4 s4 e4; have st : Stp O3 (A0 sv) ga (A3.ins 18 gd.size) (gd.push (.blk ⟨19, 19, false, true, Tr.ofL (.ptr sv 0 :: .ptr pm 0 :: .int .i64 (.ofNat 4) :: List.replicate 16 (.int .i64 (.ofNat 0)))⟩)) := s1.trans (s2.trans (s3.trans s4)); have nr : ∀ c, ¬ rng O3 (A0 sv) c := λ c ⟨b, hb, ho⟩ => by
   unfold A0 at hb; split at hb
   · rename_i e; exact ho (by rw [e]; exact (by decide : 2 < 3))
   · cases hb
 refine ⟨_, gd.size, pm, sv, lb, S, rfl, hS, r4, e4, s4.le _ _ d3, s4.le _ _ hA3, q.off st.off λ c _ hr => nr c hr, λ c hc hf => ?_⟩
 rcases yZ st hc with h | h
 · exact nr c h
 · have := q.in_ hf; omega
end Go.Proofs.YthpciaidbgjoeaaGreat
end
