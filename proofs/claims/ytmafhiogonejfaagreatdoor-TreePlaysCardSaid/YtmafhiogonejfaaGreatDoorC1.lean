/- More of the program's functions. No condition. -/
import Derived.Test.YtmafhiogonejfaaGreatDoorC0
set_option linter.unusedVariables false
noncomputable section
namespace Go.Proofs.YtmafhiogonejfaaGreatDoor
open Go.DI
variable (E : bN)
def R83 : List RV := [(.r p4),(.r p5)]
def aRw (r0 r1 : DV) (h : H) : aV := wK (aD E 85 [r0, r1] h) λ x1 h2 => vK (aH 0 x1) λ x3 => vK (aH 1 x1) λ x4 => vK (dC x4 (ii 0)) λ x5 => bK x5 (some ((.tup [.nilp, x4]), h2)) (wK (aD E 86 [r0, x3] h2) λ x6 h7 => vK (dX .ptr false h7.get x6 .nilp) λ x8 => bK x8 (some ((.tup [.nilp, (ii 12)]), h7)) (some ((.tup [x6, (ii 0)]), h7)))
def bHe : DC := (zs 4 [zX (.mv (.c .nilp)),zX (.mv (zk 0))] (zs 10 [zM 0,zM 1,zF 85 [fS,fY],zT 9 12,zX (.ext 0 o9),zX (.ext 1 o9),zT 6 13,zT 7 14] (zq (zs 15 [zM 7,zX (.bin .neq jH (zk 0))] (.cond hU (zs 4 [zT 17 7,zX (.mv (.c .nilp)),zM 17] .ret) .skip)) (zs 18 [zM 0,zM 6,zF 86 [iD,iO],zT 8 20] (zq (zs 21 [zM 8,zX (.eqv .ptr false hM (.c .nilp))] (.cond iX (zs 4 [zX (.mv (.c .nilp)),zX (.mv (zk 12))] .ret) .skip)) (zs 4 [zT 23 8,zM 23,zX (.mv (zk 0))] .ret))))))
theorem bXu : mW E bHe R83 (aRw E) := λ σ h => by kernel_rfl
def D83 : DF := ⟨2, 24, bHe, R83⟩
def S83 : cD := mX (aRw E)
theorem bKD : SQ D83 S83 := λ E => nF (d := D83) (bXu E) rfl
def R84 : List RV := [(.r p6),(.r p7)]
def aRv (E : bN) (r0 r1 r2 : DV) (h : H) : aV := vK (cR r1 (ii 0)) λ x1 => bA x1 false (λ kk => kk r2 h) h λ x2 h3 => bA x1 false (λ kk => vK (cR x2 (ii 0)) λ v => kk v h3) h3 λ x4 h5 => vK (aW x1 (.bool true) x4) λ x6 => bK x6 (some ((.tup [(.str []), (ii 1)]), h5)) (vK (aM r0) λ x7 => vK (aF 0 x7) λ x8 => vK (aG h5.get x8) λ x9 => vK (aM r0) λ x10 => vK (aF 0 x10) λ x11 => vK (aG h5.get x11) λ x12 => vK (cA x12) λ x13 => vK (aAo r1 x13) λ x14 => vK (gV x9 (some x14) none) λ x15 => vK (cA x15) λ x16 => vK (aAo r2 x16) λ x17 => vK (gV x15 none (some x17)) λ x18 => some ((.tup [x18, (ii 0)]), h5))
def bHd : DC := (zs 6 [zX (.mv (.c (.str []))),zX (.mv (zk 0))] (zq (zs 9 [zM 1,zX (.bin .lss o9 (zk 0)),zM 10,zL 11 false 2,zG 11 false (.bin .lss fV (zk 0)),zX (.pick fY (.c (.bool true)) gA)] (.cond iP (zs 6 [zX (.mv (.c (.str []))),zX (.mv (zk 1))] .ret) .skip)) (zq (zd 15 [yA 0 (zM 0),yA 1 (zX (.nilchk jH)),yA 2 (zX (.fa 0 hU)),yA 3 (zX (.ld iI)),yA 4 (zM 1),yA 5 (zM 0),yA 6 (zX (.nilchk iS)),yA 7 (zX (.fa 0 hM)),yA 8 (zX (.ld iX)),yA 9 (zX (.lenS gW)),yA 10 (zX (.mn iO iN)),yA 11 (zX (.slS iD (some jY) none)),yA 12 (zT 8 26)]) (zs 27 [zM 8,zM 2,zM 8,zX (.lenS mK),zX (.mn lL lR),zX (.slS lG none (some mV)),zT 6 32,zY 7 (.mv (zk 0))] .ret))))
theorem bXt : iA3 E bHd R84 (aRv E) := λ σ h => by kernel_rfl
def D84 : DF := ⟨3, 33, bHd, R84⟩
def S84 : cD := fA3 (aRv E)
theorem bKC : SQ D84 S84 := λ E => eA3 (d := D84) (bXt E) rfl
def R85 : List RV := [(.r p4),(.r p5)]
def aRu (r0 r1 : DV) (h : H) : aV := vK (dX .ptr false h.get r0 .nilp) λ x1 => bK x1 (some ((.tup [(ii 0), (ii 1)]), h)) (wK (aD E 137 [r1] h) λ x2 h3 => vK (aH 0 x2) λ x4 => vK (aH 1 x2) λ x5 => vK (dC x5 (ii 0)) λ x6 => bK x6 (some ((.tup [(ii 0), x5]), h3)) (wK (aD E 138 [r0, x4] h3) λ x7 h8 => vK (aH 0 x7) λ x9 => vK (aH 1 x7) λ x10 => some ((.tup [x9, x10]), h8)))
def bHc : DC := (zs 4 [zX (.mv (zk 0)),zX (.mv (zk 0))] (zq (zs 8 [zM 0,zX (.eqv .ptr false o8 (.c .nilp))] (.cond o9 (zs 4 [zX (.mv (zk 0)),zX (.mv (zk 1))] .ret) .skip)) (zs 11 [zM 1,zF 137 [fY],zT 10 12,zX (.ext 0 fS),zX (.ext 1 fS),zT 6 13,zT 7 14] (zq (zs 15 [zM 7,zX (.bin .neq jH (zk 0))] (.cond hU (zs 4 [zT 17 7,zX (.mv (zk 0)),zM 17] .ret) .skip)) (zs 18 [zM 0,zM 6,zF 138 [iD,iO],zX (.ext 0 iS),zX (.ext 1 iS),zT 4 21,zT 5 22] .ret)))))
theorem bXs : mW E bHc R85 (aRu E) := λ σ h => by kernel_rfl
def D85 : DF := ⟨2, 23, bHc, R85⟩
def S85 : cD := mX (aRu E)
theorem bKB : SQ D85 S85 := λ E => nF (d := D85) (bXs E) rfl
def R86 : List RV := [(.r p4)]
def aRt (E : bN) (r0 r1 : DV) (h : H) : aV := vK (aM r0) λ x1 => vK (aF 0 x1) λ x2 => vK (lV 256 2 x2 r1) λ x3 => vK (aF 1 x3) λ x4 => vK (aG h.get x4) λ x5 => vK (uB 141 .nilp true x5) λ x6 => vK (aH 0 x6) λ x7 => vK (aH 1 x6) λ x8 => some (x7, h)
def bHb : DC := (zs 4 [zX (.mv (.c .nilp))] (zs 8 [zM 0,zM 1,zX (.nilchk o8),zX (.fa 0 fS),zX (.iaA 256 2 fY o9),zX (.fa 1 fV),zX (.ld gA),zX (.tas 141 .nilp true iP),zT 7 15,zX (.ext 0 o7),zX (.ext 1 o7),zT 5 16,zT 6 17] (zs 4 [zT 18 5,zM 18] .ret)))
theorem bXr : mW E bHb R86 (aRt E) := λ σ h => by kernel_rfl
def D86 : DF := ⟨2, 19, bHb, R86⟩
def S86 : cD := mX (aRt E)
theorem bKA : SQ D86 S86 := λ E => nF (d := D86) (bXr E) rfl
def R87 : List RV := [(.r p4)]
def aRs (E : bN) (r0 r1 : DV) (h : H) : aV := vK (aM r0) λ x1 => vK (aF 0 x1) λ x2 => vK (lV 256 2 x2 r1) λ x3 => vK (aF 1 x3) λ x4 => vK (aG h.get x4) λ x5 => vK (uB 120 (.agg [.nilp]) true x5) λ x6 => vK (aH 0 x6) λ x7 => vK (aH 1 x6) λ x8 => dZ 1 1 (.list [.nilp]) h λ x9 h10 => wK (bR 1 x9 x7 h10) λ x11 h12 => vK (kE x8) λ x13 => bK x13 (some (.nilp, h12)) (vK (aF 0 x9) λ x14 => vK (aG h12.get x14) λ x15 => some (x15, h12))
def bHa : DC := (zs 4 [zX (.mv (.c .nilp))] (zs 8 [zM 0,zM 1,zX (.nilchk o8),zX (.fa 0 fS),zX (.iaA 256 2 fY o9),zX (.fa 1 fV),zX (.ld gA),zX (.tas 120 (.agg [.nilp]) true iP),zT 7 15,zX (.ext 0 o7),zX (.ext 1 o7),zY 5 (.alc 1 1 (.list [.nilp])),zW (.st 1 o5 hU),zT 6 17] (zq (zs 18 [zM 6,zX (.not iD)] (.cond iO (zs 4 [zX (.mv (.c .nilp))] .ret) .skip)) (zs 20 [zX (.fa 0 o5),zX (.ld iS),zT 4 21] .ret))))
theorem bXq : mW E bHa R87 (aRs E) := λ σ h => by kernel_rfl
def D87 : DF := ⟨2, 22, bHa, R87⟩
def S87 : cD := mX (aRs E)
theorem bKz : SQ D87 S87 := λ E => nF (d := D87) (bXq E) rfl
def R88 : List RV := [(.r p2)]
def aXG (E : bN) (r3 : DV) (h : H) : aV := some (r3, h)
def bGY : DC := (zs 2 [zT 23 3,zM 23] .ret)
def aNb (r11 r12 : DV) (i2 : DV → DV → H → aV) (r3 r13 : DV) (h : H) : aV := vK (cR r13 r12) λ x1 => bK x1 (vK (bZ 2 r11 r13) λ x2 => vK (aK 2 h.get x2) λ x3 => dZ 2 2 (.list [(.str []), (ii 0)]) h λ x4 h5 => wK (bR 2 x4 x3 h5) λ x6 h7 => vK (aF 0 x4) λ x8 => vK (aG h7.get x8) λ x9 => gI 1 1 [(.str [])] [(0, 1, x9)] h7 λ x10 h11 => wK (cE 1 16 r3 x10 h11) λ x12 h13 => vK (bL r13 (ii 1)) λ x14 => i2 x12 x14 h13) (aXG E r3 h)
def aHK (r11 r12 : DV) (n : Nat) : DV → DV → H → aV := Nat.rec (motive := λ _ => DV → DV → H → aV) (λ _ _ _ => none) (λ _ i => aNb E r11 r12 i) n
def bGX : DC := (.loop (zs 14 [zX (.bin .lss gA fV)] (zq (.cond iP .skip (.exit 0)) (zq (.block 1 (zs 15 [zX (.iaS 2 fY gA),zX (.ldN 2 jH),zY 5 (.alc 2 2 (.list [(.str []),(.int .i64 (.ofNat 0))])),zW (.st 2 o5 hU)] (zr 17 [zM 3,zX (.fa 0 o5),zX (.ld iD),zX (.bsl 1 1 [(.str [])] [(0,1,iO)]),zD ⟨(some p21),none,(.w (.app 1 16 iI iS))⟩,zT 3 21]))) (zr 13 [zY 22 (.bin .add gA (zk 1)),zM 22])))))
def aRr (r0 : DV) (h : H) : aV := vK (dX .ptr false h.get r0 .nilp) λ x1 => bK x1 (some (.nils, h)) (vK (aM r0) λ x2 => vK (aF 0 x2) λ x3 => vK (aG h.get x3) λ x4 => vK (cB x4) λ x5 => aHK E x4 x5 aT .nils (ii 0) h)
def bGZ : DC := (zs 2 [zX (.mv (.c .nils))] (zq (zs 6 [zM 0,zX (.eqv .ptr false o6 (.c .nilp))] (.cond o7 (zs 2 [zX (.mv (.c .nils))] .ret) .skip)) (zs 3 [zX (.mv (.c .nils))] (zq (zs 8 [zM 0,zX (.nilchk o8),zX (.fa 0 o9),zX (.ld fS),zX (.lenL fY),zX (.mv (zk 0))] (.block 0 bGX)) bGY))))
theorem bXo : Is E bGY (bO R88) (λ σ h => aXG E (σ p3) h) := λ σ h => by kernel_rfl
abbrev bWT : gT (DV × H) := (cG (λ σ h => aXG E (σ p3) h) (bO R88))
theorem bXn : Is E bGX (bM 0 (bWT E)) (λ σ h => aHK E (σ p11) (σ p12) aT (σ p3) (σ p13) h) := Is.loop (λ n2 σ h => aHK E (σ p11) (σ p12) n2 (σ p3) (σ p13) h) (by kernel_rfl) λ n2 => Is.as (Is.leaf _) λ σ h => by kernel_rfl
theorem bXp : oA E bGZ R88 (aRr E) := Is.as (Is.seq (Is.seq (Is.seq (Is.seq (bXo E) (Is.seq (Is.block (bXn E)) (Is.leaf _))) (Is.leaf _)) (Is.leaf _)) (Is.leaf _)) λ σ h => by kernel_rfl
def D88 : DF := ⟨1, 24, bGZ, R88⟩
def S88 : cD := oD (aRr E)
theorem bKy : SQ D88 S88 := λ E => oI (d := D88) (bXp E) rfl
def R90 : List RV := [(.cells p8 2),(.r p9)]
def aRq (r0 r1 r2 r3 : DV) (h : H) : aV := dT r0 h λ x1 h2 => dZ 2 2 (.list [.nils, (ii 0)]) h2 λ x3 h4 => vK (cR r2 (ii 0)) λ x5 => bK x5 (vK (aK 2 h4.get x1) λ x6 => wK (bR 2 x3 x6 h4) λ x7 h8 => vK (aK 2 h8.get x3) λ x9 => some ((.tup [x9, (ii 1)]), h8)) (vK (cA r3) λ x10 => vK (eJ x10 (ii 16384)) λ x11 => bA x11 false (λ kk => kk r2 h4) h4 λ x12 h13 => bA x11 false (λ kk => kk r3 h13) h13 λ x14 h15 => bA x11 false (λ kk => vK (cA x14) λ v => kk v h15) h15 λ x16 h17 => bA x11 false (λ kk => vK (fB (ii 16384) x16) λ v => kk v h17) h17 λ x18 h19 => bA x11 false (λ kk => vK (eJ x12 x18) λ v => kk v h19) h19 λ x20 h21 => vK (aW x11 (.bool true) x20) λ x22 => bK x22 (vK (aK 2 h21.get x1) λ x23 => wK (bR 2 x3 x23 h21) λ x24 h25 => vK (aK 2 h25.get x3) λ x26 => some ((.tup [x26, (ii 2)]), h25)) (vK (bS r3 (.str [])) λ x27 => bK x27 (vK (aK 2 h21.get x1) λ x28 => wK (bR 2 x3 x28 h21) λ x29 h30 => vK (aK 2 h30.get x3) λ x31 => some ((.tup [x31, (ii 0)]), h30)) (vK (aF 0 x1) λ x32 => vK (aG h21.get x32) λ x33 => vK (bZ 5 x33 r1) λ x34 => vK (aF 3 x34) λ x35 => vK (aG h21.get x35) λ x36 => wK (aD E 139 [x36, r2, r3] h21) λ x37 h38 => vK (aH 0 x37) λ x39 => vK (aH 1 x37) λ x40 => vK (aK 2 h38.get x1) λ x41 => wK (aD E 132 [x41, r1, x39] h38) λ x42 h43 => vK (aH 0 x42) λ x44 => vK (aH 1 x42) λ x45 => wK (bR 2 x3 x44 h43) λ x46 h47 => vK (aK 2 h47.get x3) λ x48 => some ((.tup [x48, x45]), h47))))
def bGW : DC := (zs 8 [zY 4 (.box o0),zX (.alc 2 2 (.list [.nils,(.int .i64 (.ofNat 0))])),zX (.mv (zk 0))] (zq (.block 0 (zs 13 [zM 2,zX (.bin .lss gA (zk 0)),zT 12 14] (.cond fV (zs 9 [zY 15 (.ldN 2 o4),zW (.st 2 o8 jH),zX (.mv (zk 1))] .ret) (zs 17 [zM 3,zX (.lenS iI),zX (.bin .gtr iD (zk 16384)),zM 19,zL 20 false 2,zL 20 false 3,zG 20 false (.lenS iX),zG 20 false (.bin .sub (zk 16384) gW),zG 20 false (.bin .gtr hM iN),zX (.pick iS (.c (.bool true)) jY),zT 16 26] (.cond hU (zs 9 [zY 27 (.ldN 2 o4),zW (.st 2 o8 lG),zX (.mv (zk 2))] .ret) (zs 29 [zM 3,zX (.bin .eql mK (.c (.str []))),zT 28 30] (.cond lL (zs 9 [zY 31 (.ldN 2 o4),zW (.st 2 o8 mV),zX (.mv (zk 0))] .ret) .skip))))))) (zs 33 [zX (.fa 0 o4),zX (.ld mF),zM 1,zX (.iaS 5 mE oW),zX (.fa 3 mD),zX (.ld oP),zM 2,zM 3,zF 139 [sU,rN,qT],zT 32 41,zX (.ext 0 lF),zX (.ext 1 lF),zT 10 42,zT 11 43] (zs 44 [zX (.ldN 2 o4),zM 1,zM 10,zF 132 [rT,xY,uL],zX (.ext 0 xX),zX (.ext 1 xX),zW (.st 2 o8 o48),zT 9 49] .ret))))
theorem bXm : iA4 E bGW R90 (aRq E) := λ σ h => by kernel_rfl
def D90 : DF := ⟨4, 50, bGW, R90⟩
def S90 : cD := fA4 (aRq E)
theorem bKx : SQ D90 S90 := λ E => eA4 (d := D90) (bXm E) rfl
def R92 : List RV := [(.r p8)]
def aRp (r0 r1 r2 r3 : DV) (h : H) : aV := vK (cR r2 (ii 0)) λ x1 => bK x1 (some ((ii 1), h)) (vK (cA r3) λ x2 => vK (eJ x2 (ii 16384)) λ x3 => bA x3 false (λ kk => kk r2 h) h λ x4 h5 => bA x3 false (λ kk => kk r3 h5) h5 λ x6 h7 => bA x3 false (λ kk => vK (cA x6) λ v => kk v h7) h7 λ x8 h9 => bA x3 false (λ kk => vK (fB (ii 16384) x8) λ v => kk v h9) h9 λ x10 h11 => bA x3 false (λ kk => vK (eJ x4 x10) λ v => kk v h11) h11 λ x12 h13 => vK (aW x3 (.bool true) x12) λ x14 => bK x14 (some ((ii 2), h13)) (vK (bS r3 (.str [])) λ x15 => bK x15 (some ((ii 0), h13)) (vK (aM r1) λ x16 => vK (aF 0 x16) λ x17 => vK (aG h13.get x17) λ x18 => wK (aD E 140 [x18, r2, r3] h13) λ x19 h20 => vK (aH 0 x19) λ x21 => vK (aH 1 x19) λ x22 => wK (aD E 102 [r0, r1, x21] h20) λ x23 h24 => some (x23, h24))))
def bGV : DC := (zs 8 [zX (.mv (zk 0))] (zq (.block 0 (zs 12 [zM 2,zX (.bin .lss fV (zk 0)),zT 11 13] (.cond fY (zs 8 [zX (.mv (zk 1))] .ret) (zs 15 [zM 3,zX (.lenS jH),zX (.bin .gtr hU (zk 16384)),zM 17,zL 18 false 2,zL 18 false 3,zG 18 false (.lenS iS),zG 18 false (.bin .sub (zk 16384) hM),zG 18 false (.bin .gtr iO iX),zX (.pick iD (.c (.bool true)) gW),zT 14 24] (.cond iP (zs 8 [zX (.mv (zk 2))] .ret) (zs 26 [zM 3,zX (.bin .eql lM (.c (.str []))),zT 25 27] (.cond jY (zs 8 [zX (.mv (zk 0))] .ret) .skip))))))) (zs 29 [zM 1,zX (.nilchk mK),zX (.fa 0 lR),zX (.ld mV),zM 2,zM 3,zF 140 [lF,mF,mE],zT 28 35,zX (.ext 0 lL),zX (.ext 1 lL),zT 9 36,zT 10 37] (zs 38 [zM 0,zM 1,zM 9,zF 102 [sU,rN,qT],zT 8 41] .ret))))
theorem bXl : iA4 E bGV R92 (aRp E) := λ σ h => by kernel_rfl
def D92 : DF := ⟨4, 42, bGV, R92⟩
def S92 : cD := fA4 (aRp E)
theorem bKw : SQ D92 S92 := λ E => eA4 (d := D92) (bXl E) rfl
def R93 : List RV := [(.r p8),(.r p9)]
def aRo (E : bN) (r0 r1 r2 r3 : DV) (h : H) : aV := dT r0 h λ x1 h2 => vK (cR r2 (ii 0)) λ x3 => bA x3 false (λ kk => kk r3 h2) h2 λ x4 h5 => bA x3 false (λ kk => vK (cR x4 (ii 0)) λ v => kk v h5) h5 λ x6 h7 => vK (aW x3 (.bool true) x6) λ x8 => bK x8 (some ((.tup [(.str []), (ii 1)]), h7)) (vK (aF 0 x1) λ x9 => vK (aG h7.get x9) λ x10 => vK (bZ 5 x10 r1) λ x11 => vK (aF 3 x11) λ x12 => vK (aG h7.get x12) λ x13 => vK (cA x13) λ x14 => vK (aAo r2 x14) λ x15 => vK (cA x13) λ x16 => vK (fB x16 x15) λ x17 => vK (aAo r3 x17) λ x18 => vK (bL x15 x18) λ x19 => vK (gV x13 (some x15) (some x19)) λ x20 => some ((.tup [x20, (ii 0)]), h7))
def bGU : DC := (zs 8 [zY 4 (.box o0),zX (.mv (.c (.str []))),zX (.mv (zk 0))] (zq (zs 11 [zM 2,zX (.bin .lss fY (zk 0)),zM 12,zL 13 false 3,zG 13 false (.bin .lss iP (zk 0)),zX (.pick gA (.c (.bool true)) jH)] (.cond hU (zs 8 [zX (.mv (.c (.str []))),zX (.mv (zk 1))] .ret) .skip)) (zs 17 [zX (.fa 0 o4),zX (.ld iI),zM 1,zX (.iaS 5 iD iO),zX (.fa 3 iS),zX (.ld hM),zT 10 22] (zs 23 [zM 2,zM 10,zX (.lenS iN),zX (.mn gW jY),zT 2 26] (zs 27 [zM 10,zM 2,zM 2,zM 3,zM 10,zX (.lenS mV),zM 2,zX (.bin .sub lF mF),zX (.mn lR mE),zX (.bin .add mK oW),zX (.slS lG (some lL) (some mD)),zT 8 37,zY 9 (.mv (zk 0))] .ret)))))
theorem bXk : iA4 E bGU R93 (aRo E) := λ σ h => by kernel_rfl
def D93 : DF := ⟨4, 38, bGU, R93⟩
def S93 : cD := fA4 (aRo E)
theorem bKv : SQ D93 S93 := λ E => eA4 (d := D93) (bXk E) rfl
def R94 : List RV := [(.r p6)]
def aRn (r0 r1 r2 : DV) (h : H) : aV := wK (aD E 95 [r0, r1] h) λ x1 h2 => vK (aH 0 x1) λ x3 => vK (aH 1 x1) λ x4 => dZ 2 2 (.list [.nilp, (.str [])]) h2 λ x5 h6 => wK (bR 2 x5 x3 h6) λ x7 h8 => vK (dC x4 (ii 0)) λ x9 => bK x9 (some (x4, h8)) (vK (aK 2 h8.get x5) λ x10 => wK (aD E 99 [x10] h8) λ x11 h12 => bK x11 (some ((ii 6), h12)) (wK (aD E 141 [r0] h12) λ x13 h14 => vK (bS x13 (ii 0)) λ x15 => bK x15 (some ((ii 5), h14)) (vK (aM r0) λ x16 => vK (aF 512 x16) λ x17 => vK (aG h14.get x17) λ x18 => vK (bL x18 (ii 1)) λ x19 => vK (aM r0) λ x20 => vK (aF 512 x20) λ x21 => wK (bR 1 x21 x19 h14) λ x22 h23 => vK (aM r0) λ x24 => vK (aF 512 x24) λ x25 => vK (aG h23.get x25) λ x26 => vK (eC [(ii 0), .nili] [(0, 1, x26), (1, 1, r2)]) λ x27 => vK (aM r0) λ x28 => vK (aF 0 x28) λ x29 => vK (lV 256 2 x29 x13) λ x30 => wK (bR 2 x30 x27 h23) λ x31 h32 => vK (aF 0 x5) λ x33 => vK (aG h32.get x33) λ x34 => vK (aF 1 x5) λ x35 => vK (aG h32.get x35) λ x36 => wK (aD E 100 [x34, x36, x13] h32) λ x37 h38 => some ((ii 0), h38))))
def bGT : DC := (zs 6 [zX (.mv (zk 0))] (zs 11 [zM 0,zM 1,zF 95 [fY,fV],zT 10 13,zX (.ext 0 fS),zX (.ext 1 fS),zY 7 (.alc 2 2 (.list [.nilp,(.str [])])),zW (.st 2 o7 iP),zT 8 15] (zq (zs 16 [zM 8,zX (.bin .neq hU (zk 0))] (.cond iI (zs 6 [zT 18 8,zM 18] .ret) .skip)) (zq (zs 19 [zX (.ldN 2 o7),zF 99 [iO]] (.cond iS (zs 6 [zX (.mv (zk 6))] .ret) .skip)) (zs 21 [zM 0,zF 141 [hM],zT 9 22] (zq (zs 23 [zM 9,zX (.bin .eql gW (zk 0))] (.cond iN (zs 6 [zX (.mv (zk 5))] .ret) .skip)) (zs 25 [zM 0,zX (.nilchk jY),zX (.fa 512 lM),zX (.ld lG),zX (.bin .add lL (zk 1)),zX (.nilchk jY),zX (.fa 512 lR),zW (.st 1 mV mK)] (zq (zd 32 [yA 0 (zM 0),yA 1 (zM 9),yA 2 (zM 0),yA 3 (zX (.nilchk mE)),yA 4 (zX (.fa 512 oW)),yA 5 (zX (.ld mD)),yA 6 (zM 2),yA 7 (zX (.bld [(.int .i64 (.ofNat 0)),.nili] [(0,1,oP),(1,1,sU)])),yA 8 (zX (.nilchk lF)),yA 9 (zX (.fa 0 qT)),yA 10 (zX (.iaA 256 2 uE mF)),yA 11 (zW (.st 2 uJ rN))]) (zs 43 [zX (.fa 0 o7),zX (.ld uD),zX (.fa 1 o7),zX (.ld xY),zM 9,zF 100 [rT,uL,xX]] (zs 6 [zX (.mv (zk 0))] .ret))))))))))
theorem bXj : iA3 E bGT R94 (aRn E) := λ σ h => by kernel_rfl
def D94 : DF := ⟨3, 49, bGT, R94⟩
def S94 : cD := fA3 (aRn E)
theorem bKu : SQ D94 S94 := λ E => eA3 (d := D94) (bXj E) rfl
def R95 : List RV := [(.cells p4 2),(.r p5)]
def aRm (r0 r1 : DV) (h : H) : aV := dZ 2 2 (.list [.nilp, (.str [])]) h λ x1 h2 => vK (dX .ptr false h2.get r0 .nilp) λ x3 => bK x3 (vK (eC [.nilp, (.str [])] []) λ x4 => wK (bR 2 x1 x4 h2) λ x5 h6 => vK (aK 2 h6.get x1) λ x7 => some ((.tup [x7, (ii 1)]), h6)) (wK (aD E 137 [r1] h2) λ x8 h9 => vK (aH 0 x8) λ x10 => vK (aH 1 x8) λ x11 => vK (dC x11 (ii 0)) λ x12 => bA x12 false (λ kk => kk x10 h9) h9 λ x13 h14 => bA x12 false (λ kk => vK (cB x13) λ v => kk v h14) h14 λ x15 h16 => bA x12 false (λ kk => vK (bS x15 (ii 0)) λ v => kk v h16) h16 λ x17 h18 => vK (aW x12 (.bool true) x17) λ x19 => bK x19 (vK (eC [.nilp, (.str [])] []) λ x20 => wK (bR 2 x1 x20 h18) λ x21 h22 => vK (aK 2 h22.get x1) λ x23 => some ((.tup [x23, (ii 15)]), h22)) (vK (cB x10) λ x24 => vK (fB x24 (ii 1)) λ x25 => vK (dM 1 x10 none (some x25)) λ x26 => wK (aD E 138 [r0, x26] h18) λ x27 h28 => vK (aH 0 x27) λ x29 => vK (aH 1 x27) λ x30 => vK (dC x30 (ii 0)) λ x31 => bK x31 (vK (eC [.nilp, (.str [])] []) λ x32 => wK (bR 2 x1 x32 h28) λ x33 h34 => vK (aK 2 h34.get x1) λ x35 => some ((.tup [x35, x30]), h34)) (wK (aD E 87 [r0, x29] h28) λ x36 h37 => vK (dX .ptr false h37.get x36 .nilp) λ x38 => bK x38 (vK (eC [.nilp, (.str [])] []) λ x39 => wK (bR 2 x1 x39 h37) λ x40 h41 => vK (aK 2 h41.get x1) λ x42 => some ((.tup [x42, (ii 13)]), h41)) (vK (bZ 1 x10 x25) λ x43 => vK (aG h37.get x43) λ x44 => vK (eC [.nilp, (.str [])] [(0, 1, x36), (1, 1, x44)]) λ x45 => wK (bR 2 x1 x45 h37) λ x46 h47 => vK (aK 2 h47.get x1) λ x48 => some ((.tup [x48, (ii 0)]), h47)))))
def bGS : DC := (zs 4 [zX (.alc 2 2 (.list [.nilp,(.str [])])),zX (.mv (zk 0))] (zq (zs 11 [zM 0,zX (.eqv .ptr false fY (.c .nilp))] (.cond fV (zs 5 [zY 13 (.bld [.nilp,(.str [])] []),zW (.st 2 o4 gA),zX (.mv (zk 1))] .ret) .skip)) (zs 15 [zM 1,zF 137 [jH],zT 14 16,zX (.ext 0 iP),zX (.ext 1 iP),zT 6 17,zT 7 18] (zq (zs 19 [zM 7,zX (.bin .neq iO (zk 0)),zM 20,zL 21 false 6,zG 21 false (.lenL iX),zG 21 false (.bin .eql gW (zk 0)),zX (.pick hM (.c (.bool true)) iN)] (.cond jY (zs 5 [zY 26 (.bld [.nilp,(.str [])] []),zW (.st 2 o4 lM),zX (.mv (zk 15))] .ret) .skip)) (zs 27 [zM 6,zX (.lenL lG),zX (.bin .sub lL (zk 1)),zT 8 29] (zs 31 [zM 0,zM 6,zM 8,zX (.slL 1 lF none (some mF)),zF 138 [mV,mE],zT 30 35,zX (.ext 0 lR),zX (.ext 1 lR),zT 9 36,zT 7 37] (zq (zs 38 [zM 7,zX (.bin .neq sU (zk 0))] (.cond rN (zs 40 [zX (.bld [.nilp,(.str [])] []),zM 7,zW (.st 2 o4 qT),zT 5 41] .ret) .skip)) (zs 42 [zM 0,zM 9,zF 87 [uJ,uD],zT 10 44] (zq (zs 45 [zM 10,zX (.eqv .ptr false xY (.c .nilp))] (.cond uL (zs 5 [zY 47 (.bld [.nilp,(.str [])] []),zW (.st 2 o4 xX),zX (.mv (zk 13))] .ret) .skip)) (zs 48 [zM 10,zM 6,zM 8,zX (.iaS 1 o49 o50),zX (.ld o51),zX (.bld [.nilp,(.str [])] [(0,1,o48),(1,1,o52)]),zW (.st 2 o4 o53),zY 5 (.mv (zk 0))] .ret))))))))))
theorem bXi : mW E bGS R95 (aRm E) := λ σ h => by kernel_rfl
def D95 : DF := ⟨2, 54, bGS, R95⟩
def S95 : cD := mX (aRm E)
theorem bKt : SQ D95 S95 := λ E => nF (d := D95) (bXi E) rfl
def R96 : List RV := [(.r p4),(.r p5)]
def aRl (r0 r1 : DV) (h : H) : aV := vK (dX .ptr false h.get r0 .nilp) λ x1 => bK x1 (some ((.tup [(ii 0), (ii 1)]), h)) (wK (aD E 142 [r0, r1] h) λ x2 h3 => vK (aH 0 x2) λ x4 => vK (aH 1 x2) λ x5 => vK (kE x5) λ x6 => bK x6 (some ((.tup [(ii 0), (ii 7)]), h3)) (vK (aM r0) λ x7 => vK (aF 0 x7) λ x8 => vK (aG h3.get x8) λ x9 => vK (bZ 2 x9 x4) λ x10 => vK (aF 1 x10) λ x11 => vK (aG h3.get x11) λ x12 => vK (aM r0) λ x13 => vK (aF 0 x13) λ x14 => vK (aG h3.get x14) λ x15 => vK (bL x4 (ii 1)) λ x16 => wK (aD E 143 [x15, x4, x16] h3) λ x17 h18 => vK (aM r0) λ x19 => vK (aF 0 x19) λ x20 => wK (bR 1 x20 x17 h18) λ x21 h22 => some ((.tup [x12, (ii 0)]), h22)))
def bGR : DC := (zs 4 [zX (.mv (zk 0)),zX (.mv (zk 0))] (zq (zs 9 [zM 0,zX (.eqv .ptr false o9 (.c .nilp))] (.cond fS (zs 4 [zX (.mv (zk 0)),zX (.mv (zk 1))] .ret) .skip)) (zs 12 [zM 0,zM 1,zF 142 [fV,gA],zT 11 14,zX (.ext 0 fY),zX (.ext 1 fY),zT 6 15,zT 7 16] (zq (zs 17 [zM 7,zX (.not iI)] (.cond iD (zs 4 [zX (.mv (zk 0)),zX (.mv (zk 7))] .ret) .skip)) (zs 19 [zM 0,zX (.nilchk iO),zX (.fa 0 iS),zX (.ld hM),zM 6,zX (.iaS 2 iX gW),zX (.fa 1 iN),zX (.ld jY),zT 8 26] (zs 27 [zM 0,zM 0,zX (.nilchk lL),zX (.fa 0 mK),zX (.ld lR),zM 6,zM 6,zX (.bin .add mF (zk 1)),zF 143 [mV,lF,mE],zX (.nilchk lG),zX (.fa 0 mD),zW (.st 1 oP oW)] (zs 4 [zT 38 8,zM 38,zX (.mv (zk 0))] .ret)))))))
theorem bXh : mW E bGR R96 (aRl E) := λ σ h => by kernel_rfl
def D96 : DF := ⟨2, 39, bGR, R96⟩
def S96 : cD := mX (aRl E)
theorem bKs : SQ D96 S96 := λ E => nF (d := D96) (bXh E) rfl
def R97 : List RV := [(.r p2)]
def aRk (E : bN) (r0 : DV) (h : H) : aV := vK (dX .ptr false h.get r0 .nilp) λ x1 => bK x1 (some ((ii 0), h)) (vK (aM r0) λ x2 => vK (aF 0 x2) λ x3 => vK (aG h.get x3) λ x4 => vK (cB x4) λ x5 => some (x5, h))
def bGQ : DC := (zs 2 [zX (.mv (zk 0))] (zq (zs 3 [zM 0,zX (.eqv .ptr false o3 (.c .nilp))] (.cond o4 (zs 2 [zX (.mv (zk 0))] .ret) .skip)) (zs 5 [zM 0,zX (.nilchk o5),zX (.fa 0 o6),zX (.ld o7),zX (.lenL o8),zT 2 9] .ret)))
theorem bXg : oA E bGQ R97 (aRk E) := λ σ h => by kernel_rfl
def D97 : DF := ⟨1, 10, bGQ, R97⟩
def S97 : cD := oD (aRk E)
theorem bKr : SQ D97 S97 := λ E => oI (d := D97) (bXg E) rfl
def R98 : List RV := [(.r p4)]
def aRj (r0 r1 : DV) (h : H) : aV := wK (aD E 137 [r0] h) λ x1 h2 => vK (aH 0 x1) λ x3 => vK (aH 1 x1) λ x4 => wK (aD E 137 [r1] h2) λ x5 h6 => vK (aH 0 x5) λ x7 => vK (aH 1 x5) λ x8 => vK (bS x4 (ii 0)) λ x9 => bA x9 true (λ kk => kk x8 h6) h6 λ x10 h11 => bA x9 true (λ kk => vK (bS x10 (ii 0)) λ v => kk v h11) h11 λ x12 h13 => vK (aW x9 x12 (.bool false)) λ x14 => bA x14 true (λ kk => kk x7 h13) h13 λ x15 h16 => bA x14 true (λ kk => vK (cB x15) λ v => kk v h16) h16 λ x17 h18 => bA x14 true (λ kk => kk x3 h18) h18 λ x19 h20 => bA x14 true (λ kk => vK (cB x19) λ v => kk v h20) h20 λ x21 h22 => bA x14 true (λ kk => vK (eJ x17 x21) λ v => kk v h22) h22 λ x23 h24 => vK (aW x14 x23 (.bool false)) λ x25 => bA x25 true (λ kk => kk x3 h24) h24 λ x26 h27 => bA x25 true (λ kk => kk x7 h27) h27 λ x28 h29 => bA x25 true (λ kk => kk x3 h29) h29 λ x30 h31 => bA x25 true (λ kk => vK (cB x30) λ v => kk v h31) h31 λ x32 h33 => bA x25 true (λ kk => vK (dM 1 x28 none (some x32)) λ v => kk v h33) h33 λ x34 h35 => bA x25 true (λ kk => wK (aD E 144 [x26, x34] h35) kk) h35 λ x36 h37 => vK (aW x25 x36 (.bool false)) λ x38 => some (x38, h37)
def bGP : DC := (zs 4 [zX (.mv (.c (.bool false)))] (zs 10 [zM 0,zF 137 [fS],zT 9 11,zX (.ext 0 o9),zX (.ext 1 o9),zT 5 12,zT 6 13] (zs 15 [zM 1,zF 137 [jH],zT 14 16,zX (.ext 0 iP),zX (.ext 1 iP),zT 7 17,zT 8 18] (zs 19 [zM 6,zX (.bin .eql iO (zk 0)),zM 20,zL 21 true 8,zG 21 true (.bin .eql iX (zk 0)),zX (.pick hM gW (.c (.bool false))),zM 24,zL 25 true 7,zG 25 true (.lenL lM),zL 25 true 5,zG 25 true (.lenL lL),zG 25 true (.bin .gtr lG mK),zX (.pick jY lR (.c (.bool false))),zM 31,zL 32 true 5,zL 32 true 7,zL 32 true 5,zG 32 true (.lenL oW),zG 32 true (.slL 1 mE none (some mD)),zD ⟨(some p38),(some (p32,true)),(.c (.f 144 [mF,oP]))⟩,zY 39 (.pick lF sU (.c (.bool false))),zT 4 39] .ret))))
theorem bXf : mW E bGP R98 (aRj E) := λ σ h => by kernel_rfl
def D98 : DF := ⟨2, 40, bGP, R98⟩
def S98 : cD := mX (aRj E)
theorem bKq : SQ D98 S98 := λ E => nF (d := D98) (bXf E) rfl
def R99 : List RV := [(.r p2)]
def aRi (r0 : DV) (h : H) : aV := dT r0 h λ x1 h2 => vK (aF 0 x1) λ x3 => vK (aG h2.get x3) λ x4 => vK (aF 1 x1) λ x5 => vK (aG h2.get x5) λ x6 => wK (aD E 145 [x4, x6] h2) λ x7 h8 => vK (aH 0 x7) λ x9 => vK (aH 1 x7) λ x10 => vK (bS x10 (ii 0)) λ x11 => some (x11, h8)
def bGO : DC := (zs 1 [zX (.box o0),zX (.mv (.c (.bool false)))] (zs 6 [zX (.fa 0 o1),zX (.ld o6),zX (.fa 1 o1),zX (.ld o8),zF 145 [o7,o9],zT 5 10,zX (.ext 0 o5),zX (.ext 1 o5),zT 3 11,zT 4 12] (zs 13 [zM 4,zX (.bin .eql gA (zk 0)),zT 2 14] .ret)))
theorem bXe : oA E bGO R99 (aRi E) := λ σ h => by kernel_rfl
def D99 : DF := ⟨1, 15, bGO, R99⟩
def S99 : cD := oD (aRi E)
theorem bKp : SQ D99 S99 := λ E => oI (d := D99) (bXe E) rfl
def R100 : List RV := [(.r p6)]
def aKz (r0 r1 r2 : DV) (h : H) : aV := vK (dX .ptr false h.get r0 .nilp) λ x1 => bA x1 false (λ kk => kk r2 h) h λ x2 h3 => bA x1 false (λ kk => vK (cR x2 (ii 1)) λ v => kk v h3) h3 λ x4 h5 => vK (aW x1 (.bool true) x4) λ x6 => bA x6 false (λ kk => kk r2 h5) h5 λ x7 h8 => bA x6 false (λ kk => vK (nS x7 (ii 256)) λ v => kk v h8) h8 λ x9 h10 => vK (aW x6 (.bool true) x9) λ x11 => bK x11 (some ((ii 1), h10)) (wK (aD E 146 [r1] h10) λ x12 h13 => vK (kE x12) λ x14 => bK x14 (some ((ii 15), h13)) (wK (aD E 142 [r0, r1] h13) λ x15 h16 => vK (aH 0 x15) λ x17 => vK (aH 1 x15) λ x18 => bK x18 (some ((ii 6), h16)) (vK (aM r0) λ x19 => vK (aF 0 x19) λ x20 => vK (aG h16.get x20) λ x21 => vK (eC [(.str []), (ii 0)] [(0, 1, r1), (1, 1, r2)]) λ x22 => gI 1 2 [(.str []), (ii 0)] [(0, 2, x22)] h16 λ x23 h24 => wK (aD E 147 [x21, x17, x23] h24) λ x25 h26 => vK (aM r0) λ x27 => vK (aF 0 x27) λ x28 => wK (bR 1 x28 x25 h26) λ x29 h30 => some ((ii 0), h30))))
def bBD : DC := (zs 6 [zX (.mv (zk 0))] (zq (.block 0 (zs 10 [zM 0,zX (.eqv .ptr false fS (.c .nilp)),zM 11,zL 12 false 2,zG 12 false (.bin .lss gA (zk 1)),zX (.pick fV (.c (.bool true)) iP),zM 15,zL 16 false 2,zG 16 false (.bin .geq iI (zk 256)),zX (.pick hU (.c (.bool true)) iD),zT 9 19] (.cond o9 (zs 6 [zX (.mv (zk 1))] .ret) (zs 21 [zM 1,zF 146 [hM],zX (.not iX),zT 20 23] (.cond iS (zs 6 [zX (.mv (zk 15))] .ret) .skip))))) (zs 25 [zM 0,zM 1,zF 142 [jY,lM],zT 24 27,zX (.ext 0 iN),zX (.ext 1 iN),zT 7 28,zT 8 29] (zq (zs 30 [zM 8] (.cond lR (zs 6 [zX (.mv (zk 6))] .ret) .skip)) (zs 31 [zM 0,zM 0,zX (.nilchk lF),zX (.fa 0 mF),zX (.ld mE),zM 7,zM 1,zM 2,zX (.bld [(.str []),(.int .i64 (.ofNat 0))] [(0,1,oP),(1,1,sU)]),zX (.bsl 1 2 [(.str []),(.int .i64 (.ofNat 0))] [(0,2,rN)]),zF 147 [oW,mD,qT],zX (.nilchk mV),zX (.fa 0 uJ),zW (.st 1 uD uE)] (zs 6 [zX (.mv (zk 0))] .ret))))))
theorem bPO : iA3 E bBD R100 (aKz E) := λ σ h => by kernel_rfl
def bRD : DF := ⟨3, 44, bBD, R100⟩
def aXl : cD := fA3 (aKz E)
theorem bFf : SQ bRD aXl := λ E => eA3 (d := bRD) (bPO E) rfl
def R101 : List RV := [(.r p4),(.r p5)]
def aCD (r0 r1 : DV) (h : H) : aV := vK (cR r1 (ii 0)) λ x1 => bA x1 false (λ kk => kk r1 h) h λ x2 h3 => bA x1 false (λ kk => vK (eJ x2 (ii 65536)) λ v => kk v h3) h3 λ x4 h5 => vK (aW x1 (.bool true) x4) λ x6 => bK x6 (some ((.tup [(.str []), (ii 1)]), h5)) (vK (cA r0) λ x7 => vK (eJ x7 r1) λ x8 => bK x8 (some ((.tup [(.str []), (ii 2)]), h5)) (vK (cA r0) λ x9 => vK (fB r1 x9) λ x10 => wK (aD E 148 [x10] h5) λ x11 h12 => vK (bL r0 x11) λ x13 => some ((.tup [x13, (ii 0)]), h12)))
def bBC : DC := (zs 4 [zX (.mv (.c (.str []))),zX (.mv (zk 0))] (zq (.block 0 (zs 7 [zM 1,zX (.bin .lss o7 (zk 0)),zM 8,zL 9 false 1,zG 9 false (.bin .gtr fS (zk 65536)),zX (.pick o9 (.c (.bool true)) fY),zT 6 12] (.cond o6 (zs 4 [zX (.mv (.c (.str []))),zX (.mv (zk 1))] .ret) (zs 14 [zM 0,zX (.lenS iP),zM 1,zX (.bin .gtr jH hU),zT 13 17] (.cond gA (zs 4 [zX (.mv (.c (.str []))),zX (.mv (zk 2))] .ret) .skip))))) (zs 18 [zM 0,zM 1,zM 0,zX (.lenS iS),zX (.bin .sub iO hM),zF 148 [iX],zX (.bin .add iD gW),zT 4 24,zY 5 (.mv (zk 0))] .ret)))
theorem bPN : mW E bBC R101 (aCD E) := λ σ h => by kernel_rfl
def bRC : DF := ⟨2, 25, bBC, R101⟩
def aTQ : cD := mX (aCD E)
theorem bFe : SQ bRC aTQ := λ E => nF (d := bRC) (bPN E) rfl
def R102 : List RV := [(.r p6)]
def aKy (E : bN) (r0 r1 r2 : DV) (h : H) : aV := vK (aM r0) λ x1 => vK (aF 513 x1) λ x2 => vK (aG h.get x2) λ x3 => vK (aM r1) λ x4 => vK (aF 0 x4) λ x5 => vK (aG h.get x5) λ x6 => vK (cA x6) λ x7 => vK (fB x3 x7) λ x8 => vK (cA r2) λ x9 => vK (bL x8 x9) λ x10 => vK (eJ x10 (ii 65536)) λ x11 => bK x11 (some ((ii 5), h)) (vK (aM r0) λ x12 => vK (aF 513 x12) λ x13 => vK (aG h.get x13) λ x14 => vK (cA r2) λ x15 => vK (aM r1) λ x16 => vK (aF 0 x16) λ x17 => vK (aG h.get x17) λ x18 => vK (cA x18) λ x19 => vK (fB x15 x19) λ x20 => vK (bL x14 x20) λ x21 => vK (aM r0) λ x22 => vK (aF 513 x22) λ x23 => wK (bR 1 x23 x21 h) λ x24 h25 => vK (aM r1) λ x26 => vK (aF 0 x26) λ x27 => wK (bR 1 x27 r2 h25) λ x28 h29 => some ((ii 0), h29))
def bBB : DC := (zs 6 [zX (.mv (zk 0))] (zq (zq (zd 7 [yA 0 (zM 0),yA 1 (zX (.nilchk o7)),yA 2 (zX (.fa 513 o8)),yA 3 (zX (.ld o9)),yA 4 (zM 1),yA 5 (zX (.nilchk fY)),yA 6 (zX (.fa 0 fV)),yA 7 (zX (.ld gA)),yA 8 (zX (.lenS iP)),yA 9 (zX (.bin .sub fS jH)),yA 10 (zM 2),yA 11 (zX (.lenS iI)),yA 12 (zX (.bin .add hU iD)),yA 13 (zX (.bin .gtr iO (zk 65536)))]) (.cond iS (zs 6 [zX (.mv (zk 5))] .ret) .skip)) (zq (zd 21 [yA 0 (zM 0),yA 1 (zX (.nilchk hM)),yA 2 (zX (.fa 513 iX)),yA 3 (zX (.ld gW)),yA 4 (zM 2),yA 5 (zX (.lenS jY)),yA 6 (zM 1),yA 7 (zX (.nilchk lG)),yA 8 (zX (.fa 0 lL)),yA 9 (zX (.ld mK)),yA 10 (zX (.lenS lR)),yA 11 (zX (.bin .sub lM mV)),yA 12 (zX (.bin .add iN lF)),yA 13 (zX (.nilchk hM)),yA 14 (zX (.fa 513 mE)),yA 15 (zW (.st 1 oW mF))]) (zs 36 [zM 1,zM 2,zX (.nilchk mD),zX (.fa 0 sU),zW (.st 1 rN oP)] (zs 6 [zX (.mv (zk 0))] .ret)))))
theorem bPM : iA3 E bBB R102 (aKy E) := λ σ h => by kernel_rfl
def bRB : DF := ⟨3, 40, bBB, R102⟩
def aXk : cD := fA3 (aKy E)
theorem bFd : SQ bRB aXk := λ E => eA3 (d := bRB) (bPM E) rfl
def R103 : List RV := []
def aKx (r0 r1 : DV) (h : H) : aV := vK (dX .ptr false h.get r0 .nilp) λ x1 => bA x1 false (λ kk => kk r0 h) h λ x2 h3 => bA x1 false (λ kk => vK (aM x2) λ v => kk v h3) h3 λ x4 h5 => bA x1 false (λ kk => vK (aF 2 x4) λ v => kk v h5) h5 λ x6 h7 => bA x1 false (λ kk => vK (aG h7.get x6) λ v => kk v h7) h7 λ x8 h9 => bA x1 false (λ kk => vK (dC x8 (ii 0)) λ v => kk v h9) h9 λ x10 h11 => vK (aW x1 (.bool true) x10) λ x12 => bK x12 (some ((.tup []), h11)) (vK (aM r0) λ x13 => vK (aF 1 x13) λ x14 => vK (aG h11.get x14) λ x15 => vK (aM r0) λ x16 => vK (aF 1 x16) λ x17 => vK (aG h11.get x17) λ x18 => vK (cB x18) λ x19 => vK (aM r0) λ x20 => vK (aF 1 x20) λ x21 => vK (aG h11.get x21) λ x22 => vK (cB x22) λ x23 => vK (yD 1 x15 none x19 x23) λ x24 => wK (oQ E r1 [x24] h11) λ x25 h26 => vK (cB x25) λ x27 => vK (aM r0) λ x28 => vK (aF 0 x28) λ x29 => vK (aG h26.get x29) λ x30 => vK (eJ x27 x30) λ x31 => bK x31 (vK (aM r0) λ x32 => vK (aF 2 x32) λ x33 => wK (bR 1 x33 (ii 2) h26) λ x34 h35 => some ((.tup []), h35)) (vK (aM r0) λ x36 => vK (aF 1 x36) λ x37 => wK (bR 1 x37 x25 h26) λ x38 h39 => some ((.tup []), h39)))
def bBA : DC := (zq (zs 5 [zM 0,zX (.eqv .ptr false o5 (.c .nilp)),zM 6,zL 7 false 0,zG 7 false (.nilchk o8),zG 7 false (.fa 2 o9),zG 7 false (.ld fS),zG 7 false (.bin .neq fY (zk 0)),zX (.pick o7 (.c (.bool true)) fV)] (.cond gA .ret .skip)) (zq (zd 14 [yA 0 (zM 1),yA 1 (zM 0),yA 2 (zX (.nilchk jH)),yA 3 (zX (.fa 1 hU)),yA 4 (zX (.ld iI)),yA 5 (zM 0),yA 6 (zX (.nilchk iO)),yA 7 (zX (.fa 1 iS)),yA 8 (zX (.ld hM)),yA 9 (zX (.lenL iX)),yA 10 (zM 0),yA 11 (zX (.nilchk iN)),yA 12 (zX (.fa 1 jY)),yA 13 (zX (.ld lM)),yA 14 (zX (.lenL lG)),yA 15 (zX (.slM 1 iD none gW lL)),yA 16 (zD ⟨(some p30),none,(.c (.v iP [mK]))⟩),yA 17 (zT 4 30)]) (zq (zs 31 [zM 4,zX (.lenL mV),zM 0,zX (.nilchk mF),zX (.fa 0 mE),zX (.ld oW),zX (.bin .gtr lF mD)] (.cond oP (zs 38 [zM 0,zX (.nilchk sU),zX (.fa 2 rN),zW (.st 1 qT (zk 2))] .ret) .skip)) (zr 41 [zM 0,zM 4,zX (.nilchk uE),zX (.fa 1 uD),zW (.st 1 rT uJ)]))))
theorem bPL : mW E bBA R103 (aKx E) := λ σ h => by kernel_rfl
def bRA : DF := ⟨2, 45, bBA, R103⟩
def aPc : cD := mX (aKx E)
theorem bFc : SQ bRA aPc := λ E => nF (d := bRA) (bPL E) rfl
def R104 : List RV := [(.r p3)]
def aKw (E : bN) (r0 r1 : DV) (h : H) : aV := vK (aG h.get r1) λ x1 => vK (fE .u8 x1) λ x2 => gI 1 1 [(.int .u8 (.ofNat 0))] [(0, 1, x2)] h λ x3 h4 => wK (cE 1 1 r0 x3 h4) λ x5 h6 => some (x5, h6)
def bBz : DC := (zs 3 [zX (.mv (.c .nils))] (zs 4 [zM 0,zX (.ld o1),zX (.conv .u8 o5),zX (.bsl 1 1 [(.int .u8 (.ofNat 0))] [(0,1,o6)]),zD ⟨(some p8),none,(.w (.app 1 1 o4 o7))⟩,zT 3 8] .ret))
theorem bPK : mW E bBz R104 (aKw E) := λ σ h => by kernel_rfl
def bRz : DF := ⟨2, 9, bBz, R104⟩
def bFb : cD := mX (aKw E)
theorem bFa : SQ bRz bFb := λ E => nF (d := bRz) (bPK E) rfl
def R105 : List RV := [(.r p3)]
def aKv (r0 r1 : DV) (h : H) : aV := vK (aG h.get r1) λ x1 => wK (aD E 106 [r0, x1] h) λ x2 h3 => some (x2, h3)
def bBy : DC := (zs 3 [zX (.mv (.c .nils))] (zs 4 [zM 0,zX (.ld o1),zF 106 [o4,o5],zT 3 6] .ret))
theorem bPJ : mW E bBy R105 (aKv E) := λ σ h => by kernel_rfl
def bRy : DF := ⟨2, 7, bBy, R105⟩
def bEZ : cD := mX (aKv E)
theorem bEY : SQ bRy bEZ := λ E => nF (d := bRy) (bPJ E) rfl
def bFD : List RV := [(.r p4)]
def aFE (E : bN) (r0 r5 : DV) (h : H) : aV := vK (fE .u8 r5) λ x1 => gI 1 1 [(.int .u8 (.ofNat 0))] [(0, 1, x1)] h λ x2 h3 => wK (cE 1 1 r0 x2 h3) λ x4 h5 => some (x4, h5)
def bBw : DC := (zs 23 [zM 0,zM 5,zX (.conv .u8 iN),zX (.bsl 1 1 [(.int .u8 (.ofNat 0))] [(0,1,jY)]),zD ⟨(some p27),none,(.w (.app 1 1 gW lM))⟩,zT 4 27] .ret)
def aGc (i2 : DV → DV → H → aV) (r0 r5 : DV) (h : H) : aV := vK (nS r5 (.int .u64 (.ofNat 128))) λ x1 => bK x1 (vK (fE .u8 r5) λ x2 => vK (aSz x2 (.int .u8 (.ofNat 128))) λ x3 => gI 1 1 [(.int .u8 (.ofNat 0))] [(0, 1, x3)] h λ x4 h5 => wK (cE 1 1 r0 x4 h5) λ x6 h7 => vK (yE r5 (.int .u64 (.ofNat 7))) λ x8 => i2 x6 x8 h7) (aFE E r0 r5 h)
def aCz (n : Nat) : DV → DV → H → aV := Nat.rec (motive := λ _ => DV → DV → H → aV) (λ _ _ _ => none) (λ _ i => aGc E i) n
def bBv : DC := (.loop (zq (zs 13 [zM 5,zX (.bin .geq gA (.c (.int .u64 (.ofNat 128))))] (.cond iP .skip (.exit 0))) (zq (.block 1 (zr 17 [zM 0,zM 5,zX (.conv .u8 iD),zX (.bin .or iO (.c (.int .u8 (.ofNat 128)))),zX (.bsl 1 1 [(.int .u8 (.ofNat 0))] [(0,1,iS)]),zD ⟨(some p22),none,(.w (.app 1 1 iI hM))⟩,zT 0 22])) (zr 15 [zM 5,zX (.bin .shr jH (.c (.int .u64 (.ofNat 7)))),zT 5 16]))))
def aKu (r0 r1 : DV) (h : H) : aV := vK (fE .u64 r1) λ x1 => vK (aDZ x1 (.int .u64 (.ofNat 1))) λ x2 => vK (yE r1 (.int .u64 (.ofNat 63))) λ x3 => vK (fE .u64 x3) λ x4 => vK (aDX x2 x4) λ x5 => aCz E aT r0 x5 h
def bBx : DC := (zs 4 [zX (.mv (.c .nils))] (zs 6 [zM 1,zX (.conv .u64 o6),zX (.bin .shl o7 (.c (.int .u64 (.ofNat 1)))),zM 1,zX (.bin .shr o9 (.c (.int .u64 (.ofNat 63)))),zX (.conv .u64 fS),zX (.bin .xor o8 fY),zT 5 12] (zq (.block 0 bBv) bBw)))
theorem bPH : Is E bBw (bO bFD) (λ σ h => aFE E (σ p0) (σ p5) h) := λ σ h => by kernel_rfl
abbrev bMF : gT (DV × H) := (cG (λ σ h => aFE E (σ p0) (σ p5) h) (bO bFD))
theorem bPG : Is E bBv (bM 0 (bMF E)) (λ σ h => aCz E aT (σ p0) (σ p5) h) := Is.loop (λ n2 σ h => aCz E n2 (σ p0) (σ p5) h) (by kernel_rfl) λ n2 => Is.as (Is.leaf _) λ σ h => by kernel_rfl
theorem bPI : mW E bBx bFD (aKu E) := Is.as (Is.seq (Is.seq (Is.seq (bPH E) (Is.block (bPG E))) (Is.leaf _)) (Is.leaf _)) λ σ h => by kernel_rfl
def bRx : DF := ⟨2, 28, bBx, bFD⟩
def aXj : cD := mX (aKu E)
theorem bEX : SQ bRx aXj := λ E => nF (d := bRx) (bPI E) rfl
def R107 : List RV := [(.r p3)]
def aKt (r0 r1 : DV) (h : H) : aV := vK (aG h.get r1) λ x1 => wK (aD E 108 [r0, x1] h) λ x2 h3 => some (x2, h3)
def bBu : DC := (zs 3 [zX (.mv (.c .nils))] (zs 4 [zM 0,zX (.ld o1),zF 108 [o4,o5],zT 3 6] .ret))
theorem bPF : mW E bBu R107 (aKt E) := λ σ h => by kernel_rfl
def bRw : DF := ⟨2, 7, bBu, R107⟩
def bEW : cD := mX (aKt E)
theorem bEV : SQ bRw bEW := λ E => nF (d := bRw) (bPF E) rfl
def R108 : List RV := [(.r p4)]
def aKs (r0 r1 : DV) (h : H) : aV := vK (cA r1) λ x1 => wK (aD E 106 [r0, x1] h) λ x2 h3 => wK (cE 1 1 x2 r1 h3) λ x4 h5 => some (x4, h5)
def bBt : DC := (zs 4 [zX (.mv (.c .nils))] (zs 5 [zM 0,zM 1,zX (.lenS o6),zF 106 [o5,o7],zM 1,zD ⟨(some p10),none,(.w (.app 1 1 o8 o9))⟩,zT 4 10] .ret))
theorem bPE : mW E bBt R108 (aKs E) := λ σ h => by kernel_rfl
def bRv : DF := ⟨2, 11, bBt, R108⟩
def aXi : cD := mX (aKs E)
theorem bEU : SQ bRv aXi := λ E => nF (d := bRv) (bPE E) rfl
def R109 : List RV := [(.r p4),(.r p5)]
def aYo (r0 r1 : DV) (h : H) : aV := vK (dX .ptr false h.get r0 .nilp) λ x1 => bA x1 false (λ kk => kk r0 h) h λ x2 h3 => bA x1 false (λ kk => vK (aM x2) λ v => kk v h3) h3 λ x4 h5 => bA x1 false (λ kk => vK (aF 1 x4) λ v => kk v h5) h5 λ x6 h7 => bA x1 false (λ kk => vK (aG h7.get x6) λ v => kk v h7) h7 λ x8 h9 => vK (aW x1 (.bool true) x8) λ x10 => bA x10 false (λ kk => kk r1 h9) h9 λ x11 h12 => bA x10 false (λ kk => vK (cR x11 (ii 0)) λ v => kk v h12) h12 λ x13 h14 => vK (aW x10 (.bool true) x13) λ x15 => bA x15 false (λ kk => kk r1 h14) h14 λ x16 h17 => bA x15 false (λ kk => kk r0 h17) h17 λ x18 h19 => bA x15 false (λ kk => vK (aM x18) λ v => kk v h19) h19 λ x20 h21 => bA x15 false (λ kk => vK (aF 0 x20) λ v => kk v h21) h21 λ x22 h23 => bA x15 false (λ kk => vK (aG h23.get x22) λ v => kk v h23) h23 λ x24 h25 => bA x15 false (λ kk => vK (cA x24) λ v => kk v h25) h25 λ x26 h27 => bA x15 false (λ kk => vK (eJ x16 x26) λ v => kk v h27) h27 λ x28 h29 => vK (aW x15 (.bool true) x28) λ x30 => bK x30 (wK (aD E 111 [r0] h29) λ x31 h32 => some ((.tup [(.str []), (.bool false)]), h32)) (vK (aM r0) λ x33 => vK (aF 0 x33) λ x34 => vK (aG h29.get x34) λ x35 => vK (gV x35 none (some r1)) λ x36 => vK (aM r0) λ x37 => vK (aF 0 x37) λ x38 => vK (aG h29.get x38) λ x39 => vK (gV x39 (some r1) none) λ x40 => vK (aM r0) λ x41 => vK (aF 0 x41) λ x42 => wK (bR 1 x42 x40 h29) λ x43 h44 => some ((.tup [x36, (.bool true)]), h44))
def bBs : DC := (zs 4 [zX (.mv (.c (.str []))),zX (.mv (.c (.bool false)))] (zq (zs 7 [zM 0,zX (.eqv .ptr false o7 (.c .nilp)),zM 8,zL 9 false 0,zG 9 false (.nilchk fS),zG 9 false (.fa 1 fY),zG 9 false (.ld fV),zX (.pick o9 (.c (.bool true)) gA),zM 14,zL 15 false 1,zG 15 false (.bin .lss hU (zk 0)),zX (.pick jH (.c (.bool true)) iI),zM 18,zL 19 false 1,zL 19 false 0,zG 19 false (.nilchk hM),zG 19 false (.fa 0 iX),zG 19 false (.ld gW),zG 19 false (.lenS iN),zG 19 false (.bin .gtr iS jY),zX (.pick iO (.c (.bool true)) lM)] (.cond lG (zs 28 [zM 0,zF 111 [lL]] (zs 4 [zX (.mv (.c (.str []))),zX (.mv (.c (.bool false)))] .ret)) .skip)) (zs 30 [zM 0,zX (.nilchk lR),zX (.fa 0 mV),zX (.ld lF),zM 1,zX (.slS mF none (some mE)),zT 6 35] (zs 36 [zM 0,zM 0,zX (.nilchk oP),zX (.fa 0 sU),zX (.ld rN),zM 1,zX (.slS qT (some uE) none),zX (.nilchk mD),zX (.fa 0 uD),zW (.st 1 rT uJ)] (zs 4 [zT 45 6,zM 45,zX (.mv (.c (.bool true)))] .ret)))))
theorem bPD : mW E bBs R109 (aYo E) := λ σ h => by kernel_rfl
def bRu : DF := ⟨2, 46, bBs, R109⟩
def bLW : cD := mX (aYo E)
theorem bET : SQ bRu bLW := λ E => nF (d := bRu) (bPD E) rfl
def bFC : List RV := [(.r p2),(.r p3)]
def aPO (E : bN) (h : H) : aV := some ((.tup [(.int .u64 (.ofNat 0)), (ii 0)]), h)
def bBq : DC := (zs 2 [zX (.mv (.c (.int .u64 (.ofNat 0)))),zX (.mv (zk 0))] .ret)
def bRU (r0 r9 : DV) (i2 : DV → DV → H → aV) (r4 r10 : DV) (h : H) : aV := vK (cR r10 r9) λ x1 => bK x1 (vK (gO r0 r10) λ x2 => vK (fE .u64 x2) λ x3 => vK (aEc x3 (.int .u64 (.ofNat 127))) λ x4 => vK (aCJ (ii 7) r10) λ x5 => vK (aDZ x4 x5) λ x6 => vK (aSz r4 x6) λ x7 => vK (nS x3 (.int .u64 (.ofNat 128))) λ x8 => bK x8 (vK (bL r10 (ii 1)) λ x9 => i2 x7 x9 h) (vK (eJ r10 (ii 0)) λ x10 => bA x10 true (λ kk => kk x3 h) h λ x11 h12 => bA x10 true (λ kk => vK (bS x11 (.int .u64 (.ofNat 0))) λ v => kk v h12) h12 λ x13 h14 => vK (aW x10 x13 (.bool false)) λ x15 => bA x15 false (λ kk => kk r10 h14) h14 λ x16 h17 => bA x15 false (λ kk => vK (bS x16 (ii 9)) λ v => kk v h17) h17 λ x18 h19 => bA x15 false (λ kk => kk x18 h19) h19 λ x20 h21 => bA x20 true (λ kk => kk x3 h21) h21 λ x22 h23 => bA x20 true (λ kk => vK (eJ x22 (.int .u64 (.ofNat 1))) λ v => kk v h23) h23 λ x24 h25 => bA x15 false (λ kk => vK (aW x20 x24 (.bool false)) λ v => kk v h25) h25 λ x26 h27 => vK (aW x15 (.bool true) x26) λ x28 => bK x28 (some ((.tup [(.int .u64 (.ofNat 0)), (ii 0)]), h27)) (vK (bL r10 (ii 1)) λ x29 => some ((.tup [x7, x29]), h27)))) (aPO E h)
def aPn (r0 r9 : DV) (n : Nat) : DV → DV → H → aV := Nat.rec (motive := λ _ => DV → DV → H → aV) (λ _ _ _ => none) (λ _ i => bRU E r0 r9 i) n
def bBp : DC := (.loop (zs 11 [zX (.bin .lss fS o9)] (zq (.cond fY .skip (.exit 0)) (zq (.block 1 (zs 5 [zT 12 10,zM 12] (zs 13 [zM 0,zM 5,zX (.ixS gA iP),zX (.conv .u64 jH),zT 6 16] (zs 17 [zM 4,zM 6,zX (.bin .and iD (.c (.int .u64 (.ofNat 127)))),zM 5,zX (.bin .mul (zk 7) iS),zX (.bin .shl iO hM),zX (.bin .or iI iX),zT 4 23] (zq (zs 24 [zM 6,zX (.bin .geq iN (.c (.int .u64 (.ofNat 128))))] (.cond jY (.exit 1) .skip)) (zq (zs 26 [zM 5,zX (.bin .gtr lM (zk 0)),zM 27,zL 28 true 6,zG 28 true (.bin .eql mK (.c (.int .u64 (.ofNat 0)))),zX (.pick lL lR (.c (.bool false))),zM 31,zL 32 false 5,zG 32 false (.bin .eql mF (zk 9)),zL 32 false 34,zL 35 true 6,zG 35 true (.bin .gtr mD (.c (.int .u64 (.ofNat 1)))),zG 32 false (.pick oW oP (.c (.bool false))),zX (.pick lF (.c (.bool true)) sU)] (.cond rN (zs 2 [zX (.mv (.c (.int .u64 (.ofNat 0)))),zX (.mv (zk 0))] .ret) .skip)) (zs 40 [zM 4,zM 5,zX (.bin .add uE (zk 1)),zT 2 40,zT 3 42] .ret))))))) (zr 10 [zY 43 (.bin .add fS (zk 1)),zM 43])))))
def aYn (r0 : DV) (h : H) : aV := vK (cA r0) λ x1 => vK (aAo x1 (ii 10)) λ x2 => aPn E r0 x2 aT (.int .u64 (.ofNat 0)) (ii 0) h
def bBr : DC := (zs 2 [zX (.mv (.c (.int .u64 (.ofNat 0)))),zX (.mv (zk 0))] (zs 4 [zX (.mv (.c (.int .u64 (.ofNat 0))))] (zq (zs 7 [zM 0,zX (.lenS o7),zX (.mn o8 (zk 10)),zX (.mv (zk 0))] (.block 0 bBp)) bBq)))
theorem bPB : Is E bBq (bO bFC) (λ σ h => aPO E h) := λ σ h => by kernel_rfl
abbrev bME : gT (DV × H) := (bM 0 (cG (λ σ h => aPO E h) (bO bFC)))
theorem bPA : Is E bBp (bME E) (λ σ h => aPn E (σ p0) (σ p9) aT (σ p4) (σ p10) h) := Is.loop (λ n2 σ h => aPn E (σ p0) (σ p9) n2 (σ p4) (σ p10) h) (by kernel_rfl) λ n2 => Is.as (Is.leaf _) λ σ h => by kernel_rfl
theorem bPC : oA E bBr bFC (aYn E) := Is.as (Is.seq (Is.seq (Is.seq (bPB E) (Is.seq (Is.block (bPA E)) (Is.leaf _))) (Is.leaf _)) (Is.leaf _)) λ σ h => by kernel_rfl
def bRt : DF := ⟨1, 44, bBr, bFC⟩
def bLV : cD := oD (aYn E)
theorem bES : SQ bRt bLV := λ E => oI (d := bRt) (bPC E) rfl
def R111 : List RV := []
def aYm (E : bN) (r0 : DV) (h : H) : aV := vK (dX .ptr true h.get r0 .nilp) λ x1 => bK x1 (vK (aM r0) λ x2 => vK (aF 0 x2) λ x3 => wK (bR 1 x3 (.str []) h) λ x4 h5 => vK (aM r0) λ x6 => vK (aF 1 x6) λ x7 => wK (bR 1 x7 (.bool true) h5) λ x8 h9 => some ((.tup []), h9)) (some ((.tup []), h))
def bBo : DC := (zs 2 [zM 0,zX (.eqv .ptr true o2 (.c .nilp))] (.cond o3 (zr 4 [zM 0,zM 0,zX (.nilchk o4),zX (.fa 0 o6),zW (.st 1 o7 (.c (.str []))),zX (.nilchk o5),zX (.fa 1 o8),zW (.st 1 o9 (.c (.bool true)))]) .skip))
theorem bPz : oA E bBo R111 (aYm E) := λ σ h => by kernel_rfl
def bRs : DF := ⟨1, 10, bBo, R111⟩
def bLU : cD := oD (aYm E)
theorem bER : SQ bRs bLU := λ E => oI (d := bRs) (bPz E) rfl
def R120 : List RV := [(.r p4),(.r p5),(.r p6)]
def aKr (r0 r1 : DV) (h : H) : aV := dT r0 h λ x1 h2 => wK (aD E 150 [r1] h2) λ x3 h4 => vK (aH 0 x3) λ x5 => vK (aH 1 x3) λ x6 => vK (aH 2 x3) λ x7 => vK (dC x7 (ii 0)) λ x8 => bK x8 (some ((.tup [(ii 0), (.str []), x7]), h4)) (vK (aK 2 h4.get x1) λ x9 => wK (aD E 124 [x9, x5] h4) λ x10 h11 => vK (aH 0 x10) λ x12 => vK (aH 1 x10) λ x13 => vK (dC x13 (ii 0)) λ x14 => bK x14 (some ((.tup [(ii 0), (.str []), x13]), h11)) (vK (aF 0 x1) λ x15 => vK (aG h11.get x15) λ x16 => vK (bZ 5 x16 x12) λ x17 => vK (aF 2 x17) λ x18 => vK (aG h11.get x18) λ x19 => vK (bS x19 (ii 1)) λ x20 => bK x20 (some ((.tup [(ii 0), (.str []), (ii 13)]), h11)) (some ((.tup [x12, x6, (ii 0)]), h11))))
def bBn : DC := (zs 4 [zY 2 (.box o0),zX (.mv (zk 0)),zX (.mv (.c (.str []))),zX (.mv (zk 0))] (zs 13 [zM 1,zF 150 [gA],zT 12 14,zX (.ext 0 fV),zX (.ext 1 fV),zX (.ext 2 fV),zT 7 15,zT 8 16,zT 9 17] (zq (zs 18 [zM 9,zX (.bin .neq iD (zk 0))] (.cond iO (zs 4 [zT 20 9,zX (.mv (zk 0)),zX (.mv (.c (.str []))),zM 20] .ret) .skip)) (zs 22 [zX (.ldN 2 o2),zM 7,zF 124 [iX,gW],zT 21 24,zX (.ext 0 hM),zX (.ext 1 hM),zT 10 25,zT 11 26] (zq (zs 27 [zM 11,zX (.bin .neq lG (zk 0))] (.cond lL (zs 4 [zT 29 11,zX (.mv (zk 0)),zX (.mv (.c (.str []))),zM 29] .ret) .skip)) (zq (zs 30 [zX (.fa 0 o2),zX (.ld lR),zM 10,zX (.iaS 5 mV lF),zX (.fa 2 mF),zX (.ld mE),zX (.bin .eql oW (zk 1))] (.cond mD (zs 4 [zX (.mv (zk 0)),zX (.mv (.c (.str []))),zX (.mv (zk 13))] .ret) .skip)) (zs 4 [zT 37 10,zT 38 8,zM 37,zM 38,zX (.mv (zk 0))] .ret)))))))
theorem bPy : mW E bBn R120 (aKr E) := λ σ h => by kernel_rfl
def bRr : DF := ⟨2, 39, bBn, R120⟩
def aXh : cD := mX (aKr E)
theorem bEQ : SQ bRr aXh := λ E => nF (d := bRr) (bPy E) rfl
def R121 : List RV := [(.r p6)]
def aKq (r0 r1 r2 : DV) (h : H) : aV := dT r0 h λ x1 h2 => vK (aF 0 x1) λ x3 => vK (aG h2.get x3) λ x4 => vK (bZ 5 x4 r1) λ x5 => vK (aF 4 x5) λ x6 => vK (aG h2.get x6) λ x7 => wK (aD E 151 [x7, r2] h2) λ x8 h9 => vK (aH 0 x8) λ x10 => vK (aH 1 x8) λ x11 => vK (bS x11 (ii 0)) λ x12 => some (x12, h9)
def bBm : DC := (zs 3 [zX (.box o0),zY 6 (.mv (.c (.bool false)))] (zs 10 [zX (.fa 0 o3),zX (.ld fS),zM 1,zX (.iaS 5 fY fV),zX (.fa 4 gA),zX (.ld iP),zM 2,zF 151 [jH,hU],zT 9 17,zX (.ext 0 o9),zX (.ext 1 o9),zT 7 18,zT 8 19] (zs 20 [zM 8,zX (.bin .eql iS (zk 0)),zT 6 21] .ret)))
theorem bPx : iA3 E bBm R121 (aKq E) := λ σ h => by kernel_rfl
def bRq : DF := ⟨3, 22, bBm, R121⟩
def aXg : cD := fA3 (aKq E)
theorem bEP : SQ bRq aXg := λ E => eA3 (d := bRq) (bPx E) rfl
def bFB : List RV := [(.r p4)]
def aKo (E : bN) (h : H) : aV := some ((.int .i64 (.negSucc 0)), h)
def bBk : DC := (zs 4 [zX (.mv (.c (.int .i64 (.negSucc 0))))] .ret)
def aGb (r1 r2 : DV) (i2 : DV → H → aV) (r5 : DV) (h : H) : aV := vK (aF 0 r2) λ x1 => vK (aG h.get x1) λ x2 => vK (cB x2) λ x3 => vK (cR r5 x3) λ x4 => bK x4 (vK (aF 0 r2) λ x5 => vK (aG h.get x5) λ x6 => vK (bZ 5 x6 r5) λ x7 => vK (aF 0 x7) λ x8 => vK (aG h.get x8) λ x9 => vK (bS x9 r1) λ x10 => bK x10 (some (r5, h)) (vK (bL r5 (ii 1)) λ x11 => i2 x11 h)) (aKo E h)
def aAc (r1 r2 : DV) (n : Nat) : DV → H → aV := Nat.rec (motive := λ _ => DV → H → aV) (λ _ _ => none) (λ _ i => aGb E r1 r2 i) n
def bBj : DC := (.loop (zq (zs 6 [zM 5,zX (.fa 0 o2),zX (.ld o7),zX (.lenL o8),zX (.bin .lss o6 o9)] (.cond fS .skip (.exit 0))) (zq (.block 1 (zs 13 [zX (.fa 0 o2),zX (.ld gA),zM 5,zX (.iaS 5 iP jH),zX (.fa 0 hU),zX (.ld iI),zM 1,zX (.bin .eql iD iO)] (.cond iS (zs 4 [zT 21 5,zM 21] .ret) .skip))) (zr 11 [zM 5,zX (.bin .add fY (zk 1)),zT 5 12]))))
def aKp (r0 r1 : DV) (h : H) : aV := dT r0 h λ x1 h2 => aAc E r1 x1 aT (ii 0) h2
def bBl : DC := (zs 2 [zX (.box o0),zY 4 (.mv (zk 0))] (zq (zs 5 [zX (.mv (zk 0))] (.block 0 bBj)) bBk))
theorem bPv : Is E bBk (bO bFB) (λ σ h => aKo E h) := λ σ h => by kernel_rfl
abbrev bMD : gT (DV × H) := (bM 0 (cG (λ σ h => aKo E h) (bO bFB)))
theorem bPu : Is E bBj (bMD E) (λ σ h => aAc E (σ p1) (σ p2) aT (σ p5) h) := Is.loop (λ n2 σ h => aAc E (σ p1) (σ p2) n2 (σ p5) h) (by kernel_rfl) λ n2 => Is.as (Is.leaf _) λ σ h => by kernel_rfl
theorem bPw : mW E bBl bFB (aKp E) := Is.as (Is.seq (Is.seq (bPv E) (Is.seq (Is.block (bPu E)) (Is.leaf _))) (Is.leaf _)) λ σ h => by kernel_rfl
def bRp : DF := ⟨2, 22, bBl, bFB⟩
def aXf : cD := mX (aKp E)
theorem bEO : SQ bRp aXf := λ E => nF (d := bRp) (bPw E) rfl
def R123 : List RV := [(.cells p8 2)]
def aKn (r0 r1 r2 r3 : DV) (h : H) : aV := dT r0 h λ x1 h2 => dZ 2 2 (.list [.nils, (ii 0)]) h2 λ x3 h4 => vK (aF 0 x1) λ x5 => vK (aG h4.get x5) λ x6 => vK (bZ 5 x6 r1) λ x7 => vK (aK 5 h4.get x7) λ x8 => dZ 5 5 (.list [(ii 0), (ii 0), (ii 0), (.str []), .nils]) h4 λ x9 h10 => wK (bR 5 x9 x8 h10) λ x11 h12 => vK (aF 4 x9) λ x13 => vK (aG h12.get x13) λ x14 => wK (aD E 152 [x14, r2, r3] h12) λ x15 h16 => vK (aH 0 x15) λ x17 => vK (aH 1 x15) λ x18 => vK (aF 4 x9) λ x19 => wK (bR 1 x19 x17 h16) λ x20 h21 => vK (aK 2 h21.get x1) λ x22 => vK (aK 5 h21.get x9) λ x23 => wK (aD E 153 [x22, r1, x23] h21) λ x24 h25 => wK (bR 2 x3 x24 h25) λ x26 h27 => vK (aK 2 h27.get x3) λ x28 => some (x28, h27)
def bBi : DC := (zs 4 [zX (.box o0),zY 8 (.alc 2 2 (.list [.nils,(.int .i64 (.ofNat 0))]))] (zs 12 [zX (.fa 0 o4),zX (.ld fV),zM 1,zX (.iaS 5 gA iP),zX (.ldN 5 jH),zY 9 (.alc 5 5 (.list [(.int .i64 (.ofNat 0)),(.int .i64 (.ofNat 0)),(.int .i64 (.ofNat 0)),(.str []),.nils])),zW (.st 5 o9 hU)] (zs 18 [zX (.fa 4 o9),zX (.ld iD),zM 2,zM 3,zF 152 [iO,iS,hM],zT 17 22,zX (.ext 0 iI),zX (.ext 1 iI),zT 10 23,zT 11 24] (zs 25 [zM 10,zX (.fa 4 o9),zW (.st 1 lM jY)] (zs 27 [zX (.ldN 2 o4),zM 1,zX (.ldN 5 o9),zF 153 [lG,lL,mK],zW (.st 2 o8 lR)] .ret)))))
theorem bPt : iA4 E bBi R123 (aKn E) := λ σ h => by kernel_rfl
def bRo : DF := ⟨4, 31, bBi, R123⟩
def aXe : cD := fA4 (aKn E)
theorem bEN : SQ bRo aXe := λ E => eA4 (d := bRo) (bPt E) rfl
def bFA : List RV := [(.r p4),(.r p5)]
def aKl (E : bN) (r8 : DV) (h : H) : aV := some ((.tup [r8, (ii 0)]), h)
def bBg : DC := (zs 4 [zT 54 8,zM 54,zX (.mv (zk 0))] .ret)
def aGa (r2 r6 : DV) (i2 : DV → DV → H → aV) (r8 r9 : DV) (h : H) : aV := vK (cB r6) λ x1 => vK (cR r9 x1) λ x2 => bK x2 (vK (aF 0 r2) λ x3 => vK (aG h.get x3) λ x4 => vK (bZ 5 x4 r8) λ x5 => vK (aF 2 x5) λ x6 => vK (aG h.get x6) λ x7 => vK (bS x7 (ii 1)) λ x8 => bK x8 (some ((.tup [(ii 0), (ii 13)]), h)) (vK (aF 0 r2) λ x9 => vK (aG h.get x9) λ x10 => vK (bZ 5 x10 r8) λ x11 => vK (aF 4 x11) λ x12 => vK (aG h.get x12) λ x13 => vK (bZ 1 r6 r9) λ x14 => vK (aG h.get x14) λ x15 => wK (aD E 151 [x13, x15] h) λ x16 h17 => vK (aH 0 x16) λ x18 => vK (aH 1 x16) λ x19 => vK (dC x19 (ii 0)) λ x20 => bK x20 (some ((.tup [(ii 0), (ii 7)]), h17)) (vK (aK 2 h17.get r2) λ x21 => wK (aD E 122 [x21, x18] h17) λ x22 h23 => vK (bL r9 (ii 1)) λ x24 => i2 x22 x24 h23))) (aKl E r8 h)
def aCy (r2 r6 : DV) (n : Nat) : DV → DV → H → aV := Nat.rec (motive := λ _ => DV → DV → H → aV) (λ _ _ _ => none) (λ _ i => aGa E r2 r6 i) n
def bBf : DC := (.loop (zq (zs 22 [zM 9,zM 6,zX (.lenL gW),zX (.bin .lss iX iN)] (.cond jY .skip (.exit 0))) (zq (.block 1 (zq (zs 28 [zX (.fa 0 o2),zX (.ld lL),zM 8,zX (.iaS 5 mK lR),zX (.fa 2 mV),zX (.ld lF),zX (.bin .eql mF (zk 1))] (.cond mE (zs 4 [zX (.mv (zk 0)),zX (.mv (zk 13))] .ret) .skip)) (zq (zd 36 [yA 0 (zX (.fa 0 o2)),yA 1 (zX (.ld mD)),yA 2 (zM 8),yA 3 (zX (.iaS 5 oP sU)),yA 4 (zX (.fa 4 rN)),yA 5 (zX (.ld qT)),yA 6 (zM 6),yA 7 (zM 9),yA 8 (zX (.iaS 1 uJ uD)),yA 9 (zX (.ld rT)),yA 10 (zF 151 [uE,xY]),yA 11 (zT 35 46),yA 12 (zX (.ext 0 oW)),yA 13 (zX (.ext 1 oW)),yA 14 (zT 10 47),yA 15 (zT 11 48)]) (zq (zs 49 [zM 11,zX (.bin .neq o49 (zk 0))] (.cond o50 (zs 4 [zX (.mv (zk 0)),zX (.mv (zk 7))] .ret) .skip)) (zr 51 [zX (.ldN 2 o2),zM 10,zF 122 [o51,o52],zT 8 53]))))) (zr 26 [zM 9,zX (.bin .add lM (zk 1)),zT 9 27]))))
def aKm (r0 r1 : DV) (h : H) : aV := dT r0 h λ x1 h2 => wK (aD E 154 [r1] h2) λ x3 h4 => vK (aH 0 x3) λ x5 => vK (aH 1 x3) λ x6 => vK (dC x6 (ii 0)) λ x7 => bK x7 (some ((.tup [(ii 0), x6]), h4)) (vK (aK 2 h4.get x1) λ x8 => wK (aD E 122 [x8, (ii 1)] h4) λ x9 h10 => aCy E x1 x5 aT x9 (ii 0) h10)
def bBh : DC := (zs 4 [zY 2 (.box o0),zX (.mv (zk 0)),zX (.mv (zk 0))] (zs 13 [zM 1,zF 154 [gA],zT 12 14,zX (.ext 0 fV),zX (.ext 1 fV),zT 6 15,zT 7 16] (zq (zs 17 [zM 7,zX (.bin .neq iI (zk 0))] (.cond iD (zs 4 [zT 19 7,zX (.mv (zk 0)),zM 19] .ret) .skip)) (zs 20 [zX (.ldN 2 o2),zF 122 [iS,(zk 1)],zT 8 21] (zq (zs 9 [zX (.mv (zk 0))] (.block 0 bBf)) bBg)))))
theorem bPr : Is E bBg (bO bFA) (λ σ h => aKl E (σ p8) h) := λ σ h => by kernel_rfl
abbrev bMC : gT (DV × H) := (cG (λ σ h => aKl E (σ p8) h) (bO bFA))
theorem bPq : Is E bBf (bM 0 (bMC E)) (λ σ h => aCy E (σ p2) (σ p6) aT (σ p8) (σ p9) h) := Is.loop (λ n2 σ h => aCy E (σ p2) (σ p6) n2 (σ p8) (σ p9) h) (by kernel_rfl) λ n2 => Is.as (Is.leaf _) λ σ h => by kernel_rfl
theorem bPs : mW E bBh bFA (aKm E) := Is.as (Is.seq (Is.seq (Is.seq (Is.seq (Is.seq (bPr E) (Is.seq (Is.block (bPq E)) (Is.leaf _))) (Is.leaf _)) (Is.leaf _)) (Is.leaf _)) (Is.leaf _)) λ σ h => by kernel_rfl
def bRn : DF := ⟨2, 55, bBh, bFA⟩
def aXd : cD := mX (aKm E)
theorem bEM : SQ bRn aXd := λ E => nF (d := bRn) (bPs E) rfl
def R125 : List RV := [(.cells p6 2)]
def aKk (r0 r1 r2 : DV) (h : H) : aV := dT r0 h λ x1 h2 => dZ 2 2 (.list [.nils, (ii 0)]) h2 λ x3 h4 => vK (aF 0 x1) λ x5 => vK (aG h4.get x5) λ x6 => vK (bZ 5 x6 r1) λ x7 => vK (aK 5 h4.get x7) λ x8 => dZ 5 5 (.list [(ii 0), (ii 0), (ii 0), (.str []), .nils]) h4 λ x9 h10 => wK (bR 5 x9 x8 h10) λ x11 h12 => vK (aF 4 x9) λ x13 => vK (aG h12.get x13) λ x14 => wK (aD E 155 [x14, r2] h12) λ x15 h16 => vK (aH 0 x15) λ x17 => vK (aH 1 x15) λ x18 => vK (aH 2 x15) λ x19 => vK (aF 4 x9) λ x20 => wK (bR 1 x20 x17 h16) λ x21 h22 => vK (aK 2 h22.get x1) λ x23 => vK (aK 5 h22.get x9) λ x24 => wK (aD E 153 [x23, r1, x24] h22) λ x25 h26 => wK (bR 2 x3 x25 h26) λ x27 h28 => vK (aK 2 h28.get x3) λ x29 => some (x29, h28)
def bBe : DC := (zs 3 [zX (.box o0),zY 6 (.alc 2 2 (.list [.nils,(.int .i64 (.ofNat 0))]))] (zs 11 [zX (.fa 0 o3),zX (.ld fY),zM 1,zX (.iaS 5 fV gA),zX (.ldN 5 iP),zY 7 (.alc 5 5 (.list [(.int .i64 (.ofNat 0)),(.int .i64 (.ofNat 0)),(.int .i64 (.ofNat 0)),(.str []),.nils])),zW (.st 5 o7 jH)] (zs 17 [zX (.fa 4 o7),zX (.ld iI),zM 2,zF 155 [iD,iO],zT 16 20,zX (.ext 0 hU),zX (.ext 1 hU),zX (.ext 2 hU),zT 8 21,zT 9 22,zT 10 23] (zs 24 [zM 8,zX (.fa 4 o7),zW (.st 1 jY iN)] (zs 26 [zX (.ldN 2 o3),zM 1,zX (.ldN 5 o7),zF 153 [lM,lG,lL],zW (.st 2 o6 mK)] .ret)))))
theorem bPp : iA3 E bBe R125 (aKk E) := λ σ h => by kernel_rfl
def bRm : DF := ⟨3, 30, bBe, R125⟩
def aXc : cD := fA3 (aKk E)
theorem bEL : SQ bRm aXc := λ E => eA3 (d := bRm) (bPp E) rfl
def bFz : List RV := [(.r p4)]
def aPN (E : bN) (r5 : DV) (h : H) : aV := some (r5, h)
def bBc : DC := (zs 4 [zT 40 5,zM 40] .ret)
def aFD (E : bN) (i2 : DV → DV → H → aV) (r5 r6 : DV) (h : H) : aV := vK (bL r6 (ii 1)) λ x1 => i2 r5 x1 h
def bBa : DC := (zr 13 [zM 6,zX (.bin .add gA (zk 1)),zT 6 14])
def aFC (E : bN) (i4 : DV → DV → H → aV) (r5 r7 : DV) (h : H) : aV := vK (bL r7 (ii 1)) λ x1 => i4 r5 x1 h
def bAY : DC := (zr 24 [zM 7,zX (.bin .add iN (zk 1)),zT 7 25])
def aFY (i2 : DV → DV → H → aV) (r1 r2 r6 : DV) (i4 : DV → DV → H → aV) (r5 r7 : DV) (h : H) : aV := vK (aF 0 r2) λ x1 => vK (aG h.get x1) λ x2 => vK (bZ 5 x2 r6) λ x3 => vK (aF 4 x3) λ x4 => vK (aG h.get x4) λ x5 => vK (cB x5) λ x6 => vK (cR r7 x6) λ x7 => bK x7 (vK (aF 0 r2) λ x8 => vK (aG h.get x8) λ x9 => vK (bZ 5 x9 r6) λ x10 => vK (aF 4 x10) λ x11 => vK (aG h.get x11) λ x12 => vK (bZ 2 x12 r7) λ x13 => vK (aF 1 x13) λ x14 => vK (aG h.get x14) λ x15 => vK (bS x15 r1) λ x16 => bK x16 (vK (bL r5 (ii 1)) λ x17 => aFC E i4 x17 r7 h) (aFC E i4 r5 r7 h)) (aFD E i2 r5 r6 h)
def wE (i2 : DV → DV → H → aV) (r1 r2 r6 : DV) (n : Nat) : DV → DV → H → aV := Nat.rec (motive := λ _ => DV → DV → H → aV) (λ _ _ _ => none) (λ _ i => aFY E i2 r1 r2 r6 i) n
def bAZ : DC := (.loop (zq (zs 15 [zM 7,zX (.fa 0 o2),zX (.ld hU),zM 6,zX (.iaS 5 iI iD),zX (.fa 4 iO),zX (.ld iS),zX (.lenL hM),zX (.bin .lss jH iX)] (.cond gW .skip (.exit 2))) (zq (.block 3 (zs 26 [zX (.fa 0 o2),zX (.ld lM),zM 6,zX (.iaS 5 lG lL),zX (.fa 4 mK),zX (.ld lR),zM 7,zX (.iaS 2 mV lF),zX (.fa 1 mF),zX (.ld mE),zM 1,zX (.bin .eql oW mD)] (.cond oP (zr 38 [zM 5,zX (.bin .add sU (zk 1)),zT 5 39]) .skip))) bAY)))
def aFZ (r1 r2 : DV) (i2 : DV → DV → H → aV) (r5 r6 : DV) (h : H) : aV := vK (aF 0 r2) λ x1 => vK (aG h.get x1) λ x2 => vK (cB x2) λ x3 => vK (cR r6 x3) λ x4 => bK x4 (wE E i2 r1 r2 r6 aT r5 (ii 0) h) (aPN E r5 h)
def lU (r1 r2 : DV) (n : Nat) : DV → DV → H → aV := Nat.rec (motive := λ _ => DV → DV → H → aV) (λ _ _ _ => none) (λ _ i => aFZ E r1 r2 i) n
def bBb : DC := (.loop (zq (zs 8 [zM 6,zX (.fa 0 o2),zX (.ld o9),zX (.lenL fS),zX (.bin .lss o8 fY)] (.cond fV .skip (.exit 0))) (zq (.block 1 (zs 7 [zX (.mv (zk 0))] (.block 2 bAZ))) bBa)))
def aKj (r0 r1 : DV) (h : H) : aV := dT r0 h λ x1 h2 => lU E r1 x1 aT (ii 0) (ii 0) h2
def bBd : DC := (zs 2 [zX (.box o0),zY 4 (.mv (zk 0))] (zs 5 [zX (.mv (zk 0))] (zq (zs 6 [zX (.mv (zk 0))] (.block 0 bBb)) bBc)))
theorem bPn : Is E bBc (bO bFz) (λ σ h => aPN E (σ p5) h) := λ σ h => by kernel_rfl
abbrev aXF : gT (DV × H) := (cG (λ σ h => aPN E (σ p5) h) (bO bFz))
abbrev aXE (n2 : Nat) : gT (DV × H) := (cG (λ σ h => (lU E (σ p1) (σ p2) n2) (σ p5) (σ p6) h) (bM 0 (aXF E)))
theorem bPl (n2 : Nat) : Is E bBa (aXE E n2) (λ σ h => aFD E (lU E (σ p1) (σ p2) n2) (σ p5) (σ p6) h) := λ σ h => by kernel_rfl
abbrev aXD (n2 : Nat) : gT (DV × H) := (cG (λ σ h => aFD E (lU E (σ p1) (σ p2) n2) (σ p5) (σ p6) h) (aXE E n2))
abbrev bMB (n2 n4 : Nat) : gT (DV × H) := (cG (λ σ h => (wE E (lU E (σ p1) (σ p2) n2) (σ p1) (σ p2) (σ p6) n4) (σ p5) (σ p7) h) (bM 2 (bM 1 (aXD E n2))))
theorem bPj (n2 n4 : Nat) : Is E bAY (bMB E n2 n4) (λ σ h => aFC E (wE E (lU E (σ p1) (σ p2) n2) (σ p1) (σ p2) (σ p6) n4) (σ p5) (σ p7) h) := λ σ h => by kernel_rfl
theorem bPk (n2 : Nat) : Is E bAZ (bM 2 (bM 1 (aXD E n2))) (λ σ h => wE E (lU E (σ p1) (σ p2) n2) (σ p1) (σ p2) (σ p6) aT (σ p5) (σ p7) h) := Is.loop (λ n4 σ h => wE E (lU E (σ p1) (σ p2) n2) (σ p1) (σ p2) (σ p6) n4 (σ p5) (σ p7) h) (by kernel_rfl) λ n4 => Is.as (Is.seq (Is.seq (bPj E n2 n4) (Is.leaf _)) (Is.leaf _)) λ σ h => by kernel_rfl
theorem bPm : Is E bBb (bM 0 (aXF E)) (λ σ h => lU E (σ p1) (σ p2) aT (σ p5) (σ p6) h) := Is.loop (λ n2 σ h => lU E (σ p1) (σ p2) n2 (σ p5) (σ p6) h) (by kernel_rfl) λ n2 => Is.as (Is.seq (Is.seq (bPl E n2) (Is.block (Is.seq (Is.block (bPk E n2)) (Is.leaf _)))) (Is.leaf _)) λ σ h => by kernel_rfl
theorem bPo : mW E bBd bFz (aKj E) := Is.as (Is.seq (Is.seq (Is.seq (bPn E) (Is.seq (Is.block (bPm E)) (Is.leaf _))) (Is.leaf _)) (Is.leaf _)) λ σ h => by kernel_rfl
def bRl : DF := ⟨2, 41, bBd, bFz⟩
def aXb : cD := mX (aKj E)
theorem bEK : SQ bRl aXb := λ E => nF (d := bRl) (bPo E) rfl
def R127 : List RV := [(.cells p4 2)]
def aKi (r0 r1 : DV) (h : H) : aV := dT r0 h λ x1 h2 => dZ 2 2 (.list [.nils, (ii 0)]) h2 λ x3 h4 => vK (aK 2 h4.get x1) λ x5 => wK (aD E 122 [x5, r1] h4) λ x6 h7 => vK (aF 0 x1) λ x8 => vK (aG h7.get x8) λ x9 => vK (dM 5 x9 none (some x6)) λ x10 => vK (aF 0 x1) λ x11 => vK (aG h7.get x11) λ x12 => vK (bL x6 (ii 1)) λ x13 => vK (dM 5 x12 (some x13) none) λ x14 => wK (cE 5 64 .nils x10 h7) λ x15 h16 => rK (rcK (aG h16.get x11) x12) <| wK (cE 5 64 x15 x14 h16) λ x17 h18 => vK (aF 0 x1) λ x19 => wK (bR 1 x19 x17 h18) λ x20 h21 => vK (aK 2 h21.get x1) λ x22 => wK (bR 2 x3 x22 h21) λ x23 h24 => vK (aK 2 h24.get x3) λ x25 => some (x25, h24)
def bAX : DC := (zs 2 [zX (.box o0),zY 4 (.alc 2 2 (.list [.nils,(.int .i64 (.ofNat 0))]))] (zs 6 [zX (.ldN 2 o2),zM 1,zF 122 [o6,o7],zT 5 8] (zq (zd 14 [yA 0 (zY 9 (.fa 0 o2)),yA 1 (zY 10 (.ld o9)),yA 2 (zT 11 5),yA 3 (zY 12 (.slL 5 fS none (some fY))),yA 5 (zX (.fa 0 o2)),yA 6 (zX (.ld iP)),yA 7 (zM 5),yA 8 (zX (.bin .add hU (zk 1))),yA 9 (zX (.slL 5 jH (some iI) none)),yB 4 (zD ⟨(some p13),none,(.w (.app 5 64 (.c .nils) fV))⟩) [6] false,yA 10 (zD ⟨(some p19),none,(.w (.app 5 64 gA iD))⟩),yA 11 (zY 20 (.fa 0 o2)),yA 12 (zW (.st 1 iS iO))]) (zs 21 [zX (.ldN 2 o2),zW (.st 2 o4 hM)] .ret))))
theorem bPi : mW E bAX R127 (aKi E) := λ σ h => by kernel_rfl
def bRk : DF := ⟨2, 22, bAX, R127⟩
def aXa : cD := mX (aKi E)
theorem bEJ : SQ bRk aXa := λ E => nF (d := bRk) (bPi E) rfl
def bFy : List RV := [(.r p4)]
def aPM (E : bN) (h : H) : aV := some ((.bool true), h)
def bAV : DC := (zs 4 [zX (.mv (.c (.bool true)))] .ret)
def aFX (r5 r7 : DV) (i2 : DV → H → aV) (r9 : DV) (h : H) : aV := vK (cB r5) λ x1 => vK (cR r9 x1) λ x2 => bK x2 (vK (bZ 1 r5 r9) λ x3 => vK (aG h.get x3) λ x4 => vK (bZ 1 r7 r9) λ x5 => vK (aG h.get x5) λ x6 => vK (dC x4 x6) λ x7 => bK x7 (some ((.bool false), h)) (vK (bL r9 (ii 1)) λ x8 => i2 x8 h)) (aPM E h)
def aCx (r5 r7 : DV) (n : Nat) : DV → H → aV := Nat.rec (motive := λ _ => DV → H → aV) (λ _ _ => none) (λ _ i => aFX E r5 r7 i) n
def bAU : DC := (.loop (zq (zs 33 [zM 9,zM 5,zX (.lenL mE),zX (.bin .lss mF oW)] (.cond mD .skip (.exit 0))) (zq (.block 1 (zq (zd 39 [yA 0 (zM 5),yA 1 (zM 9),yA 2 (zX (.iaS 1 rN qT)),yA 3 (zX (.ld uE)),yA 4 (zM 7),yA 5 (zM 9),yA 6 (zX (.iaS 1 uD rT)),yA 7 (zX (.ld xY)),yA 8 (zX (.bin .neq uJ uL))]) (.cond xX (zs 4 [zX (.mv (.c (.bool false)))] .ret) .skip))) (zr 37 [zM 9,zX (.bin .add oP (zk 1)),zT 9 38]))))
def aKh (r0 r1 : DV) (h : H) : aV := wK (aD E 154 [r0] h) λ x1 h2 => vK (aH 0 x1) λ x3 => vK (aH 1 x1) λ x4 => wK (aD E 154 [r1] h2) λ x5 h6 => vK (aH 0 x5) λ x7 => vK (aH 1 x5) λ x8 => vK (dC x4 (ii 0)) λ x9 => bA x9 false (λ kk => kk x8 h6) h6 λ x10 h11 => bA x9 false (λ kk => vK (dC x10 (ii 0)) λ v => kk v h11) h11 λ x12 h13 => vK (aW x9 (.bool true) x12) λ x14 => bA x14 false (λ kk => kk x7 h13) h13 λ x15 h16 => bA x14 false (λ kk => vK (cB x15) λ v => kk v h16) h16 λ x17 h18 => bA x14 false (λ kk => kk x3 h18) h18 λ x19 h20 => bA x14 false (λ kk => vK (cB x19) λ v => kk v h20) h20 λ x21 h22 => bA x14 false (λ kk => vK (yF x17 x21) λ v => kk v h22) h22 λ x23 h24 => vK (aW x14 (.bool true) x23) λ x25 => bK x25 (some ((.bool false), h24)) (aCx E x3 x7 aT (ii 0) h24)
def bAW : DC := (zs 4 [zX (.mv (.c (.bool false)))] (zs 11 [zM 0,zF 154 [fY],zT 10 12,zX (.ext 0 fS),zX (.ext 1 fS),zT 5 13,zT 6 14] (zs 16 [zM 1,zF 154 [hU],zT 15 17,zX (.ext 0 jH),zX (.ext 1 jH),zT 7 18,zT 8 19] (zq (zs 20 [zM 6,zX (.bin .neq iS (zk 0)),zM 21,zL 22 false 8,zG 22 false (.bin .neq gW (zk 0)),zX (.pick iX (.c (.bool true)) iN),zM 25,zL 26 false 7,zG 26 false (.lenL lG),zL 26 false 5,zG 26 false (.lenL mK),zG 26 false (.bin .leq lL lR),zX (.pick lM (.c (.bool true)) mV)] (.cond lF (zs 4 [zX (.mv (.c (.bool false)))] .ret) .skip)) (zq (zs 9 [zX (.mv (zk 0))] (.block 0 bAU)) bAV)))))
theorem bPg : Is E bAV (bO bFy) (λ σ h => aPM E h) := λ σ h => by kernel_rfl
abbrev bMA : gT (DV × H) := (bM 0 (cG (λ σ h => aPM E h) (bO bFy)))
theorem bPf : Is E bAU (bMA E) (λ σ h => aCx E (σ p5) (σ p7) aT (σ p9) h) := Is.loop (λ n2 σ h => aCx E (σ p5) (σ p7) n2 (σ p9) h) (by kernel_rfl) λ n2 => Is.as (Is.leaf _) λ σ h => by kernel_rfl
theorem bPh : mW E bAW bFy (aKh E) := Is.as (Is.seq (Is.seq (Is.seq (Is.seq (Is.seq (bPg E) (Is.seq (Is.block (bPf E)) (Is.leaf _))) (Is.leaf _)) (Is.leaf _)) (Is.leaf _)) (Is.leaf _)) λ σ h => by kernel_rfl
def bRj : DF := ⟨2, 48, bAW, bFy⟩
def aWZ : cD := mX (aKh E)
theorem bEI : SQ bRj aWZ := λ E => nF (d := bRj) (bPh E) rfl
def R129 : List RV := [(.r p2),(.r p3)]
def aKg (r0 : DV) (h : H) : aV := wK (aD E 154 [r0] h) λ x1 h2 => vK (aH 0 x1) λ x3 => vK (aH 1 x1) λ x4 => vK (dC x4 (ii 0)) λ x5 => bK x5 (some ((.tup [(.str []), x4]), h2)) (wK (aD E 156 [x3] h2) λ x6 h7 => vK (aH 0 x6) λ x8 => vK (aH 1 x6) λ x9 => some ((.tup [x8, x9]), h7))
def bAT : DC := (zs 2 [zX (.mv (.c (.str []))),zX (.mv (zk 0))] (zs 7 [zM 0,zF 154 [o7],zT 6 8,zX (.ext 0 o6),zX (.ext 1 o6),zT 4 9,zT 5 10] (zq (zs 11 [zM 5,zX (.bin .neq fY (zk 0))] (.cond fV (zs 2 [zT 13 5,zX (.mv (.c (.str []))),zM 13] .ret) .skip)) (zs 14 [zM 4,zF 156 [iP],zX (.ext 0 jH),zX (.ext 1 jH),zT 2 16,zT 3 17] .ret))))
theorem bPe : oA E bAT R129 (aKg E) := λ σ h => by kernel_rfl
def bRi : DF := ⟨1, 18, bAT, R129⟩
def aWY : cD := oD (aKg E)
theorem bEH : SQ bRi aWY := λ E => oI (d := bRi) (bPe E) rfl
def R130 : List RV := [(.r p4),(.r p5)]
def aKf (r0 r1 : DV) (h : H) : aV := dT r0 h λ x1 h2 => vK (aK 2 h2.get x1) λ x3 => wK (aD E 124 [x3, r1] h2) λ x4 h5 => vK (aH 0 x4) λ x6 => vK (aH 1 x4) λ x7 => vK (dC x7 (ii 0)) λ x8 => bK x8 (some ((.tup [(ii 0), x7]), h5)) (vK (aF 0 x1) λ x9 => vK (aG h5.get x9) λ x10 => vK (bZ 5 x10 x6) λ x11 => vK (aF 2 x11) λ x12 => vK (aG h5.get x12) λ x13 => vK (bS x13 (ii 2)) λ x14 => bK x14 (some ((.tup [(ii 0), (ii 12)]), h5)) (some ((.tup [x6, (ii 0)]), h5)))
def bAS : DC := (zs 4 [zY 2 (.box o0),zX (.mv (zk 0)),zX (.mv (zk 0))] (zs 9 [zX (.ldN 2 o2),zM 1,zF 124 [o9,fS],zT 8 11,zX (.ext 0 o8),zX (.ext 1 o8),zT 6 12,zT 7 13] (zq (zs 14 [zM 7,zX (.bin .neq iP (zk 0))] (.cond jH (zs 4 [zT 16 7,zX (.mv (zk 0)),zM 16] .ret) .skip)) (zq (zs 17 [zX (.fa 0 o2),zX (.ld iI),zM 6,zX (.iaS 5 iD iO),zX (.fa 2 iS),zX (.ld hM),zX (.bin .eql iX (zk 2))] (.cond gW (zs 4 [zX (.mv (zk 0)),zX (.mv (zk 12))] .ret) .skip)) (zs 4 [zT 24 6,zM 24,zX (.mv (zk 0))] .ret)))))
theorem bPd : mW E bAS R130 (aKf E) := λ σ h => by kernel_rfl
def bRh : DF := ⟨2, 25, bAS, R130⟩
def aWX : cD := mX (aKf E)
theorem bEG : SQ bRh aWX := λ E => nF (d := bRh) (bPd E) rfl
def R131 : List RV := [(.r p2)]
def aKe (E : bN) (r0 : DV) (h : H) : aV := uF 1 1 (.int .u8 (.ofNat 0)) r0 r0 h λ x1 h2 => vK (mU h2.get x1) λ x3 => some (x3, h2)
def bAR : DC := (zs 2 [zX (.mv (.c (.str [])))] (zs 3 [zM 0,zX (.mks 1 1 (.int .u8 (.ofNat 0)) o3 o3),zX (.b2s o4),zT 2 5] .ret))
theorem bPc : oA E bAR R131 (aKe E) := λ σ h => by kernel_rfl
def bRg : DF := ⟨1, 6, bAR, R131⟩
def aTP : cD := oD (aKe E)
theorem bEF : SQ bRg aTP := λ E => oI (d := bRg) (bPc E) rfl
def R132 : List RV := [(.cells p6 2),(.r p7)]
def aKd (r0 r1 r2 : DV) (h : H) : aV := dT r0 h λ x1 h2 => dZ 2 2 (.list [.nils, (ii 0)]) h2 λ x3 h4 => vK (aK 2 h4.get x1) λ x5 => vK (aF 0 x1) λ x6 => vK (aG h4.get x6) λ x7 => vK (bZ 5 x7 r1) λ x8 => vK (aF 3 x8) λ x9 => vK (aG h4.get x9) λ x10 => vK (cA x10) λ x11 => vK (cA r2) λ x12 => wK (aD E 32 [x5] h4) λ x13 h14 => rK (rcK (aG h14.get x9) x10) <| rK (rcK (aG h14.get x6) x7) <| vK (fB x13 x11) λ x15 => vK (bL x15 x12) λ x16 => vK (eJ x16 (ii 65536)) λ x17 => bK x17 (vK (aK 2 h14.get x1) λ x18 => wK (bR 2 x3 x18 h14) λ x19 h20 => vK (aK 2 h20.get x3) λ x21 => some ((.tup [x21, (ii 5)]), h20)) (vK (aF 0 x1) λ x22 => vK (aG h14.get x22) λ x23 => vK (bZ 5 x23 r1) λ x24 => vK (aK 5 h14.get x24) λ x25 => dZ 5 5 (.list [(ii 0), (ii 0), (ii 0), (.str []), .nils]) h14 λ x26 h27 => wK (bR 5 x26 x25 h27) λ x28 h29 => vK (aF 3 x26) λ x30 => wK (bR 1 x30 r2 h29) λ x31 h32 => vK (aK 2 h32.get x1) λ x33 => vK (aK 5 h32.get x26) λ x34 => wK (aD E 153 [x33, r1, x34] h32) λ x35 h36 => wK (bR 2 x3 x35 h36) λ x37 h38 => vK (aK 2 h38.get x3) λ x39 => some ((.tup [x39, (ii 0)]), h38))
def bAQ : DC := (zs 6 [zY 3 (.box o0),zX (.alc 2 2 (.list [.nils,(.int .i64 (.ofNat 0))])),zX (.mv (zk 0))] (zq (zq (zd 9 [yA 0 (zX (.ldN 2 o3)),yA 2 (zY 11 (.fa 0 o3)),yA 3 (zY 12 (.ld fY)),yA 4 (zT 13 1),yA 5 (zY 14 (.iaS 5 fV gA)),yA 6 (zY 15 (.fa 3 iP)),yA 7 (zY 16 (.ld jH)),yA 8 (zY 17 (.lenS hU)),yA 10 (zT 19 2),yA 11 (zY 20 (.lenS iO)),yB 1 (zF 32 [o9]) [7,3] false,yA 9 (zY 18 (.bin .sub fS iI)),yA 12 (zY 21 (.bin .add iD iS)),yA 13 (zY 22 (.bin .gtr hM (zk 65536)))]) (.cond iX (zs 7 [zY 23 (.ldN 2 o3),zW (.st 2 o6 gW),zX (.mv (zk 5))] .ret) .skip)) (zs 24 [zX (.fa 0 o3),zX (.ld iN),zM 1,zX (.iaS 5 jY lM),zX (.ldN 5 lG),zY 8 (.alc 5 5 (.list [(.int .i64 (.ofNat 0)),(.int .i64 (.ofNat 0)),(.int .i64 (.ofNat 0)),(.str []),.nils])),zW (.st 5 o8 lL)] (zs 29 [zM 2,zX (.fa 3 o8),zW (.st 1 lR mK)] (zs 31 [zX (.ldN 2 o3),zM 1,zX (.ldN 5 o8),zF 153 [mV,lF,mF],zW (.st 2 o6 mE),zY 7 (.mv (zk 0))] .ret)))))
theorem bPb : iA3 E bAQ R132 (aKd E) := λ σ h => by kernel_rfl
def bRf : DF := ⟨3, 35, bAQ, R132⟩
def aWW : cD := fA3 (aKd E)
theorem bEE : SQ bRf aWW := λ E => eA3 (d := bRf) (bPb E) rfl
def R134 : List RV := [(.r p6),(.r p7)]
def aYl (r0 r1 r2 : DV) (h : H) : aV := wK (aD E 57 [r1] h) λ x1 h2 => wK (aD E 57 [r1] h2) λ x3 h4 => wK (aD E 56 [r1] h4) λ x5 h6 => wK (aD E 58 [r1] h6) λ x7 h8 => vK (yF x1 r2) λ x9 => bA x9 false (λ kk => kk x1 h8) h8 λ x10 h11 => bA x9 false (λ kk => vK (nS x10 (ii 256)) λ v => kk v h11) h11 λ x12 h13 => vK (aW x9 (.bool true) x12) λ x14 => bK x14 (some ((.tup [(ii 0), (.bool false)]), h13)) (vK (aM r0) λ x15 => vK (aF 0 x15) λ x16 => vK (lV 256 2 x16 x1) λ x17 => vK (aF 0 x17) λ x18 => wK (bR 1 x18 x3 h13) λ x19 h20 => vK (bS x5 (ii 1)) λ x21 => bK x21 (vK (eC [(.str []), (ii 0)] [(0, 1, x7)]) λ x22 => dT x22 h20 λ x23 h24 => vK (aM r0) λ x25 => vK (aF 0 x25) λ x26 => vK (lV 256 2 x26 x1) λ x27 => vK (aF 1 x27) λ x28 => wK (bR 1 x28 (.ifc 141 x23) h24) λ x29 h30 => vK (aM r0) λ x31 => vK (aF 513 x31) λ x32 => vK (aG h30.get x32) λ x33 => vK (cA x7) λ x34 => vK (bL x33 x34) λ x35 => vK (aM r0) λ x36 => vK (aF 513 x36) λ x37 => wK (bR 1 x37 x35 h30) λ x38 h39 => vK (cA x7) λ x40 => vK (yF x40 (ii 16384)) λ x41 => some ((.tup [x1, x41]), h39)) (vK (bS x5 (ii 2)) λ x42 => bK x42 (wK (aD E 157 [x7] h20) λ x43 h44 => vK (aH 0 x43) λ x45 => vK (aH 1 x43) λ x46 => vK (eC [.nilp] [(0, 1, x45)]) λ x47 => vK (aM r0) λ x48 => vK (aF 0 x48) λ x49 => vK (lV 256 2 x49 x1) λ x50 => vK (aF 1 x50) λ x51 => wK (bR 1 x51 (.ifc 120 x47) h44) λ x52 h53 => vK (bS x46 (ii 0)) λ x54 => some ((.tup [x1, x54]), h53)) (some ((.tup [(ii 0), (.bool false)]), h20))))
def bAP : DC := (zs 6 [zX (.mv (zk 0)),zX (.mv (.c (.bool false)))] (zs 14 [zM 1,zF 57 [iP],zM 1,zF 57 [hU],zM 1,zF 56 [iD],zM 1,zF 58 [iS],zT 8 15,zT 9 17,zT 10 19,zT 11 21] (zq (zs 22 [zM 8,zM 2,zX (.bin .leq iX gW),zM 24,zL 25 false 8,zG 25 false (.bin .geq lM (zk 256)),zX (.pick jY (.c (.bool true)) lG)] (.cond lL (zs 6 [zX (.mv (zk 0)),zX (.mv (.c (.bool false)))] .ret) .skip)) (zs 29 [zM 0,zM 8,zM 9,zX (.nilchk mK),zX (.fa 0 lF),zX (.iaA 256 2 mF lR),zX (.fa 0 mE),zW (.st 1 oW mV)] (zq (zs 36 [zM 10] (.block 0 (zs 37 [zY 38 (.bin .eql mD (zk 1)),zM 38] (.cond oP (zs 39 [zM 0,zM 8,zM 11,zX (.bld [(.str []),(.int .i64 (.ofNat 0))] [(0,1,uE)]),zX (.box uJ),zX (.mkI 141 uD),zX (.nilchk rN),zX (.fa 0 xY),zX (.iaA 256 2 uL qT),zX (.fa 1 xX),zW (.st 1 o48 rT)] (zs 49 [zM 0,zX (.nilchk o49),zX (.fa 513 o50),zX (.ld o51),zM 11,zX (.lenS o53),zX (.bin .add o52 o54),zX (.nilchk o49),zX (.fa 513 o56),zW (.st 1 o57 o55)] (zs 58 [zM 8,zM 11,zX (.lenS o59),zX (.bin .leq o60 (zk 16384)),zT 6 58,zT 7 61] .ret))) (zs 62 [zY 63 (.bin .eql mD (zk 2)),zM 63] (.cond o62 (zs 65 [zM 11,zF 157 [o65],zT 64 66,zX (.ext 0 o64),zX (.ext 1 o64),zT 12 67,zT 13 68] (zs 69 [zM 0,zM 8,zM 12,zX (.bld [.nilp] [(0,1,o71)]),zX (.mkI 120 o72),zX (.nilchk o69),zX (.fa 0 o74),zX (.iaA 256 2 o75 o70),zX (.fa 1 o76),zW (.st 1 o77 o73)] (zs 78 [zM 8,zM 13,zX (.bin .eql o79 (zk 0)),zT 6 78,zT 7 80] .ret))) .skip)))))) (zs 6 [zX (.mv (zk 0)),zX (.mv (.c (.bool false)))] .ret))))))
theorem bPa : iA3 E bAP R134 (aYl E) := λ σ h => by kernel_rfl
def bRe : DF := ⟨3, 81, bAP, R134⟩
def bLT : cD := fA3 (aYl E)
theorem bED : SQ bRe bLT := λ E => eA3 (d := bRe) (bPa E) rfl
def bFx : List RV := [(.r p2)]
def aPL (r0 r5 : DV) (h : H) : aV := wK (aD E 160 [r0, (ii 1)] h) λ x1 h2 => vK (bS x1 r5) λ x3 => some (x3, h2)
def bAN : DC := (zs 87 [zM 0,zF 160 [o87,(zk 1)],zM 5,zX (.bin .eql o88 o89),zT 2 90] .ret)
def aKc (E : bN) (i2 : DV → DV → H → aV) (r5 r44 : DV) (h : H) : aV := vK (bL r44 (ii 1)) λ x1 => i2 r5 x1 h
def bAL : DC := (zr 44 [zY 86 (.bin .add rT (zk 1)),zM 86])
def bRT (r0 r3 r43 : DV) (i2 : DV → DV → H → aV) (r5 r44 : DV) (h : H) : aV := vK (cR r44 (ii 256)) λ x1 => bK x1 (vK (yG 256 2 true r43 r44) λ x2 => dZ 2 2 (.list [(ii 0), .nili]) h λ x3 h4 => wK (bR 2 x3 x2 h4) λ x5 h6 => vK (aF 1 x3) λ x7 => vK (aG h6.get x7) λ x8 => vK (uB 141 .nilp true x8) λ x9 => vK (aH 1 x9) λ x10 => vK (aH 0 x9) λ x11 => bK x10 (vK (bZ 1 r3 r44) λ x12 => vK (aG h6.get x12) λ x13 => vK (aM x11) λ x14 => vK (aF 1 x14) λ x15 => wK (bR 1 x15 x13 h6) λ x16 h17 => vK (aM x11) λ x18 => vK (aF 1 x18) λ x19 => vK (aG h17.get x19) λ x20 => vK (cR x20 (ii 1)) λ x21 => bA x21 false (λ kk => kk x11 h17) h17 λ x22 h23 => bA x21 false (λ kk => vK (aM x22) λ v => kk v h23) h23 λ x24 h25 => bA x21 false (λ kk => vK (aF 1 x24) λ v => kk v h25) h25 λ x26 h27 => bA x21 false (λ kk => vK (aG h27.get x26) λ v => kk v h27) h27 λ x28 h29 => bA x21 false (λ kk => vK (eJ x28 (ii 100)) λ v => kk v h29) h29 λ x30 h31 => vK (aW x21 (.bool true) x30) λ x32 => bK x32 (some ((.bool false), h31)) (aKc E i2 r5 r44 h31)) (vK (uB 120 (.agg [.nilp]) true x8) λ x33 => vK (aH 1 x33) λ x34 => vK (aH 0 x33) λ x35 => bK x34 (dZ 1 1 (.list [.nilp]) h6 λ x36 h37 => wK (bR 1 x36 x35 h37) λ x38 h39 => vK (bL r5 (ii 1)) λ x40 => vK (dC r44 (ii 1)) λ x41 => bA x41 true (λ kk => kk r3 h39) h39 λ x42 h43 => bA x41 true (λ kk => kk r44 h43) h43 λ x44 h45 => bA x41 true (λ kk => vK (bZ 1 x42 x44) λ v => kk v h45) h45 λ x46 h47 => bA x41 true (λ kk => vK (aG h47.get x46) λ v => kk v h47) h47 λ x48 h49 => bA x41 true (λ kk => vK (dC x48 (ii 1)) λ v => kk v h49) h49 λ x50 h51 => vK (aW x41 x50 (.bool false)) λ x52 => bK x52 (some ((.bool false), h51)) (aKc E i2 x40 r44 h51)) (aKc E i2 r5 r44 h6))) (aPL E r0 r5 h)
def aFw (r0 r3 r43 : DV) (n : Nat) : DV → DV → H → aV := Nat.rec (motive := λ _ => DV → DV → H → aV) (λ _ _ _ => none) (λ _ i => bRT E r0 r3 r43 i) n
def bAM : DC := (.loop (zs 45 [zX (.bin .lss rT (zk 256))] (zq (.cond xY .skip (.exit 0)) (zq (.block 1 (zs 46 [zM 44,zX (.ixA 256 2 true uD rT),zY 7 (.alc 2 2 (.list [(.int .i64 (.ofNat 0)),.nili])),zT 6 46,zW (.st 2 o7 xX)] (zs 48 [zX (.fa 1 o7),zX (.ld o48)] (.block 2 (zs 50 [zX (.tas 141 .nilp true o49),zX (.ext 1 o50),zX (.ext 0 o50)] (.cond o51 (zs 8 [zM 52] (zs 53 [zM 8,zM 3,zM 6,zX (.iaS 1 o54 o55),zX (.ld o56),zX (.nilchk o53),zX (.fa 1 o58),zW (.st 1 o59 o57)] (zs 60 [zM 8,zX (.nilchk o60),zX (.fa 1 o61),zX (.ld o62),zX (.bin .lss o63 (zk 1)),zM 64,zL 65 false 8,zG 65 false (.nilchk o66),zG 65 false (.fa 1 o67),zG 65 false (.ld o68),zG 65 false (.bin .gtr o69 (zk 100)),zX (.pick o65 (.c (.bool true)) o70)] (.cond o71 (zs 2 [zX (.mv (.c (.bool false)))] .ret) .skip)))) (zs 72 [zX (.tas 120 (.agg [.nilp]) true o49),zX (.ext 1 o72),zX (.ext 0 o72)] (.cond o73 (zs 9 [zX (.alc 1 1 (.list [.nilp])),zW (.st 1 o9 o74)] (zs 75 [zM 5,zX (.bin .add o75 (zk 1)),zT 5 76] (zs 77 [zM 6,zX (.bin .neq o77 (zk 1)),zM 78,zL 79 true 3,zL 79 true 6,zG 79 true (.iaS 1 o80 o81),zG 79 true (.ld o82),zG 79 true (.bin .neq o83 (zk 1)),zX (.pick o79 o84 (.c (.bool false)))] (.cond o85 (zs 2 [zX (.mv (.c (.bool false)))] .ret) .skip)))) .skip)))))))) bAL))))
def aYk (r0 : DV) (h : H) : aV := wK (aD E 158 [r0] h) λ x1 h2 => vK (aH 0 x1) λ x3 => vK (aH 1 x1) λ x4 => vK (kE x4) λ x5 => bA x5 false (λ kk => kk r0 h2) h2 λ x6 h7 => bA x5 false (λ kk => wK (aD E 87 [x6, (ii 1)] h7) kk) h7 λ x8 h9 => bA x5 false (λ kk => vK (dX .ptr false h9.get x8 .nilp) λ v => kk v h9) h9 λ x10 h11 => vK (aW x5 (.bool true) x10) λ x12 => bA x12 false (λ kk => kk x3 h11) h11 λ x13 h14 => bA x12 false (λ kk => vK (bZ 1 x13 (ii 1)) λ v => kk v h14) h14 λ x15 h16 => bA x12 false (λ kk => vK (aG h16.get x15) λ v => kk v h16) h16 λ x17 h18 => bA x12 false (λ kk => vK (eJ x17 (ii 0)) λ v => kk v h18) h18 λ x19 h20 => vK (aW x12 (.bool true) x19) λ x21 => bA x21 false (λ kk => kk r0 h20) h20 λ x22 h23 => bA x21 false (λ kk => vK (aM x22) λ v => kk v h23) h23 λ x24 h25 => bA x21 false (λ kk => vK (aF 513 x24) λ v => kk v h25) h25 λ x26 h27 => bA x21 false (λ kk => vK (aG h27.get x26) λ v => kk v h27) h27 λ x28 h29 => bA x21 false (λ kk => vK (eJ x28 (ii 65536)) λ v => kk v h29) h29 λ x30 h31 => vK (aW x21 (.bool true) x30) λ x32 => bA x32 false (λ kk => kk r0 h31) h31 λ x33 h34 => bA x32 false (λ kk => wK (aD E 159 [x33] h34) kk) h34 λ x35 h36 => bA x32 false (λ kk => vK (kE x35) λ v => kk v h36) h36 λ x37 h38 => vK (aW x32 (.bool true) x37) λ x39 => bK x39 (some ((.bool false), h38)) (vK (aM r0) λ x40 => vK (aF 0 x40) λ x41 => vK (aK 512 h38.get x41) λ x42 => aFw E r0 x3 x42 aT (ii 0) (ii 0) h38)
def bAO : DC := (zs 2 [zX (.mv (.c (.bool false)))] (zs 11 [zM 0,zF 158 [fY],zT 10 12,zX (.ext 0 fS),zX (.ext 1 fS),zT 3 13,zT 4 14] (zq (zs 20 [zT 15 4,zY 16 (.not jH),zT 17 16,zD ⟨(some p18),(some (p17,false)),(.e (.mv o0))⟩,zD ⟨(some p19),(some (p17,false)),(.c (.f 87 [iD,(zk 1)]))⟩,zG 17 false (.eqv .ptr false iO (.c .nilp)),zX (.pick iI (.c (.bool true)) iS),zM 21,zL 22 false 3,zG 22 false (.iaS 1 gW (zk 1)),zG 22 false (.ld iN),zG 22 false (.bin .gtr jY (zk 0)),zX (.pick iX (.c (.bool true)) lM),zM 27,zL 28 false 0,zG 28 false (.nilchk mK),zG 28 false (.fa 513 lR),zG 28 false (.ld mV),zG 28 false (.bin .gtr lF (zk 65536)),zX (.pick lL (.c (.bool true)) mF),zM 34,zL 35 false 0,zD ⟨(some p37),(some (p35,false)),(.c (.f 159 [mD]))⟩,zD ⟨(some p38),(some (p35,false)),(.e (.not oP))⟩,zY 39 (.pick oW (.c (.bool true)) sU)] (.cond rN (zs 2 [zX (.mv (.c (.bool false)))] .ret) .skip)) (zs 5 [zX (.mv (zk 0))] (zq (zs 40 [zM 0,zX (.nilchk qT),zX (.fa 0 uE),zX (.ldN 512 uJ),zX (.mv (zk 0))] (.block 0 bAM)) bAN)))))
theorem bOY : Is E bAN (bO bFx) (λ σ h => aPL E (σ p0) (σ p5) h) := λ σ h => by kernel_rfl
abbrev aXC : gT (DV × H) := (cG (λ σ h => aPL E (σ p0) (σ p5) h) (bO bFx))
abbrev bMz (n2 : Nat) : gT (DV × H) := (cG (λ σ h => (aFw E (σ p0) (σ p3) (σ p43) n2) (σ p5) (σ p44) h) (bM 0 (aXC E)))
theorem bOW (n2 : Nat) : Is E bAL (bMz E n2) (λ σ h => aKc E (aFw E (σ p0) (σ p3) (σ p43) n2) (σ p5) (σ p44) h) := λ σ h => by kernel_rfl
theorem bOX : Is E bAM (bM 0 (aXC E)) (λ σ h => aFw E (σ p0) (σ p3) (σ p43) aT (σ p5) (σ p44) h) := Is.loop (λ n2 σ h => aFw E (σ p0) (σ p3) (σ p43) n2 (σ p5) (σ p44) h) (by kernel_rfl) λ n2 => Is.as (Is.seq (Is.seq (Is.seq (bOW E n2) (Is.leaf _)) (Is.leaf _)) (Is.leaf _)) λ σ h => by kernel_rfl
theorem bOZ : oA E bAO bFx (aYk E) := Is.as (Is.seq (Is.seq (Is.seq (Is.seq (Is.seq (bOY E) (Is.seq (Is.block (bOX E)) (Is.leaf _))) (Is.leaf _)) (Is.leaf _)) (Is.leaf _)) (Is.leaf _)) λ σ h => by kernel_rfl
def bRd : DF := ⟨1, 91, bAO, bFx⟩
def bLS : cD := oD (aYk E)
theorem bEC : SQ bRd bLS := λ E => oI (d := bRd) (bOZ E) rfl
def bFw : List RV := [(.r p2)]
def aPK (E : bN) (r3 : DV) (h : H) : aV := some (r3, h)
def bAJ : DC := (zs 2 [zT 19 3,zM 19] .ret)
def aFW (r0 : DV) (i2 : DV → DV → H → aV) (r3 r4 : DV) (h : H) : aV := vK (cB r0) λ x1 => vK (cR r4 x1) λ x2 => bK x2 (vK (bZ 2 r0 r4) λ x3 => vK (aF 0 x3) λ x4 => vK (aG h.get x4) λ x5 => gI 1 1 [(.str [])] [(0, 1, x5)] h λ x6 h7 => wK (cE 1 16 r3 x6 h7) λ x8 h9 => vK (bL r4 (ii 1)) λ x10 => i2 x8 x10 h9) (aPK E r3 h)
def aCw (r0 : DV) (n : Nat) : DV → DV → H → aV := Nat.rec (motive := λ _ => DV → DV → H → aV) (λ _ _ _ => none) (λ _ i => aFW E r0 i) n
def bAI : DC := (.loop (zq (zs 5 [zM 4,zM 0,zX (.lenL o6),zX (.bin .lss o5 o7)] (.cond o8 .skip (.exit 0))) (zq (.block 1 (zr 11 [zM 3,zM 0,zM 4,zX (.iaS 2 fV gA),zX (.fa 0 iP),zX (.ld jH),zX (.bsl 1 1 [(.str [])] [(0,1,hU)]),zD ⟨(some p18),none,(.w (.app 1 16 fY iI))⟩,zT 3 18])) (zr 9 [zM 4,zX (.bin .add o9 (zk 1)),zT 4 10]))))
def aYj (r0 : DV) (h : H) : aV := aCw E r0 aT .nils (ii 0) h
def bAK : DC := (zs 2 [zX (.mv (.c .nils))] (zs 3 [zX (.mv (.c .nils))] (zq (zs 4 [zX (.mv (zk 0))] (.block 0 bAI)) bAJ)))
theorem bOU : Is E bAJ (bO bFw) (λ σ h => aPK E (σ p3) h) := λ σ h => by kernel_rfl
abbrev bMy : gT (DV × H) := (cG (λ σ h => aPK E (σ p3) h) (bO bFw))
theorem bOT : Is E bAI (bM 0 (bMy E)) (λ σ h => aCw E (σ p0) aT (σ p3) (σ p4) h) := Is.loop (λ n2 σ h => aCw E (σ p0) n2 (σ p3) (σ p4) h) (by kernel_rfl) λ n2 => Is.as (Is.leaf _) λ σ h => by kernel_rfl
theorem bOV : oA E bAK bFw (aYj E) := Is.as (Is.seq (Is.seq (Is.seq (bOU E) (Is.seq (Is.block (bOT E)) (Is.leaf _))) (Is.leaf _)) (Is.leaf _)) λ σ h => by kernel_rfl
def bRc : DF := ⟨1, 20, bAK, bFw⟩
def aWV : cD := oD (aYj E)
theorem bEB : SQ bRc aWV := λ E => oI (d := bRc) (bOV E) rfl
def bFv : List RV := [(.r p2),(.r p3)]
def aPJ (E : bN) (r4 : DV) (h : H) : aV := some ((.tup [r4, (ii 0)]), h)
def bAG : DC := (zs 2 [zT 47 4,zM 47,zX (.mv (zk 0))] .ret)
def aAd (E : bN) (i2 : DV → DV → H → aV) (r4 r23 : DV) (h : H) : aV := vK (bL r23 (ii 1)) λ x1 => i2 r4 x1 h
def bAE : DC := (zr 23 [zY 46 (.bin .add gW (zk 1)),zM 46])
def aKa (i2 : DV → DV → H → aV) (r4 r6 r23 : DV) (h : H) : aV := wK (aD E 146 [r6] h) λ x1 h2 => vK (kE x1) λ x3 => bK x3 (some ((.tup [.nils, (ii 15)]), h2)) (gI 1 1 [(.str [])] [(0, 1, r6)] h2 λ x4 h5 => wK (cE 1 16 r4 x4 h5) λ x6 h7 => aAd E i2 x6 r23 h7)
def bAD : DC := (zq (zs 39 [zM 6,zF 146 [rN],zX (.not qT)] (.cond uE (zs 2 [zX (.mv (.c .nils)),zX (.mv (zk 15))] .ret) .skip)) (zr 42 [zM 4,zM 6,zX (.bsl 1 1 [(.str [])] [(0,1,uD)]),zD ⟨(some p45),none,(.w (.app 1 16 uJ rT))⟩,zT 4 45]))
def aFB (i2 : DV → DV → H → aV) (r4 r6 r23 r27 r28 : DV) (h : H) : aV := bK r28 (aAd E i2 r4 r23 h) (vK (bS r27 (.str [46, 46])) λ x1 => bK x1 (vK (cB r4) λ x2 => vK (fB x2 (ii 1)) λ x3 => vK (aBq x3 (ii 0)) λ x4 => vK (dM 1 r4 none (some x4)) λ x5 => aAd E i2 x5 r23 h) (aKa E i2 r4 r6 r23 h))
def bAC : DC := (.cond lL (.exit 1) (zs 31 [zY 32 (.bin .eql lG (.c (.str [46,46]))),zM 32] (.cond mV (zs 33 [zM 4,zM 4,zX (.lenL mE),zX (.bin .sub oW (zk 1)),zX (.mx mD (zk 0)),zX (.slL 1 mF none (some oP)),zT 4 38] (.exit 1)) .skip)))
def aFV (r21 r22 : DV) (i2 : DV → DV → H → aV) (r4 r23 : DV) (h : H) : aV := vK (cR r23 r22) λ x1 => bK x1 (vK (bZ 1 r21 r23) λ x2 => vK (aG h.get x2) λ x3 => vK (bS x3 (.str [])) λ x4 => bK x4 (aFB E i2 r4 x3 r23 x3 x4 h) (vK (bS x3 (.str [46])) λ x5 => aFB E i2 r4 x3 r23 x3 x5 h)) (aPJ E r4 h)
def mS (r21 r22 : DV) (n : Nat) : DV → DV → H → aV := Nat.rec (motive := λ _ => DV → DV → H → aV) (λ _ _ _ => none) (λ _ i => aFV E r21 r22 i) n
def bAF : DC := (.loop (zs 24 [zX (.bin .lss gW iX)] (zq (.cond iN .skip (.exit 0)) (zq (.block 1 (zs 25 [zX (.iaS 1 hM gW),zX (.ld jY),zT 6 26] (zq (zs 27 [zM 6] (.block 2 (zq (zs 28 [zY 29 (.bin .eql lG (.c (.str []))),zM 29] (.cond lL .skip (zr 28 [zY 30 (.bin .eql lG (.c (.str [46]))),zM 30]))) bAC))) bAD))) bAE))))
def aKb (r0 : DV) (h : H) : aV := vK (bS r0 (.str [])) λ x1 => bA x1 false (λ kk => kk r0 h) h λ x2 h3 => bA x1 false (λ kk => vK (gO x2 (ii 0)) λ v => kk v h3) h3 λ x4 h5 => bA x1 false (λ kk => vK (dC x4 (.int .u8 (.ofNat 47))) λ v => kk v h5) h5 λ x6 h7 => vK (aW x1 (.bool true) x6) λ x8 => bA x8 false (λ kk => kk r0 h7) h7 λ x9 h10 => bA x8 false (λ kk => vK (cA x9) λ v => kk v h10) h10 λ x11 h12 => bA x8 false (λ kk => vK (eJ x11 (ii 255)) λ v => kk v h12) h12 λ x13 h14 => vK (aW x8 (.bool true) x13) λ x15 => bK x15 (some ((.tup [.nils, (ii 15)]), h14)) (vK (gV r0 (some (ii 1)) none) λ x16 => wK (aD E 161 [x16, (.str [47])] h14) λ x17 h18 => vK (cB x17) λ x19 => mS E x17 x19 aT .nils (ii 0) h18)
def bAH : DC := (zs 2 [zX (.mv (.c .nils)),zX (.mv (zk 0))] (.scope (zq (zs 7 [zM 0,zX (.bin .eql o7 (.c (.str []))),zM 8,zL 9 false 0,zG 9 false (.ixS fS (zk 0)),zG 9 false (.bin .neq fY (.c (.int .u8 (.ofNat 47)))),zX (.pick o9 (.c (.bool true)) fV),zM 13,zL 14 false 0,zG 14 false (.lenS jH),zG 14 false (.bin .gtr hU (zk 255)),zX (.pick iP (.c (.bool true)) iI)] (.cond iD (zs 2 [zX (.mv (.c .nils)),zX (.mv (zk 15))] .ret) .skip)) (zs 4 [zX (.mv (.c .nils))] (zq .skip (zq (zs 19 [zM 0,zX (.slS iO (some (zk 1)) none),zF 161 [iS,(.c (.str [47]))],zX (.lenL hM),zX (.mv (zk 0))] (.block 0 bAF)) bAG))))))
theorem bOR : Is E bAG (aDF (bO bFv)) (λ σ h => aPJ E (σ p4) h) := λ σ h => by kernel_rfl
abbrev aXB : gT (DV × H) := (cG (λ σ h => aPJ E (σ p4) h) (aDF (bO bFv)))
abbrev aXA (n2 : Nat) : gT (DV × H) := (cG (λ σ h => (mS E (σ p21) (σ p22) n2) (σ p4) (σ p23) h) (bM 0 (aXB E)))
theorem bOP (n2 : Nat) : Is E bAE (aXA E n2) (λ σ h => aAd E (mS E (σ p21) (σ p22) n2) (σ p4) (σ p23) h) := λ σ h => by kernel_rfl
abbrev aXz (n2 : Nat) : gT (DV × H) := (cG (λ σ h => aAd E (mS E (σ p21) (σ p22) n2) (σ p4) (σ p23) h) (aXA E n2))
theorem bOO (n2 : Nat) : Is E bAD (bM 1 (aXz E n2)) (λ σ h => aKa E (mS E (σ p21) (σ p22) n2) (σ p4) (σ p6) (σ p23) h) := λ σ h => by kernel_rfl
abbrev bMx (n2 : Nat) : gT (DV × H) := (cG (λ σ h => aKa E (mS E (σ p21) (σ p22) n2) (σ p4) (σ p6) (σ p23) h) (bM 1 (aXz E n2)))
theorem bON (n2 : Nat) : Is E bAC (bM 2 (bMx E n2)) (λ σ h => aFB E (mS E (σ p21) (σ p22) n2) (σ p4) (σ p6) (σ p23) (σ p27) (σ p28) h) := λ σ h => by kernel_rfl
theorem bOQ : Is E bAF (bM 0 (aXB E)) (λ σ h => mS E (σ p21) (σ p22) aT (σ p4) (σ p23) h) := Is.loop (λ n2 σ h => mS E (σ p21) (σ p22) n2 (σ p4) (σ p23) h) (by kernel_rfl) λ n2 => Is.as (Is.seq (Is.seq (Is.seq (bOP E n2) (Is.block (Is.seq (Is.seq (bOO E n2) (Is.seq (Is.block (Is.seq (bON E n2) (Is.leaf _))) (Is.leaf _))) (Is.leaf _)))) (Is.leaf _)) (Is.leaf _)) λ σ h => by kernel_rfl
theorem bOS : oA E bAH bFv (aKb E) := Is.as (Is.seq (Is.scope (Is.seq (Is.seq (Is.seq (Is.seq (bOR E) (Is.seq (Is.block (bOQ E)) (Is.leaf _))) (Is.leaf _)) (Is.leaf _)) (Is.leaf _))) (Is.leaf _)) λ σ h => by kernel_rfl
def bRb : DF := ⟨1, 48, bAH, bFv⟩
def aWU : cD := oD (aKb E)
theorem bEA : SQ bRb aWU := λ E => oI (d := bRb) (bOS E) rfl
def bFu : List RV := [(.r p4),(.r p5)]
def aJY (E : bN) (r6 : DV) (h : H) : aV := some ((.tup [r6, (ii 0)]), h)
def bAA : DC := (zs 4 [zT 34 6,zM 34,zX (.mv (zk 0))] .ret)
def aFU (r0 r12 r13 : DV) (i2 : DV → DV → H → aV) (r6 r14 : DV) (h : H) : aV := vK (cR r14 r13) λ x1 => bK x1 (vK (bZ 1 r12 r14) λ x2 => vK (aG h.get x2) λ x3 => wK (aD E 87 [r0, r6] h) λ x4 h5 => vK (dX .ptr false h5.get x4 .nilp) λ x6 => bK x6 (some ((.tup [(ii 0), (ii 13)]), h5)) (wK (aD E 145 [x4, x3] h5) λ x7 h8 => vK (aH 0 x7) λ x9 => vK (aH 1 x7) λ x10 => vK (dC x10 (ii 0)) λ x11 => bK x11 (some ((.tup [(ii 0), x10]), h8)) (vK (bL r14 (ii 1)) λ x12 => i2 x9 x12 h8))) (aJY E r6 h)
def aCv (r0 r12 r13 : DV) (n : Nat) : DV → DV → H → aV := Nat.rec (motive := λ _ => DV → DV → H → aV) (λ _ _ _ => none) (λ _ i => aFU E r0 r12 r13 i) n
def bAz : DC := (.loop (zs 15 [zX (.bin .lss iP gA)] (zq (.cond jH .skip (.exit 0)) (zq (.block 1 (zs 16 [zX (.iaS 1 fV iP),zX (.ld hU),zT 8 17] (zs 18 [zM 0,zM 6,zF 87 [iD,iO],zT 9 20] (zq (zs 21 [zM 9,zX (.eqv .ptr false hM (.c .nilp))] (.cond iX (zs 4 [zX (.mv (zk 0)),zX (.mv (zk 13))] .ret) .skip)) (zs 24 [zM 9,zM 8,zF 145 [iN,jY],zT 23 26,zX (.ext 0 gW),zX (.ext 1 gW),zT 10 27,zT 11 28] (zq (zs 29 [zM 11,zX (.bin .neq mK (zk 0))] (.cond lR (zs 4 [zT 31 11,zX (.mv (zk 0)),zM 31] .ret) .skip)) (zr 6 [zT 32 10,zM 32]))))))) (zr 14 [zY 33 (.bin .add iP (zk 1)),zM 33])))))
def aJZ (r0 r1 : DV) (h : H) : aV := vK (cB r1) λ x1 => aCv E r0 r1 x1 aT (ii 1) (ii 0) h
def bAB : DC := (zs 4 [zX (.mv (zk 0)),zX (.mv (zk 0))] (zs 6 [zX (.mv (zk 1))] (zq (zs 12 [zM 1,zX (.lenL fV),zX (.mv (zk 0))] (.block 0 bAz)) bAA)))
theorem bOL : Is E bAA (bO bFu) (λ σ h => aJY E (σ p6) h) := λ σ h => by kernel_rfl
abbrev bMw : gT (DV × H) := (cG (λ σ h => aJY E (σ p6) h) (bO bFu))
theorem bOK : Is E bAz (bM 0 (bMw E)) (λ σ h => aCv E (σ p0) (σ p12) (σ p13) aT (σ p6) (σ p14) h) := Is.loop (λ n2 σ h => aCv E (σ p0) (σ p12) (σ p13) n2 (σ p6) (σ p14) h) (by kernel_rfl) λ n2 => Is.as (Is.leaf _) λ σ h => by kernel_rfl
theorem bOM : mW E bAB bFu (aJZ E) := Is.as (Is.seq (Is.seq (Is.seq (bOL E) (Is.seq (Is.block (bOK E)) (Is.leaf _))) (Is.leaf _)) (Is.leaf _)) λ σ h => by kernel_rfl
def bRa : DF := ⟨2, 35, bAB, bFu⟩
def aWT : cD := mX (aJZ E)
theorem bEz : SQ bRa aWT := λ E => nF (d := bRa) (bOM E) rfl
def aTU : List RV := [(.r p6),(.r p7)]
def aJX (E : bN) (r8 : DV) (h : H) : aV := vK (mU h.get r8) λ x1 => some ((.tup [x1, (ii 0)]), h)
def bAv : DC := (zs 53 [zM 8,zX (.b2s o53),zT 6 54,zY 7 (.mv (zk 0))] .ret)
def aFS (r1 r2 r8 : DV) (i4 : DV → H → aV) (r9 : DV) (h : H) : aV := vK (cA r2) λ x1 => vK (cR r9 x1) λ x2 => bK x2 (vK (bL r1 r9) λ x3 => vK (gO r2 r9) λ x4 => vK (bZ 1 r8 x3) λ x5 => wK (bR 1 x5 x4 h) λ x6 h7 => vK (bL r9 (ii 1)) λ x8 => i4 x8 h7) (aJX E r8 h)
def aCt (r1 r2 r8 : DV) (n : Nat) : DV → H → aV := Nat.rec (motive := λ _ => DV → H → aV) (λ _ _ => none) (λ _ i => aFS E r1 r2 r8 i) n
def bAu : DC := (.loop (zq (zs 39 [zM 9,zM 2,zX (.lenS qT),zX (.bin .lss rN uE)] (.cond uJ .skip (.exit 2))) (zq (.block 3 (zr 45 [zM 8,zM 1,zM 9,zX (.bin .add uL xX),zM 2,zM 9,zX (.ixS o49 o50),zX (.iaS 1 xY o48),zW (.st 1 o52 o51)])) (zr 43 [zM 9,zX (.bin .add uD (zk 1)),zT 9 44]))))
def aFA (r1 r2 r8 : DV) (h : H) : aV := aCt E r1 r2 r8 aT (ii 0) h
def bAx : DC := (zq (zs 9 [zX (.mv (zk 0))] (.block 2 bAu)) bAv)
def aFT (r1 r2 : DV) (i2 : DV → H → aV) (r8 : DV) (h : H) : aV := vK (cB r8) λ x1 => vK (cA r2) λ x2 => vK (bL r1 x2) λ x3 => vK (cR x1 x3) λ x4 => bK x4 (gI 1 1 [(.int .u8 (.ofNat 0))] [(0, 1, (.int .u8 (.ofNat 0)))] h λ x5 h6 => wK (cE 1 1 r8 x5 h6) λ x7 h8 => i2 x7 h8) (aFA E r1 r2 r8 h)
def aCu (r1 r2 : DV) (n : Nat) : DV → H → aV := Nat.rec (motive := λ _ => DV → H → aV) (λ _ _ => none) (λ _ i => aFT E r1 r2 i) n
def bAw : DC := (.loop (zq (zs 29 [zM 8,zX (.lenL mK),zM 1,zM 2,zX (.lenS lF),zX (.bin .add mV mF),zX (.bin .lss lR mE)] (.cond oW .skip (.exit 0))) (.block 1 (zr 36 [zM 8,zX (.bsl 1 1 [(.int .u8 (.ofNat 0))] [(0,1,(.c (.int .u8 (.ofNat 0))))]),zD ⟨(some p38),none,(.w (.app 1 1 mD oP))⟩,zT 8 38]))))
def wH (r0 r1 r2 : DV) (h : H) : aV := vK (cR r1 (ii 0)) λ x1 => bK x1 (some ((.tup [(.str []), (ii 1)]), h)) (vK (cA r0) λ x2 => vK (eJ x2 (ii 65536)) λ x3 => bA x3 false (λ kk => kk r2 h) h λ x4 h5 => bA x3 false (λ kk => vK (cA x4) λ v => kk v h5) h5 λ x6 h7 => bA x3 false (λ kk => vK (eJ x6 (ii 65536)) λ v => kk v h7) h7 λ x8 h9 => vK (aW x3 (.bool true) x8) λ x10 => bA x10 false (λ kk => kk r1 h9) h9 λ x11 h12 => bA x10 false (λ kk => kk r2 h12) h12 λ x13 h14 => bA x10 false (λ kk => vK (cA x13) λ v => kk v h14) h14 λ x15 h16 => bA x10 false (λ kk => vK (fB (ii 65536) x15) λ v => kk v h16) h16 λ x17 h18 => bA x10 false (λ kk => vK (eJ x11 x17) λ v => kk v h18) h18 λ x19 h20 => vK (aW x10 (.bool true) x19) λ x21 => bK x21 (some ((.tup [(.str []), (ii 2)]), h20)) (aHj r0 h20 λ x22 h23 => aCu E r1 r2 aT x22 h23))
def bAy : DC := (zs 6 [zX (.mv (.c (.str []))),zX (.mv (zk 0))] (zq (zs 10 [zM 1,zX (.bin .lss fS (zk 0))] (.cond fY (zs 6 [zX (.mv (.c (.str []))),zX (.mv (zk 1))] .ret) .skip)) (zq (zs 12 [zM 0,zX (.lenS fV),zX (.bin .gtr gA (zk 65536)),zM 14,zL 15 false 2,zG 15 false (.lenS hU),zG 15 false (.bin .gtr iI (zk 65536)),zX (.pick jH (.c (.bool true)) iD),zM 19,zL 20 false 1,zL 20 false 2,zG 20 false (.lenS iX),zG 20 false (.bin .sub (zk 65536) gW),zG 20 false (.bin .gtr hM iN),zX (.pick iS (.c (.bool true)) jY)] (.cond lM (zs 6 [zX (.mv (.c (.str []))),zX (.mv (zk 2))] .ret) .skip)) (zs 27 [zM 0,zX (.s2b lG),zT 8 28] (zq (.block 0 bAw) bAx)))))
theorem bOG : Is E bAv (bO aTU) (λ σ h => aJX E (σ p8) h) := λ σ h => by kernel_rfl
abbrev bMv : gT (DV × H) := (cG (λ σ h => aJX E (σ p8) h) (bO aTU))
theorem bOF : Is E bAu (bM 2 (bMv E)) (λ σ h => aCt E (σ p1) (σ p2) (σ p8) aT (σ p9) h) := Is.loop (λ n4 σ h => aCt E (σ p1) (σ p2) (σ p8) n4 (σ p9) h) (by kernel_rfl) λ n4 => Is.as (Is.leaf _) λ σ h => by kernel_rfl
theorem bOI : Is E bAx (bO aTU) (λ σ h => aFA E (σ p1) (σ p2) (σ p8) h) := Is.as (Is.seq (bOG E) (Is.seq (Is.block (bOF E)) (Is.leaf _))) λ σ h => by kernel_rfl
abbrev bMu : gT (DV × H) := (cG (λ σ h => aFA E (σ p1) (σ p2) (σ p8) h) (bO aTU))
theorem bOH : Is E bAw (bM 0 (bMu E)) (λ σ h => aCu E (σ p1) (σ p2) aT (σ p8) h) := Is.loop (λ n2 σ h => aCu E (σ p1) (σ p2) n2 (σ p8) h) (by kernel_rfl) λ n2 => Is.as (Is.leaf _) λ σ h => by kernel_rfl
theorem bOJ : iA3 E bAy aTU (wH E) := Is.as (Is.seq (Is.seq (Is.seq (Is.seq (Is.seq (bOI E) (Is.block (bOH E))) (Is.leaf _)) (Is.leaf _)) (Is.leaf _)) (Is.leaf _)) λ σ h => by kernel_rfl
def bQZ : DF := ⟨3, 55, bAy, aTU⟩
def aTO : cD := fA3 (wH E)
theorem bEy : SQ bQZ aTO := λ E => eA3 (d := bQZ) (bOJ E) rfl
def R140 : List RV := [(.r p6),(.r p7)]
def wG (E : bN) (r0 r1 r2 : DV) (h : H) : aV := vK (cR r1 (ii 0)) λ x1 => bK x1 (some ((.tup [(.str []), (ii 1)]), h)) (vK (cA r0) λ x2 => vK (eJ x2 (ii 65536)) λ x3 => bA x3 false (λ kk => kk r2 h) h λ x4 h5 => bA x3 false (λ kk => vK (cA x4) λ v => kk v h5) h5 λ x6 h7 => bA x3 false (λ kk => vK (eJ x6 (ii 65536)) λ v => kk v h7) h7 λ x8 h9 => vK (aW x3 (.bool true) x8) λ x10 => bA x10 false (λ kk => kk r1 h9) h9 λ x11 h12 => bA x10 false (λ kk => kk r2 h12) h12 λ x13 h14 => bA x10 false (λ kk => vK (cA x13) λ v => kk v h14) h14 λ x15 h16 => bA x10 false (λ kk => vK (fB (ii 65536) x15) λ v => kk v h16) h16 λ x17 h18 => bA x10 false (λ kk => vK (eJ x11 x17) λ v => kk v h18) h18 λ x19 h20 => vK (aW x10 (.bool true) x19) λ x21 => bK x21 (some ((.tup [(.str []), (ii 2)]), h20)) (vK (cA r0) λ x22 => vK (cA r2) λ x23 => vK (bL r1 x23) λ x24 => vK (aBq x22 x24) λ x25 => uF 1 1 (.int .u8 (.ofNat 0)) x25 x25 h20 λ x26 h27 => wK (lT 1 x26 r0 h27) λ x28 h29 => vK (dM 1 x26 (some r1) none) λ x30 => wK (lT 1 x30 r2 h29) λ x31 h32 => vK (mU h32.get x26) λ x33 => some ((.tup [x33, (ii 0)]), h32)))
def bAt : DC := (zs 6 [zX (.mv (.c (.str []))),zX (.mv (zk 0))] (zq (.block 0 (zs 10 [zM 1,zX (.bin .lss fS (zk 0)),zT 9 11] (.cond o9 (zs 6 [zX (.mv (.c (.str []))),zX (.mv (zk 1))] .ret) (zs 13 [zM 0,zX (.lenS gA),zX (.bin .gtr iP (zk 65536)),zM 15,zL 16 false 2,zG 16 false (.lenS iI),zG 16 false (.bin .gtr iD (zk 65536)),zX (.pick hU (.c (.bool true)) iO),zM 20,zL 21 false 1,zL 21 false 2,zG 21 false (.lenS gW),zG 21 false (.bin .sub (zk 65536) iN),zG 21 false (.bin .gtr iX jY),zX (.pick hM (.c (.bool true)) lM),zT 12 27] (.cond fV (zs 6 [zX (.mv (.c (.str []))),zX (.mv (zk 2))] .ret) .skip))))) (zs 28 [zM 0,zX (.lenS lL),zM 1,zM 2,zX (.lenS mV),zX (.bin .add lR lF),zX (.mx mK mF),zX (.mks 1 1 (.int .u8 (.ofNat 0)) mE mE),zT 8 35] (zs 36 [zM 8,zM 0,zD ⟨(some p38),none,(.w (.cpy 1 mD oP))⟩] (zs 39 [zM 8,zM 1,zX (.slL 1 rN (some qT) none),zM 2,zD ⟨(some p43),none,(.w (.cpy 1 uE uJ))⟩] (zs 44 [zM 8,zX (.b2s rT),zT 6 45,zY 7 (.mv (zk 0))] .ret))))))
theorem bOE : iA3 E bAt R140 (wG E) := λ σ h => by kernel_rfl
def bQY : DF := ⟨3, 46, bAt, R140⟩
def aTN : cD := fA3 (wG E)
theorem bEx : SQ bQY aTN := λ E => eA3 (d := bQY) (bOE E) rfl
def bFt : List RV := [(.r p2)]
def aPI (E : bN) (h : H) : aV := some ((ii 0), h)
def bAr : DC := (zs 2 [zX (.mv (zk 0))] .ret)
def aFR (r0 : DV) (i2 : DV → H → aV) (r3 : DV) (h : H) : aV := vK (cR r3 (ii 256)) λ x1 => bK x1 (vK (aM r0) λ x2 => vK (aF 0 x2) λ x3 => vK (lV 256 2 x3 r3) λ x4 => vK (aF 1 x4) λ x5 => vK (aG h.get x5) λ x6 => vK (dX .nilI false h.get x6 .nili) λ x7 => bK x7 (some (r3, h)) (vK (bL r3 (ii 1)) λ x8 => i2 x8 h)) (aPI E h)
def aCs (r0 : DV) (n : Nat) : DV → H → aV := Nat.rec (motive := λ _ => DV → H → aV) (λ _ _ => none) (λ _ i => aFR E r0 i) n
def bAq : DC := (.loop (zq (zs 4 [zM 3,zX (.bin .lss o4 (zk 256))] (.cond o5 .skip (.exit 0))) (zq (.block 1 (zs 8 [zM 0,zM 3,zX (.nilchk o8),zX (.fa 0 fS),zX (.iaA 256 2 fY o9),zX (.fa 1 fV),zX (.ld gA),zX (.eqv .nilI false iP (.c .nili))] (.cond jH (zs 2 [zT 16 3,zM 16] .ret) .skip))) (zr 6 [zM 3,zX (.bin .add o6 (zk 1)),zT 3 7]))))
def aJW (r0 : DV) (h : H) : aV := aCs E r0 aT (ii 2) h
def bAs : DC := (zs 2 [zX (.mv (zk 0))] (zq (zs 3 [zX (.mv (zk 2))] (.block 0 bAq)) bAr))
theorem bOC : Is E bAr (bO bFt) (λ σ h => aPI E h) := λ σ h => by kernel_rfl
abbrev bMt : gT (DV × H) := (bM 0 (cG (λ σ h => aPI E h) (bO bFt)))
theorem bOB : Is E bAq (bMt E) (λ σ h => aCs E (σ p0) aT (σ p3) h) := Is.loop (λ n2 σ h => aCs E (σ p0) n2 (σ p3) h) (by kernel_rfl) λ n2 => Is.as (Is.leaf _) λ σ h => by kernel_rfl
theorem bOD : oA E bAs bFt (aJW E) := Is.as (Is.seq (Is.seq (bOC E) (Is.seq (Is.block (bOB E)) (Is.leaf _))) (Is.leaf _)) λ σ h => by kernel_rfl
def bQX : DF := ⟨1, 17, bAs, bFt⟩
def aWS : cD := oD (aJW E)
theorem bEw : SQ bQX aWS := λ E => oI (d := bQX) (bOD E) rfl
def R142 : List RV := [(.r p4),(.r p5)]
def aJV (r0 r1 : DV) (h : H) : aV := vK (dX .ptr false h.get r0 .nilp) λ x1 => bK x1 (some ((.tup [(ii 0), (.bool false)]), h)) (vK (aM r0) λ x2 => vK (aF 0 x2) λ x3 => vK (aG h.get x3) λ x4 => wK (aD E 162 [x4, r1, (.fn (.func 163) [] [])] h) λ x5 h6 => vK (aH 0 x5) λ x7 => vK (aH 1 x5) λ x8 => some ((.tup [x7, x8]), h6))
def bAp : DC := (zs 4 [zX (.mv (zk 0)),zX (.mv (.c (.bool false)))] (zq (zs 6 [zM 0,zX (.eqv .ptr false o6 (.c .nilp))] (.cond o7 (zs 4 [zX (.mv (zk 0)),zX (.mv (.c (.bool false)))] .ret) .skip)) (zs 8 [zM 0,zX (.nilchk o8),zX (.fa 0 o9),zX (.ld fS),zM 1,zF 162 [fY,fV,(.c (.fn (.func 163) [] []))],zX (.ext 0 gA),zX (.ext 1 gA),zT 4 14,zT 5 15] .ret)))
theorem bOA : mW E bAp R142 (aJV E) := λ σ h => by kernel_rfl
def bQW : DF := ⟨2, 16, bAp, R142⟩
def aWR : cD := mX (aJV E)
theorem bEv : SQ bQW aWR := λ E => nF (d := bQW) (bOA E) rfl
def R143 : List RV := [(.r p6)]
def aJU (E : bN) (r0 r1 r2 : DV) (h : H) : aV := vK (cB r0) λ x1 => vK (yD 2 r0 (some r1) r2 x1) λ x2 => vK (bS r1 r2) λ x3 => bK x3 (some (r0, h)) (vK (cB r0) λ x4 => vK (dM 2 r0 none (some r1)) λ x5 => vK (dM 2 r0 (some r2) none) λ x6 => wK (cE 2 24 x5 x6 h) λ x7 h8 => vK (cB x7) λ x9 => vK (dM 2 x7 (some x9) (some x4)) λ x10 => wK (vP [(.str []), (ii 0)] x10 h8) λ x11 h12 => some (x7, h12))
def bAo : DC := (zs 6 [zX (.mv (.c .nils))] (zs 8 [zM 0,zM 1,zM 2,zM 0,zX (.lenL fY),zX (.slM 2 o8 (some o9) fS fV)] (zq (zs 14 [zM 1,zM 2,zX (.bin .eql iP jH)] (.cond hU (zs 6 [zT 17 0,zM 17] .ret) .skip)) (zs 18 [zM 0,zX (.lenL iD),zT 7 19] (zq (zd 20 [yA 0 (zM 0),yA 1 (zM 1),yA 2 (zX (.slL 2 iS none (some hM))),yA 3 (zM 0),yA 4 (zM 2),yA 5 (zX (.slL 2 gW (some iN) none)),yA 6 (zD ⟨(some p26),none,(.w (.app 2 24 iX jY))⟩),yB 7 (zT 0 26) [] true]) (zs 27 [zM 0,zM 0,zX (.lenL lL),zM 7,zX (.slL 2 lG (some mK) (some lR)),zW (.clr [(.str []),(.int .i64 (.ofNat 0))] mV)] (zs 6 [zT 32 0,zM 32] .ret)))))))
theorem bOz : iA3 E bAo R143 (aJU E) := λ σ h => by kernel_rfl
def bQV : DF := ⟨3, 33, bAo, R143⟩
def aWQ : cD := fA3 (aJU E)
theorem bEu : SQ bQV aWQ := λ E => eA3 (d := bQV) (bOz E) rfl
def bFs : List RV := [(.r p4)]
def aPH (E : bN) (h : H) : aV := some ((.bool true), h)
def bAm : DC := (zs 4 [zX (.mv (.c (.bool true)))] .ret)
def aFQ (r0 r1 r12 : DV) (i2 : DV → H → aV) (r13 : DV) (h : H) : aV := vK (cR r13 r12) λ x1 => bK x1 (vK (bZ 1 r0 r13) λ x2 => vK (aG h.get x2) λ x3 => vK (bZ 1 r1 r13) λ x4 => vK (aG h.get x4) λ x5 => vK (dC x3 x5) λ x6 => bK x6 (some ((.bool false), h)) (vK (bL r13 (ii 1)) λ x7 => i2 x7 h)) (aPH E h)
def aCr (r0 r1 r12 : DV) (n : Nat) : DV → H → aV := Nat.rec (motive := λ _ => DV → H → aV) (λ _ _ => none) (λ _ i => aFQ E r0 r1 r12 i) n
def bAl : DC := (.loop (zs 14 [zX (.bin .lss gA fV)] (zq (.cond iP .skip (.exit 0)) (zq (.block 1 (zs 5 [zT 15 13,zM 15] (zq (zd 16 [yA 0 (zM 0),yA 1 (zM 5),yA 2 (zX (.iaS 1 hU iI)),yA 3 (zX (.ld iD)),yA 4 (zM 1),yA 5 (zM 5),yA 6 (zX (.iaS 1 iS hM)),yA 7 (zX (.ld iX)),yA 8 (zX (.bin .neq iO gW))]) (.cond iN (zs 4 [zX (.mv (.c (.bool false)))] .ret) .skip)))) (zr 13 [zY 25 (.bin .add gA (zk 1)),zM 25])))))
def aJT (r0 r1 : DV) (h : H) : aV := vK (cB r0) λ x1 => vK (cB r1) λ x2 => vK (dC x1 x2) λ x3 => bK x3 (some ((.bool false), h)) (vK (cB r0) λ x4 => aCr E r0 r1 x4 aT (ii 0) h)
def bAn : DC := (zs 4 [zX (.mv (.c (.bool false)))] (zq (zs 6 [zM 0,zX (.lenL o6),zM 1,zX (.lenL o8),zX (.bin .neq o7 o9)] (.cond fS (zs 4 [zX (.mv (.c (.bool false)))] .ret) .skip)) (zq (zs 11 [zM 0,zX (.lenL fY),zX (.mv (zk 0))] (.block 0 bAl)) bAm)))
theorem bOx : Is E bAm (bO bFs) (λ σ h => aPH E h) := λ σ h => by kernel_rfl
abbrev bMs : gT (DV × H) := (bM 0 (cG (λ σ h => aPH E h) (bO bFs)))
theorem bOw : Is E bAl (bMs E) (λ σ h => aCr E (σ p0) (σ p1) (σ p12) aT (σ p13) h) := Is.loop (λ n2 σ h => aCr E (σ p0) (σ p1) (σ p12) n2 (σ p13) h) (by kernel_rfl) λ n2 => Is.as (Is.leaf _) λ σ h => by kernel_rfl
theorem bOy : mW E bAn bFs (aJT E) := Is.as (Is.seq (Is.seq (Is.seq (bOx E) (Is.seq (Is.block (bOw E)) (Is.leaf _))) (Is.leaf _)) (Is.leaf _)) λ σ h => by kernel_rfl
def bQU : DF := ⟨2, 26, bAn, bFs⟩
def aWP : cD := mX (aJT E)
theorem bEt : SQ bQU aWP := λ E => nF (d := bQU) (bOy E) rfl
def R145 : List RV := [(.r p4),(.r p5)]
def aJS (r0 r1 : DV) (h : H) : aV := wK (aD E 142 [r0, r1] h) λ x1 h2 => vK (aH 0 x1) λ x3 => vK (aH 1 x1) λ x4 => vK (kE x4) λ x5 => bK x5 (some ((.tup [(ii 0), (ii 7)]), h2)) (vK (aM r0) λ x6 => vK (aF 0 x6) λ x7 => vK (aG h2.get x7) λ x8 => vK (bZ 2 x8 x3) λ x9 => vK (aF 1 x9) λ x10 => vK (aG h2.get x10) λ x11 => some ((.tup [x11, (ii 0)]), h2))
def bAk : DC := (zs 4 [zX (.mv (zk 0)),zX (.mv (zk 0))] (zs 9 [zM 0,zM 1,zF 142 [o9,fS],zT 8 11,zX (.ext 0 o8),zX (.ext 1 o8),zT 6 12,zT 7 13] (zq (zs 14 [zM 7,zX (.not iP)] (.cond jH (zs 4 [zX (.mv (zk 0)),zX (.mv (zk 7))] .ret) .skip)) (zs 16 [zM 0,zX (.nilchk hU),zX (.fa 0 iI),zX (.ld iD),zM 6,zX (.iaS 2 iO iS),zX (.fa 1 hM),zX (.ld iX),zT 4 23,zY 5 (.mv (zk 0))] .ret))))
theorem bOv : mW E bAk R145 (aJS E) := λ σ h => by kernel_rfl
def bQT : DF := ⟨2, 24, bAk, R145⟩
def aWO : cD := mX (aJS E)
theorem bEs : SQ bQT aWO := λ E => nF (d := bQT) (bOv E) rfl
def R146 : List RV := [(.r p2)]
def aJR (r0 : DV) (h : H) : aV := vK (dC r0 (.str [])) λ x1 => bA x1 true (λ kk => kk r0 h) h λ x2 h3 => bA x1 true (λ kk => vK (cA x2) λ v => kk v h3) h3 λ x4 h5 => bA x1 true (λ kk => vK (yF x4 (ii 28)) λ v => kk v h5) h5 λ x6 h7 => vK (aW x1 x6 (.bool false)) λ x8 => bA x8 true (λ kk => kk r0 h7) h7 λ x9 h10 => bA x8 true (λ kk => vK (dC x9 (.str [46])) λ v => kk v h10) h10 λ x11 h12 => vK (aW x8 x11 (.bool false)) λ x13 => bA x13 true (λ kk => kk r0 h12) h12 λ x14 h15 => bA x13 true (λ kk => vK (dC x14 (.str [46, 46])) λ v => kk v h15) h15 λ x16 h17 => vK (aW x13 x16 (.bool false)) λ x18 => bA x18 true (λ kk => kk r0 h17) h17 λ x19 h20 => bA x18 true (λ kk => wK (aD E 164 [x19, (.int .u8 (.ofNat 47))] h20) kk) h20 λ x21 h22 => bA x18 true (λ kk => vK (cR x21 (ii 0)) λ v => kk v h22) h22 λ x23 h24 => vK (aW x18 x23 (.bool false)) λ x25 => bA x25 true (λ kk => kk r0 h24) h24 λ x26 h27 => bA x25 true (λ kk => wK (aD E 164 [x26, (.int .u8 (.ofNat 0))] h27) kk) h27 λ x28 h29 => bA x25 true (λ kk => vK (cR x28 (ii 0)) λ v => kk v h29) h29 λ x30 h31 => vK (aW x25 x30 (.bool false)) λ x32 => some (x32, h31)
def bAj : DC := (zs 2 [zX (.mv (.c (.bool false)))] (zs 3 [zM 0,zX (.bin .neq o3 (.c (.str []))),zM 4,zL 5 true 0,zG 5 true (.lenS o6),zG 5 true (.bin .leq o7 (zk 28)),zX (.pick o5 o8 (.c (.bool false))),zM 9,zL 10 true 0,zG 10 true (.bin .neq fY (.c (.str [46]))),zX (.pick fS fV (.c (.bool false))),zM 13,zL 14 true 0,zG 14 true (.bin .neq jH (.c (.str [46,46]))),zX (.pick iP hU (.c (.bool false))),zM 17,zL 18 true 0,zD ⟨(some p20),(some (p18,true)),(.c (.f 164 [iO,(.c (.int .u8 (.ofNat 47)))]))⟩,zD ⟨(some p21),(some (p18,true)),(.e (.bin .lss iS (zk 0)))⟩,zY 22 (.pick iD hM (.c (.bool false))),zT 23 22,zD ⟨(some p24),(some (p23,true)),(.e (.mv o0))⟩,zD ⟨(some p25),(some (p23,true)),(.c (.f 164 [iN,(.c (.int .u8 (.ofNat 0)))]))⟩,zD ⟨(some p26),(some (p23,true)),(.e (.bin .lss jY (zk 0)))⟩,zY 27 (.pick gW lM (.c (.bool false))),zT 2 27] .ret))
theorem bOu : oA E bAj R146 (aJR E) := λ σ h => by kernel_rfl
def bQS : DF := ⟨1, 28, bAj, R146⟩
def aWN : cD := oD (aJR E)
theorem bEr : SQ bQS aWN := λ E => oI (d := bQS) (bOu E) rfl
def R147 : List RV := [(.r p6)]
def aCC (r0 r1 r2 : DV) (h : H) : aV := vK (dM 2 r0 (some r1) none) λ x1 => vK (cB r2) λ x2 => vK (bS x2 (ii 0)) λ x3 => bK x3 (some (r0, h)) (vK (cB r0) λ x4 => vK (bS r1 x4) λ x5 => bK x5 (wK (cE 2 24 r0 r2 h) λ x6 h7 => some (x6, h7)) (vK (bL x4 x2) λ x8 => vK (aEb r0) λ x9 => vK (eJ x8 x9) λ x10 => bK x10 (vK (dM 2 r0 none (some r1)) λ x11 => vK (bL x4 x2) λ x12 => vK (fB x12 r1) λ x13 => wK (aMx 2 24 [(.str []), (ii 0)] x11 x13 h) λ x14 h15 => vK (dM 2 x14 (some r1) none) λ x16 => wK (lT 2 x16 r2 h15) λ x17 h18 => vK (bL r1 x2) λ x19 => vK (dM 2 x14 (some x19) none) λ x20 => vK (dM 2 r0 (some r1) none) λ x21 => wK (lT 2 x20 x21 h18) λ x22 h23 => some (x14, h23)) (vK (bL x4 x2) λ x24 => vK (dM 2 r0 none (some x24)) λ x25 => vK (bL r1 x2) λ x26 => vK (dM 2 x25 (some x26) none) λ x27 => vK (aKP h.get r2 x27) λ x28 => vK (kE x28) λ x29 => bK x29 (vK (bL r1 x2) λ x30 => vK (dM 2 x25 (some x30) none) λ x31 => vK (dM 2 x25 (some r1) none) λ x32 => wK (lT 2 x31 x32 h) λ x33 h34 => vK (dM 2 x25 (some r1) none) λ x35 => wK (lT 2 x35 r2 h34) λ x36 h37 => some (x25, h37)) (vK (dM 2 x25 (some x4) none) λ x38 => wK (lT 2 x38 r2 h) λ x39 h40 => vK (dM 2 x25 (some r1) none) λ x41 => wK (aD E 166 [x41, x2] h40) λ x42 h43 => some (x25, h43)))))
def bAi : DC := (zs 6 [zX (.mv (.c .nils))] (zs 10 [zM 0,zM 1,zX (.slL 2 fS (some fY) none)] (zs 13 [zM 2,zX (.lenL gA),zT 7 14] (zq (zs 15 [zM 7,zX (.bin .eql jH (zk 0))] (.cond hU (zs 6 [zT 17 0,zM 17] .ret) .skip)) (zs 18 [zM 0,zX (.lenL iD),zT 8 19] (zq (zs 20 [zM 1,zM 8,zX (.bin .eql iS hM)] (.cond iX (zs 23 [zM 0,zM 2,zD ⟨(some p25),none,(.w (.app 2 24 gW iN))⟩,zT 6 25] .ret) .skip)) (zq (zs 26 [zM 8,zM 7,zX (.bin .add lM lG),zM 0,zX (.capL mK),zX (.bin .gtr lL lR)] (.cond mV (zs 32 [zM 0,zM 1,zX (.slL 2 lF none (some mF)),zM 8,zM 7,zX (.bin .add oW mD),zM 1,zX (.bin .sub oP sU),zD ⟨(some p40),none,(.w (.apz 2 24 [(.str []),(.int .i64 (.ofNat 0))] mE rN))⟩,zT 9 40] (zs 41 [zM 9,zM 1,zX (.slL 2 uE (some uJ) none),zM 2,zD ⟨(some p45),none,(.w (.cpy 2 uD rT))⟩] (zq (zd 46 [yA 0 (zM 9),yA 1 (zM 1),yA 2 (zM 7),yA 3 (zX (.bin .add xX o48)),yA 4 (zX (.slL 2 uL (some o49) none)),yA 5 (zM 0),yA 6 (zM 1),yA 7 (zX (.slL 2 o51 (some o52) none)),yA 8 (zD ⟨(some p54),none,(.w (.cpy 2 o50 o53))⟩)]) (zs 6 [zT 55 9,zM 55] .ret)))) .skip)) (zs 56 [zM 0,zM 8,zM 7,zX (.bin .add o57 o58),zX (.slL 2 o56 none (some o59)),zT 0 60] (zq (zs 61 [zM 2,zM 0,zM 1,zM 7,zX (.bin .add o63 o64),zX (.slL 2 o62 (some o65) none),zX (.ovl o61 o66),zX (.not o67)] (.cond o68 (zq (zd 69 [yA 0 (zM 0),yA 1 (zM 1),yA 2 (zM 7),yA 3 (zX (.bin .add o70 o71)),yA 4 (zX (.slL 2 o69 (some o72) none)),yA 5 (zM 0),yA 6 (zM 1),yA 7 (zX (.slL 2 o74 (some o75) none)),yA 8 (zD ⟨(some p77),none,(.w (.cpy 2 o73 o76))⟩)]) (zs 78 [zM 0,zM 1,zX (.slL 2 o78 (some o79) none),zM 2,zD ⟨(some p82),none,(.w (.cpy 2 o80 o81))⟩] (zs 6 [zT 83 0,zM 83] .ret))) .skip)) (zs 84 [zM 0,zM 8,zX (.slL 2 o84 (some o85) none),zM 2,zD ⟨(some p88),none,(.w (.cpy 2 o86 o87))⟩] (zs 89 [zM 0,zM 1,zX (.slL 2 o89 (some o90) none),zM 7,zF 166 [o91,o92]] (zs 6 [zT 94 0,zM 94] .ret))))))))))))
theorem bOt : iA3 E bAi R147 (aCC E) := λ σ h => by kernel_rfl
def bQR : DF := ⟨3, 95, bAi, R147⟩
def aJr : cD := fA3 (aCC E)
theorem bEq : SQ bQR aJr := λ E => eA3 (d := bQR) (bOt E) rfl
def R148 : List RV := [(.r p2)]
def aJQ (r0 : DV) (h : H) : aV := wK (aD E 167 [(.str [0]), r0] h) λ x1 h2 => some (x1, h2)
def bAh : DC := (zs 2 [zX (.mv (.c (.str [])))] (zs 3 [zM 0,zF 167 [(.c (.str [0])),o3],zT 2 4] .ret))
theorem bOs : oA E bAh R148 (aJQ E) := λ σ h => by kernel_rfl
def bQQ : DF := ⟨1, 5, bAh, R148⟩
def aTM : cD := oD (aJQ E)
theorem bEp : SQ bQQ aTM := λ E => oI (d := bQQ) (bOs E) rfl
def R150 : List RV := [(.r p2),(.r p3),(.r p4)]
def aJP (r0 : DV) (h : H) : aV := wK (aD E 154 [r0] h) λ x1 h2 => vK (aH 0 x1) λ x3 => vK (aH 1 x1) λ x4 => vK (dC x4 (ii 0)) λ x5 => bA x5 false (λ kk => kk x3 h2) h2 λ x6 h7 => bA x5 false (λ kk => vK (cB x6) λ v => kk v h7) h7 λ x8 h9 => bA x5 false (λ kk => vK (bS x8 (ii 0)) λ v => kk v h9) h9 λ x10 h11 => vK (aW x5 (.bool true) x10) λ x12 => bK x12 (some ((.tup [(.str []), (.str []), (ii 15)]), h11)) (vK (cB x3) λ x13 => vK (fB x13 (ii 1)) λ x14 => vK (dM 1 x3 none (some x14)) λ x15 => wK (aD E 156 [x15] h11) λ x16 h17 => vK (aH 0 x16) λ x18 => vK (aH 1 x16) λ x19 => vK (cB x3) λ x20 => vK (fB x20 (ii 1)) λ x21 => vK (bZ 1 x3 x21) λ x22 => vK (aG h17.get x22) λ x23 => some ((.tup [x18, x23, (ii 0)]), h17))
def bAg : DC := (zs 2 [zX (.mv (.c (.str []))),zX (.mv (.c (.str []))),zX (.mv (zk 0))] (zs 10 [zM 0,zF 154 [fS],zT 9 11,zX (.ext 0 o9),zX (.ext 1 o9),zT 5 12,zT 6 13] (zq (zs 14 [zM 6,zX (.bin .neq iP (zk 0)),zM 15,zL 16 false 5,zG 16 false (.lenL iI),zG 16 false (.bin .eql iD (zk 0)),zX (.pick hU (.c (.bool true)) iO)] (.cond iS (zs 2 [zX (.mv (.c (.str []))),zX (.mv (.c (.str []))),zX (.mv (zk 15))] .ret) .skip)) (zs 22 [zM 5,zM 5,zX (.lenL gW),zX (.bin .sub iN (zk 1)),zX (.slL 1 iX none (some jY)),zF 156 [lM],zT 21 27,zX (.ext 0 hM),zX (.ext 1 hM),zT 7 28,zT 8 29] (zq (zd 30 [yA 0 (zM 7),yA 1 (zM 5),yA 2 (zM 5),yA 3 (zX (.lenL lF)),yA 4 (zX (.bin .sub mF (zk 1))),yA 5 (zX (.iaS 1 mV mE)),yA 6 (zX (.ld oW)),yA 7 (zT 2 30),yA 8 (zT 3 36),yA 9 (zY 4 (.mv (zk 0)))]) .ret)))))
theorem bOr : oA E bAg R150 (aJP E) := λ σ h => by kernel_rfl
def bQP : DF := ⟨1, 37, bAg, R150⟩
def aWM : cD := oD (aJP E)
theorem bEo : SQ bQP aWM := λ E => oI (d := bQP) (bOr E) rfl
def R151 : List RV := [(.r p4),(.r p5)]
def aJO (r0 r1 : DV) (h : H) : aV := wK (aD E 169 [r0, r1] h) λ x1 h2 => vK (aH 0 x1) λ x3 => vK (aH 1 x1) λ x4 => vK (kE x4) λ x5 => bK x5 (some ((.tup [(ii 0), (ii 7)]), h2)) (vK (bZ 2 r0 x3) λ x6 => vK (aF 1 x6) λ x7 => vK (aG h2.get x7) λ x8 => some ((.tup [x8, (ii 0)]), h2))
def bAf : DC := (zs 4 [zX (.mv (zk 0)),zX (.mv (zk 0))] (zs 9 [zM 0,zM 1,zF 169 [o9,fS],zT 8 11,zX (.ext 0 o8),zX (.ext 1 o8),zT 6 12,zT 7 13] (zq (zs 14 [zM 7,zX (.not iP)] (.cond jH (zs 4 [zX (.mv (zk 0)),zX (.mv (zk 7))] .ret) .skip)) (zs 16 [zM 0,zM 6,zX (.iaS 2 hU iI),zX (.fa 1 iD),zX (.ld iO),zT 4 20,zY 5 (.mv (zk 0))] .ret))))
theorem bOq : mW E bAf R151 (aJO E) := λ σ h => by kernel_rfl
def bQO : DF := ⟨2, 21, bAf, R151⟩
def aWL : cD := mX (aJO E)
theorem bEn : SQ bQO aWL := λ E => nF (d := bQO) (bOq E) rfl
def R152 : List RV := [(.r p6),(.r p7)]
def aJN (r0 r1 r2 : DV) (h : H) : aV := vK (cR r2 (ii 1)) λ x1 => bA x1 false (λ kk => kk r2 h) h λ x2 h3 => bA x1 false (λ kk => vK (nS x2 (ii 256)) λ v => kk v h3) h3 λ x4 h5 => vK (aW x1 (.bool true) x4) λ x6 => bK x6 (some ((.tup [r0, (ii 1)]), h5)) (wK (aD E 170 [r1] h5) λ x7 h8 => vK (kE x7) λ x9 => bK x9 (some ((.tup [r0, (ii 15)]), h8)) (wK (aD E 169 [r0, r1] h8) λ x10 h11 => vK (aH 0 x10) λ x12 => vK (aH 1 x10) λ x13 => bK x13 (some ((.tup [r0, (ii 6)]), h11)) (vK (dM 2 r0 none (some x12)) λ x14 => vK (eC [(.str []), (ii 0)] [(0, 1, r1), (1, 1, r2)]) λ x15 => gI 1 2 [(.str []), (ii 0)] [(0, 2, x15)] h11 λ x16 h17 => vK (dM 2 r0 (some x12) none) λ x18 => wK (cE 2 24 .nils x14 h17) λ x19 h20 => wK (cE 2 24 x19 x16 h20) λ x21 h22 => wK (cE 2 24 x21 x18 h22) λ x23 h24 => some ((.tup [x23, (ii 0)]), h24))))
def bAe : DC := (zs 6 [zX (.mv (.c .nils)),zX (.mv (zk 0))] (zq (zs 10 [zM 2,zX (.bin .lss fS (zk 1)),zM 11,zL 12 false 2,zG 12 false (.bin .geq gA (zk 256)),zX (.pick fV (.c (.bool true)) iP)] (.cond jH (zs 6 [zT 16 0,zM 16,zX (.mv (zk 1))] .ret) .skip)) (zq (zs 17 [zM 1,zF 170 [iI],zX (.not iD)] (.cond iO (zs 6 [zT 20 0,zM 20,zX (.mv (zk 15))] .ret) .skip)) (zs 22 [zM 0,zM 1,zF 169 [iX,gW],zT 21 24,zX (.ext 0 hM),zX (.ext 1 hM),zT 8 25,zT 9 26] (zq (zs 27 [zM 9] (.cond lG (zs 6 [zT 28 0,zM 28,zX (.mv (zk 6))] .ret) .skip)) (zq (zd 33 [yA 0 (zT 29 0),yA 1 (zT 30 8),yA 2 (zY 31 (.slL 2 mK none (some lR))),yA 4 (zM 1),yA 5 (zM 2),yA 6 (zX (.bld [(.str []),(.int .i64 (.ofNat 0))] [(0,1,mF),(1,1,mE)])),yA 7 (zX (.bsl 1 2 [(.str []),(.int .i64 (.ofNat 0))] [(0,2,oW)])),yA 9 (zT 38 0),yA 10 (zT 39 8),yA 11 (zY 40 (.slL 2 sU (some rN) none)),yA 3 (zD ⟨(some p32),none,(.w (.app 2 24 (.c .nils) mV))⟩),yA 8 (zD ⟨(some p37),none,(.w (.app 2 24 lF mD))⟩),yA 12 (zD ⟨(some p41),none,(.w (.app 2 24 oP qT))⟩),yA 13 (zT 6 41),yA 14 (zY 7 (.mv (zk 0)))]) .ret))))))
theorem bOp : iA3 E bAe R152 (aJN E) := λ σ h => by kernel_rfl
def bQN : DF := ⟨3, 42, bAe, R152⟩
def aWK : cD := fA3 (aJN E)
theorem bEm : SQ bQN aWK := λ E => eA3 (d := bQN) (bOp E) rfl
def R153 : List RV := [(.cells p6 2)]
def aJM (E : bN) (r0 r1 r2 : DV) (h : H) : aV := dT r0 h λ x1 h2 => dT r2 h2 λ x3 h4 => dZ 2 2 (.list [.nils, (ii 0)]) h4 λ x5 h6 => vK (aF 0 x1) λ x7 => vK (aG h6.get x7) λ x8 => wK (cE 5 64 .nils x8 h6) λ x9 h10 => vK (aK 5 h10.get x3) λ x11 => vK (bZ 5 x9 r1) λ x12 => wK (bR 5 x12 x11 h10) λ x13 h14 => vK (aF 0 x1) λ x15 => wK (bR 1 x15 x9 h14) λ x16 h17 => vK (aK 2 h17.get x1) λ x18 => wK (bR 2 x5 x18 h17) λ x19 h20 => vK (aK 2 h20.get x5) λ x21 => some (x21, h20)
def bAd : DC := (zs 5 [zY 3 (.box o0),zX (.box o2),zX (.alc 2 2 (.list [.nils,(.int .i64 (.ofNat 0))]))] (zs 8 [zX (.fa 0 o3),zX (.ld o8),zD ⟨(some p10),none,(.w (.app 5 64 (.c .nils) o9))⟩,zT 7 10] (zs 11 [zM 7,zM 1,zX (.ldN 5 o5),zX (.iaS 5 fY fV),zW (.st 5 iP gA)] (zs 15 [zM 7,zX (.fa 0 o3),zW (.st 1 hU jH)] (zs 17 [zX (.ldN 2 o3),zW (.st 2 o6 iI)] .ret)))))
theorem bOo : iA3 E bAd R153 (aJM E) := λ σ h => by kernel_rfl
def bQM : DF := ⟨3, 18, bAd, R153⟩
def aWJ : cD := fA3 (aJM E)
theorem bEl : SQ bQM aWJ := λ E => eA3 (d := bQM) (bOo E) rfl
def bFr : List RV := [(.r p2),(.r p3)]
def aPG (E : bN) (r4 : DV) (h : H) : aV := some ((.tup [r4, (ii 0)]), h)
def bAb : DC := (zs 2 [zT 67 4,zM 67,zX (.mv (zk 0))] .ret)
def aCB (E : bN) (i2 : DV → DV → DV → H → aV) (r4 r5 r6 : DV) (h : H) : aV := vK (bL r6 (ii 1)) λ x1 => i2 r4 r5 x1 h
def aZZ : DC := (zr 23 [zM 6,zX (.bin .add gW (zk 1)),zT 6 24])
def uA (i2 : DV → DV → DV → H → aV) (r4 r6 : DV) (h : H) : aV := aCB E i2 r4 (.str []) r6 h
def aZY : DC := (zr 5 [zX (.mv (.c (.str [])))])
def aAf (r0 : DV) (i2 : DV → DV → DV → H → aV) (r4 r5 r6 : DV) (h : H) : aV := vK (cA r0) λ x1 => vK (yF r6 x1) λ x2 => bK x2 (vK (cA r0) λ x3 => vK (cR r6 x3) λ x4 => bA x4 true (λ kk => kk r0 h) h λ x5 h6 => bA x4 true (λ kk => kk r6 h6) h6 λ x7 h8 => bA x4 true (λ kk => vK (gO x5 x7) λ v => kk v h8) h8 λ x9 h10 => bA x4 true (λ kk => vK (dC x9 (.int .u8 (.ofNat 47))) λ v => kk v h10) h10 λ x11 h12 => vK (aW x4 x11 (.bool false)) λ x13 => bK x13 (vK (bL r6 (ii 1)) λ x14 => vK (gV r0 (some r6) (some x14)) λ x15 => vK (bL r5 x15) λ x16 => aCB E i2 r4 x16 r6 h12) (vK (bS r5 (.str [])) λ x17 => bA x17 false (λ kk => kk r5 h12) h12 λ x18 h19 => bA x17 false (λ kk => vK (bS x18 (.str [46])) λ v => kk v h19) h19 λ x20 h21 => vK (aW x17 (.bool true) x20) λ x22 => bK x22 (uA E i2 r4 r6 h21) (vK (bS r5 (.str [46, 46])) λ x23 => bK x23 (vK (cB r4) λ x24 => vK (fB x24 (ii 1)) λ x25 => vK (aBq x25 (ii 0)) λ x26 => vK (dM 1 r4 none (some x26)) λ x27 => wK (cE 1 16 .nils x27 h21) λ x28 h29 => uA E i2 x28 r6 h29) (wK (aD E 170 [r5] h21) λ x30 h31 => vK (kE x30) λ x32 => bK x32 (some ((.tup [.nils, (ii 15)]), h31)) (gI 1 1 [(.str [])] [(0, 1, r5)] h31 λ x33 h34 => wK (cE 1 16 r4 x33 h34) λ x35 h36 => uA E i2 x35 r6 h36))))) (aPG E r4 h)
def mR (r0 : DV) (n : Nat) : DV → DV → DV → H → aV := Nat.rec (motive := λ _ => DV → DV → DV → H → aV) (λ _ _ _ _ => none) (λ _ i => aAf E r0 i) n
def bAa : DC := (.loop (zq (zs 19 [zM 6,zM 0,zX (.lenS iS),zX (.bin .leq iO hM)] (.cond iX .skip (.exit 0))) (zq (.block 1 (zq (zs 25 [zM 6,zM 0,zX (.lenS lM),zX (.bin .lss jY lG),zM 28,zL 29 true 0,zL 29 true 6,zG 29 true (.ixS lR mV),zG 29 true (.bin .neq lF (.c (.int .u8 (.ofNat 47)))),zX (.pick mK mF (.c (.bool false)))] (.cond mE (zs 35 [zM 5,zM 0,zM 6,zM 6,zX (.bin .add sU (zk 1)),zX (.slS mD (some oP) (some rN)),zX (.bin .add oW qT),zT 5 41] (.exit 1)) .skip)) (zq (.block 2 (zs 47 [zM 5,zX (.bin .eql xX (.c (.str []))),zM 48,zL 49 false 5,zG 49 false (.bin .eql o50 (.c (.str [46]))),zX (.pick o49 (.c (.bool true)) o51),zT 46 52] (.cond uL .skip (zs 54 [zM 5,zX (.bin .eql o54 (.c (.str [46,46]))),zT 53 55] (.cond o53 (zr 56 [zM 4,zM 4,zX (.lenL o57),zX (.bin .sub o58 (zk 1)),zX (.mx o59 (zk 0)),zX (.slL 1 o56 none (some o60)),zD ⟨(some p62),none,(.w (.app 1 16 (.c .nils) o61))⟩,zT 4 62]) (zs 64 [zM 5,zF 170 [o64],zX (.not o65),zT 63 66] (.cond o63 (zs 2 [zX (.mv (.c .nils)),zX (.mv (zk 15))] .ret) (zr 42 [zM 4,zM 5,zX (.bsl 1 1 [(.str [])] [(0,1,uD)]),zD ⟨(some p45),none,(.w (.app 1 16 uJ rT))⟩,zT 4 45])))))))) aZY))) aZZ)))
def aJL (r0 : DV) (h : H) : aV := vK (bS r0 (.str [])) λ x1 => bA x1 false (λ kk => kk r0 h) h λ x2 h3 => bA x1 false (λ kk => vK (gO x2 (ii 0)) λ v => kk v h3) h3 λ x4 h5 => bA x1 false (λ kk => vK (dC x4 (.int .u8 (.ofNat 47))) λ v => kk v h5) h5 λ x6 h7 => vK (aW x1 (.bool true) x6) λ x8 => bA x8 false (λ kk => kk r0 h7) h7 λ x9 h10 => bA x8 false (λ kk => vK (cA x9) λ v => kk v h10) h10 λ x11 h12 => bA x8 false (λ kk => vK (eJ x11 (ii 255)) λ v => kk v h12) h12 λ x13 h14 => vK (aW x8 (.bool true) x13) λ x15 => bK x15 (some ((.tup [.nils, (ii 15)]), h14)) (mR E r0 aT .nils (.str []) (ii 1) h14)
def bAc : DC := (zs 2 [zX (.mv (.c .nils)),zX (.mv (zk 0))] (zq (zs 7 [zM 0,zX (.bin .eql o7 (.c (.str []))),zM 8,zL 9 false 0,zG 9 false (.ixS fS (zk 0)),zG 9 false (.bin .neq fY (.c (.int .u8 (.ofNat 47)))),zX (.pick o9 (.c (.bool true)) fV),zM 13,zL 14 false 0,zG 14 false (.lenS jH),zG 14 false (.bin .gtr hU (zk 255)),zX (.pick iP (.c (.bool true)) iI)] (.cond iD (zs 2 [zX (.mv (.c .nils)),zX (.mv (zk 15))] .ret) .skip)) (zs 4 [zX (.mv (.c .nils))] (zs 5 [zX (.mv (.c (.str [])))] (zq (zs 6 [zX (.mv (zk 1))] (.block 0 bAa)) bAb)))))
theorem bOm : Is E bAb (bO bFr) (λ σ h => aPG E (σ p4) h) := λ σ h => by kernel_rfl
abbrev aXy : gT (DV × H) := (cG (λ σ h => aPG E (σ p4) h) (bO bFr))
abbrev aXx (n2 : Nat) : gT (DV × H) := (cG (λ σ h => (mR E (σ p0) n2) (σ p4) (σ p5) (σ p6) h) (bM 0 (aXy E)))
theorem bOk (n2 : Nat) : Is E aZZ (aXx E n2) (λ σ h => aCB E (mR E (σ p0) n2) (σ p4) (σ p5) (σ p6) h) := λ σ h => by kernel_rfl
abbrev bMr (n2 : Nat) : gT (DV × H) := (cG (λ σ h => aCB E (mR E (σ p0) n2) (σ p4) (σ p5) (σ p6) h) (aXx E n2))
theorem bOj (n2 : Nat) : Is E aZY (bM 1 (bMr E n2)) (λ σ h => uA E (mR E (σ p0) n2) (σ p4) (σ p6) h) := λ σ h => by kernel_rfl
theorem bOl : Is E bAa (bM 0 (aXy E)) (λ σ h => mR E (σ p0) aT (σ p4) (σ p5) (σ p6) h) := Is.loop (λ n2 σ h => mR E (σ p0) n2 (σ p4) (σ p5) (σ p6) h) (by kernel_rfl) λ n2 => Is.as (Is.seq (Is.seq (bOk E n2) (Is.block (Is.seq (Is.seq (bOj E n2) (Is.leaf _)) (Is.leaf _)))) (Is.leaf _)) λ σ h => by kernel_rfl
theorem bOn : oA E bAc bFr (aJL E) := Is.as (Is.seq (Is.seq (Is.seq (Is.seq (Is.seq (bOm E) (Is.seq (Is.block (bOl E)) (Is.leaf _))) (Is.leaf _)) (Is.leaf _)) (Is.leaf _)) (Is.leaf _)) λ σ h => by kernel_rfl
def bQL : DF := ⟨1, 68, bAc, bFr⟩
def aWI : cD := oD (aJL E)
theorem bEk : SQ bQL aWI := λ E => oI (d := bQL) (bOn E) rfl
def R155 : List RV := [(.r p4),(.r p5),(.r p6)]
def aJK (r0 r1 : DV) (h : H) : aV := wK (aD E 169 [r0, r1] h) λ x1 h2 => vK (aH 0 x1) λ x3 => vK (aH 1 x1) λ x4 => vK (kE x4) λ x5 => bK x5 (some ((.tup [r0, (ii 0), (ii 7)]), h2)) (vK (dM 2 r0 none (some x3)) λ x6 => vK (bL x3 (ii 1)) λ x7 => vK (dM 2 r0 (some x7) none) λ x8 => vK (bZ 2 r0 x3) λ x9 => vK (aF 1 x9) λ x10 => vK (aG h2.get x10) λ x11 => wK (cE 2 24 .nils x6 h2) λ x12 h13 => rK (rcK (aG h13.get x10) x11) <| wK (cE 2 24 x12 x8 h13) λ x14 h15 => rK (rcK (aG h15.get x10) x11) <| some ((.tup [x14, x11, (ii 0)]), h15))
def aZX : DC := (zs 4 [zX (.mv (.c .nils)),zX (.mv (zk 0)),zX (.mv (zk 0))] (zs 10 [zM 0,zM 1,zF 169 [fS,fY],zT 9 12,zX (.ext 0 o9),zX (.ext 1 o9),zT 7 13,zT 8 14] (zq (zs 15 [zM 8,zX (.not jH)] (.cond hU (zs 4 [zT 17 0,zM 17,zX (.mv (zk 0)),zX (.mv (zk 7))] .ret) .skip)) (zq (zd 27 [yA 0 (zT 18 0),yA 1 (zT 19 7),yA 2 (zY 20 (.slL 2 iD none (some iO))),yA 4 (zT 22 0),yA 5 (zT 23 7),yA 6 (zY 24 (.bin .add gW (zk 1))),yA 7 (zY 25 (.slL 2 iX (some iN) none)),yA 9 (zM 0),yA 10 (zM 7),yA 11 (zX (.iaS 2 lG lL)),yA 12 (zX (.fa 1 mK)),yA 13 (zX (.ld lR)),yB 3 (zD ⟨(some p21),none,(.w (.app 2 24 (.c .nils) iS))⟩) [13] false,yB 8 (zD ⟨(some p26),none,(.w (.app 2 24 hM jY))⟩) [13] false,yA 14 (zT 4 26),yA 15 (zT 5 31),yA 16 (zY 6 (.mv (zk 0)))]) .ret))))
theorem bOi : mW E aZX R155 (aJK E) := λ σ h => by kernel_rfl
def bQK : DF := ⟨2, 32, aZX, R155⟩
def aWH : cD := mX (aJK E)
theorem bEj : SQ bQK aWH := λ E => nF (d := bQK) (bOi E) rfl
def bFq : List RV := [(.r p2),(.r p3)]
def aJJ (E : bN) (r4 : DV) (h : H) : aV := vK (bS r4 (.str [])) λ x1 => bK x1 (some ((.tup [(.str [47]), (ii 0)]), h)) (some ((.tup [r4, (ii 0)]), h))
def aZV : DC := (zq (zs 36 [zM 4,zX (.bin .eql mD (.c (.str [])))] (.cond oP (zs 2 [zX (.mv (.c (.str [47]))),zX (.mv (zk 0))] .ret) .skip)) (zs 2 [zT 38 4,zM 38,zX (.mv (zk 0))] .ret))
def aFP (r0 : DV) (i2 : DV → DV → H → aV) (r4 r5 : DV) (h : H) : aV := vK (cB r0) λ x1 => vK (cR r5 x1) λ x2 => bK x2 (vK (bZ 1 r0 r5) λ x3 => vK (aG h.get x3) λ x4 => wK (aD E 170 [x4] h) λ x5 h6 => vK (kE x5) λ x7 => bA x7 false (λ kk => kk r4 h6) h6 λ x8 h9 => bA x7 false (λ kk => vK (cA x8) λ v => kk v h9) h9 λ x10 h11 => bA x7 false (λ kk => kk r0 h11) h11 λ x12 h13 => bA x7 false (λ kk => kk r5 h13) h13 λ x14 h15 => bA x7 false (λ kk => vK (bZ 1 x12 x14) λ v => kk v h15) h15 λ x16 h17 => bA x7 false (λ kk => vK (aG h17.get x16) λ v => kk v h17) h17 λ x18 h19 => bA x7 false (λ kk => vK (cA x18) λ v => kk v h19) h19 λ x20 h21 => bA x7 false (λ kk => vK (bL x10 x20) λ v => kk v h21) h21 λ x22 h23 => bA x7 false (λ kk => vK (nS x22 (ii 255)) λ v => kk v h23) h23 λ x24 h25 => vK (aW x7 (.bool true) x24) λ x26 => bK x26 (some ((.tup [(.str []), (ii 15)]), h25)) (vK (bZ 1 r0 r5) λ x27 => vK (aG h25.get x27) λ x28 => vK (bL (.str [47]) x28) λ x29 => vK (bL r4 x29) λ x30 => vK (bL r5 (ii 1)) λ x31 => i2 x30 x31 h25)) (aJJ E r4 h)
def aCq (r0 : DV) (n : Nat) : DV → DV → H → aV := Nat.rec (motive := λ _ => DV → DV → H → aV) (λ _ _ _ => none) (λ _ i => aFP E r0 i) n
def aZU : DC := (.loop (zq (zs 6 [zM 5,zM 0,zX (.lenL o7),zX (.bin .lss o6 o8)] (.cond o9 .skip (.exit 0))) (zq (.block 1 (zq (zs 12 [zM 0,zM 5,zX (.iaS 1 fV gA),zX (.ld iP),zF 170 [jH],zX (.not hU),zM 17,zL 18 false 4,zG 18 false (.lenS iO),zL 18 false 0,zL 18 false 5,zG 18 false (.iaS 1 hM iX),zG 18 false (.ld gW),zG 18 false (.lenS iN),zG 18 false (.bin .add iS jY),zG 18 false (.bin .geq lM (zk 255)),zX (.pick iD (.c (.bool true)) lG)] (.cond lL (zs 2 [zX (.mv (.c (.str []))),zX (.mv (zk 15))] .ret) .skip)) (zr 29 [zM 4,zM 0,zM 5,zX (.iaS 1 lR mV),zX (.ld lF),zX (.bin .add (.c (.str [47])) mF),zX (.bin .add mK mE),zT 4 35]))) (zr 10 [zM 5,zX (.bin .add fS (zk 1)),zT 5 11]))))
def aYi (r0 : DV) (h : H) : aV := aCq E r0 aT (.str []) (ii 0) h
def aZW : DC := (zs 2 [zX (.mv (.c (.str []))),zX (.mv (zk 0))] (zs 4 [zX (.mv (.c (.str [])))] (zq (zs 5 [zX (.mv (zk 0))] (.block 0 aZU)) aZV)))
theorem bOg : Is E aZV (bO bFq) (λ σ h => aJJ E (σ p4) h) := λ σ h => by kernel_rfl
abbrev bMq : gT (DV × H) := (cG (λ σ h => aJJ E (σ p4) h) (bO bFq))
theorem bOf : Is E aZU (bM 0 (bMq E)) (λ σ h => aCq E (σ p0) aT (σ p4) (σ p5) h) := Is.loop (λ n2 σ h => aCq E (σ p0) n2 (σ p4) (σ p5) h) (by kernel_rfl) λ n2 => Is.as (Is.leaf _) λ σ h => by kernel_rfl
theorem bOh : oA E aZW bFq (aYi E) := Is.as (Is.seq (Is.seq (Is.seq (bOg E) (Is.seq (Is.block (bOf E)) (Is.leaf _))) (Is.leaf _)) (Is.leaf _)) λ σ h => by kernel_rfl
def bQJ : DF := ⟨1, 39, aZW, bFq⟩
def aWG : cD := oD (aYi E)
theorem bEi : SQ bQJ aWG := λ E => oI (d := bQJ) (bOh E) rfl
def bFp : List RV := [(.r p2),(.r p3)]
def aPF (r4 r5 : DV) (h : H) : aV := wK (aD E 59 [r4] h) λ x1 h2 => vK (dC x1 (ii 0)) λ x3 => bK x3 (some ((.tup [.nilp, (ii 3)]), h2)) (some ((.tup [r5, (ii 0)]), h2))
def aZS : DC := (zq (zs 42 [zM 4,zF 59 [uJ],zX (.bin .neq uD (zk 0))] (.cond rT (zs 2 [zX (.mv (.c .nilp)),zX (.mv (zk 3))] .ret) .skip)) (zs 2 [zT 45 5,zM 45,zX (.mv (zk 0))] .ret))
def bRS (r4 r5 r23 : DV) (i2 : DV → DV → H → aV) (r7 r24 : DV) (h : H) : aV := vK (cR r24 r23) λ x1 => bK x1 (wK (aD E 58 [r4] h) λ x2 h3 => wK (aD E 57 [r4] h3) λ x4 h5 => vK (yF x2 r7) λ x6 => bA x6 false (λ kk => kk r5 h5) h5 λ x7 h8 => bA x6 false (λ kk => kk x2 h8) h8 λ x9 h10 => bA x6 false (λ kk => kk x4 h10) h10 λ x11 h12 => bA x6 false (λ kk => wK (aD E 100 [x7, x9, x11] h12) kk) h12 λ x13 h14 => bA x6 false (λ kk => vK (dC x13 (ii 0)) λ v => kk v h14) h14 λ x15 h16 => vK (aW x6 (.bool true) x15) λ x17 => bK x17 (some ((.tup [.nilp, (ii 3)]), h16)) (vK (bL r24 (ii 1)) λ x18 => i2 x2 x18 h16)) (aPF E r4 r5 h)
def aPm (r4 r5 r23 : DV) (n : Nat) : DV → DV → H → aV := Nat.rec (motive := λ _ => DV → DV → H → aV) (λ _ _ _ => none) (λ _ i => bRS E r4 r5 r23 i) n
def aZR : DC := (.loop (zs 25 [zX (.bin .lss iN gW)] (zq (.cond jY .skip (.exit 0)) (zq (.block 1 (zs 26 [zM 4,zF 58 [lM],zM 4,zF 57 [lL],zT 8 27,zT 9 29] (zq (zs 30 [zM 8,zM 7,zX (.bin .leq lR mV),zM 32,zL 33 false 5,zL 33 false 8,zL 33 false 9,zD ⟨(some p37),(some (p33,false)),(.c (.f 100 [mE,oW,mD]))⟩,zD ⟨(some p38),(some (p33,false)),(.e (.bin .neq oP (zk 0)))⟩,zY 39 (.pick mF (.c (.bool true)) sU)] (.cond rN (zs 2 [zX (.mv (.c .nilp)),zX (.mv (zk 3))] .ret) .skip)) (zr 7 [zT 40 8,zM 40])))) (zr 24 [zY 41 (.bin .add iN (zk 1)),zM 41])))))
def aYh (r0 : DV) (h : H) : aV := wK (aD E 55 [r0] h) λ x1 h2 => wK (aD E 65 [] h2) λ x3 h4 => wK (aD E 57 [x1] h4) λ x5 h6 => vK (cR x5 (ii 0)) λ x7 => bA x7 false (λ kk => kk x5 h6) h6 λ x8 h9 => bA x7 false (λ kk => kk x1 h9) h9 λ x10 h11 => bA x7 false (λ kk => wK (aD E 171 [x10] h11) kk) h11 λ x12 h13 => bA x7 false (λ kk => vK (eJ x8 x12) λ v => kk v h13) h13 λ x14 h15 => vK (aW x7 (.bool true) x14) λ x16 => bK x16 (some ((.tup [.nilp, (ii 3)]), h15)) (aPm E x1 x3 x5 aT (.str []) (ii 0) h15)
def aZT : DC := (zs 2 [zX (.mv (.c .nilp)),zX (.mv (zk 0))] (zs 10 [zM 0,zF 55 [fS],zF 65 [],zT 4 11,zT 5 12] (zs 13 [zM 4,zF 57 [gA],zT 6 14] (zq (zs 15 [zM 6,zX (.bin .lss jH (zk 0)),zM 16,zL 17 false 6,zL 17 false 4,zD ⟨(some p20),(some (p17,false)),(.c (.f 171 [iO]))⟩,zD ⟨(some p21),(some (p17,false)),(.e (.bin .gtr iD iS))⟩,zY 22 (.pick iI (.c (.bool true)) hM)] (.cond iX (zs 2 [zX (.mv (.c .nilp)),zX (.mv (zk 3))] .ret) .skip)) (zs 7 [zX (.mv (.c (.str [])))] (zq (zs 23 [zM 6,zX (.mv (zk 0))] (.block 0 aZR)) aZS))))))
theorem bOd : Is E aZS (bO bFp) (λ σ h => aPF E (σ p4) (σ p5) h) := λ σ h => by kernel_rfl
abbrev bMp : gT (DV × H) := (cG (λ σ h => aPF E (σ p4) (σ p5) h) (bO bFp))
theorem bOc : Is E aZR (bM 0 (bMp E)) (λ σ h => aPm E (σ p4) (σ p5) (σ p23) aT (σ p7) (σ p24) h) := Is.loop (λ n2 σ h => aPm E (σ p4) (σ p5) (σ p23) n2 (σ p7) (σ p24) h) (by kernel_rfl) λ n2 => Is.as (Is.leaf _) λ σ h => by kernel_rfl
theorem bOe : oA E aZT bFp (aYh E) := Is.as (Is.seq (Is.seq (Is.seq (Is.seq (Is.seq (Is.seq (bOd E) (Is.seq (Is.block (bOc E)) (Is.leaf _))) (Is.leaf _)) (Is.leaf _)) (Is.leaf _)) (Is.leaf _)) (Is.leaf _)) λ σ h => by kernel_rfl
def bQI : DF := ⟨1, 46, aZT, bFp⟩
def bLR : cD := oD (aYh E)
theorem bEh : SQ bQI bLR := λ E => oI (d := bQI) (bOe E) rfl
def bFo : List RV := [(.r p2),(.r p3)]
def aPE (E : bN) (r4 : DV) (h : H) : aV := some ((.tup [r4, (.bool true)]), h)
def aZP : DC := (zs 2 [zT 47 4,zM 47,zX (.mv (.c (.bool true)))] .ret)
def aPD (E : bN) (i2 : DV → H → aV) (r12 : DV) (h : H) : aV := vK (bL r12 (ii 1)) λ x1 => i2 x1 h
def aZN : DC := (zr 12 [zY 46 (.bin .add fV (zk 1)),zM 46])
def bRQ (i2 : DV → H → aV) (r0 r4 r6 r12 r19 r20 : DV) (i4 : DV → H → aV) (r21 : DV) (h : H) : aV := vK (cR r21 r20) λ x1 => bK x1 (vK (bZ 1 r19 r21) λ x2 => vK (aG h.get x2) λ x3 => wK (aD E 145 [r6, x3] h) λ x4 h5 => vK (aH 0 x4) λ x6 => vK (aH 1 x4) λ x7 => vK (aM r0) λ x8 => vK (aF 0 x8) λ x9 => vK (lV 256 2 x9 x6) λ x10 => vK (aF 1 x10) λ x11 => vK (aG h5.get x11) λ x12 => vK (dX .nilI false h5.get x12 .nili) λ x13 => bK x13 (some ((.tup [.nils, (.bool false)]), h5)) (vK (bZ 1 r4 x6) λ x14 => vK (aG h5.get x14) λ x15 => vK (bL x15 (ii 1)) λ x16 => vK (bZ 1 r4 x6) λ x17 => wK (bR 1 x17 x16 h5) λ x18 h19 => vK (bL r21 (ii 1)) λ x20 => i4 x20 h19)) (aPD E i2 r12 h)
def aPl (i2 : DV → H → aV) (r0 r4 r6 r12 r19 r20 : DV) (n : Nat) : DV → H → aV := Nat.rec (motive := λ _ => DV → H → aV) (λ _ _ => none) (λ _ i => bRQ E i2 r0 r4 r6 r12 r19 r20 i) n
def aZM : DC := (.loop (zs 22 [zX (.bin .lss hM iS)] (zq (.cond iX .skip (.exit 2)) (zq (.block 3 (zs 23 [zX (.iaS 1 iO hM),zX (.ld gW),zT 8 24] (zs 26 [zM 6,zM 8,zF 145 [lM,lG],zT 25 28,zX (.ext 0 jY),zX (.ext 1 jY),zT 9 29,zT 10 30] (zq (zs 31 [zM 0,zM 9,zX (.nilchk mV),zX (.fa 0 mF),zX (.iaA 256 2 mE lF),zX (.fa 1 oW),zX (.ld mD),zX (.eqv .nilI false oP (.c .nili))] (.cond sU (zs 2 [zX (.mv (.c .nils)),zX (.mv (.c (.bool false)))] .ret) .skip)) (zr 39 [zM 4,zM 9,zX (.iaS 1 rN qT),zX (.ld uE),zX (.bin .add uJ (zk 1)),zX (.iaS 1 rN qT),zW (.st 1 rT uD)]))))) (zr 21 [zY 45 (.bin .add hM (zk 1)),zM 45])))))
def bRR (r0 r4 : DV) (i2 : DV → H → aV) (r12 : DV) (h : H) : aV := vK (cR r12 (ii 256)) λ x1 => bK x1 (wK (aD E 87 [r0, r12] h) λ x2 h3 => wK (aD E 88 [x2] h3) λ x4 h5 => vK (cB x4) λ x6 => aPl E i2 r0 r4 x2 r12 x4 x6 aT (ii 0) h5) (aPE E r4 h)
def wD (r0 r4 : DV) (n : Nat) : DV → H → aV := Nat.rec (motive := λ _ => DV → H → aV) (λ _ _ => none) (λ _ i => bRR E r0 r4 i) n
def aZO : DC := (.loop (zs 13 [zX (.bin .lss fV (zk 256))] (zq (.cond gA .skip (.exit 0)) (zq (.block 1 (zs 5 [zT 14 12,zM 14] (zs 15 [zM 0,zM 5,zF 87 [jH,hU],zT 6 17] (zs 18 [zM 6,zF 88 [iD],zX (.lenL iO),zX (.mv (zk 0))] (.block 2 aZM))))) aZN))))
def aYg (r0 : DV) (h : H) : aV := uF 1 8 (ii 0) (ii 256) (ii 256) h λ x1 h2 => wD E r0 x1 aT (ii 0) h2
def aZQ : DC := (zs 2 [zX (.mv (.c .nils)),zX (.mv (.c (.bool false)))] (zs 4 [zY 11 (.mks 1 8 (.int .i64 (.ofNat 0)) (zk 256) (zk 256)),zM 11] (zq (zs 12 [zX (.mv (zk 0))] (.block 0 aZO)) aZP)))
theorem bOa : Is E aZP (bO bFo) (λ σ h => aPE E (σ p4) h) := λ σ h => by kernel_rfl
abbrev aXw : gT (DV × H) := (cG (λ σ h => aPE E (σ p4) h) (bO bFo))
abbrev aXv (n2 : Nat) : gT (DV × H) := (cG (λ σ h => (wD E (σ p0) (σ p4) n2) (σ p12) h) (bM 0 (aXw E)))
theorem bNY (n2 : Nat) : Is E aZN (aXv E n2) (λ σ h => aPD E (wD E (σ p0) (σ p4) n2) (σ p12) h) := λ σ h => by kernel_rfl
abbrev bMo (n2 : Nat) : gT (DV × H) := (cG (λ σ h => aPD E (wD E (σ p0) (σ p4) n2) (σ p12) h) (aXv E n2))
theorem bNX (n2 : Nat) : Is E aZM (bM 2 (bM 1 (bMo E n2))) (λ σ h => aPl E (wD E (σ p0) (σ p4) n2) (σ p0) (σ p4) (σ p6) (σ p12) (σ p19) (σ p20) aT (σ p21) h) := Is.loop (λ n4 σ h => aPl E (wD E (σ p0) (σ p4) n2) (σ p0) (σ p4) (σ p6) (σ p12) (σ p19) (σ p20) n4 (σ p21) h) (by kernel_rfl) λ n4 => Is.as (Is.leaf _) λ σ h => by kernel_rfl
theorem bNZ : Is E aZO (bM 0 (aXw E)) (λ σ h => wD E (σ p0) (σ p4) aT (σ p12) h) := Is.loop (λ n2 σ h => wD E (σ p0) (σ p4) n2 (σ p12) h) (by kernel_rfl) λ n2 => Is.as (Is.seq (Is.seq (Is.seq (bNY E n2) (Is.block (Is.seq (Is.seq (Is.seq (Is.block (bNX E n2)) (Is.leaf _)) (Is.leaf _)) (Is.leaf _)))) (Is.leaf _)) (Is.leaf _)) λ σ h => by kernel_rfl
theorem bOb : oA E aZQ bFo (aYg E) := Is.as (Is.seq (Is.seq (Is.seq (bOa E) (Is.seq (Is.block (bNZ E)) (Is.leaf _))) (Is.leaf _)) (Is.leaf _)) λ σ h => by kernel_rfl
def bQH : DF := ⟨1, 48, aZQ, bFo⟩
def bLQ : cD := oD (aYg E)
theorem bEg : SQ bQH bLQ := λ E => oI (d := bQH) (bOb E) rfl
def fs1 : List FD := [⟨83, D83, S83⟩, ⟨84, D84, S84⟩, ⟨85, D85, S85⟩, ⟨86, D86, S86⟩, ⟨87, D87, S87⟩, ⟨88, D88, S88⟩, ⟨90, D90, S90⟩, ⟨92, D92, S92⟩, ⟨93, D93, S93⟩, ⟨94, D94, S94⟩, ⟨95, D95, S95⟩, ⟨96, D96, S96⟩, ⟨97, D97, S97⟩, ⟨98, D98, S98⟩, ⟨99, D99, S99⟩, ⟨100, bRD, aXl⟩, ⟨101, bRC, aTQ⟩, ⟨102, bRB, aXk⟩, ⟨103, bRA, aPc⟩, ⟨104, bRz, bFb⟩, ⟨105, bRy, bEZ⟩, ⟨106, bRx, aXj⟩, ⟨107, bRw, bEW⟩, ⟨108, bRv, aXi⟩, ⟨109, bRu, bLW⟩, ⟨110, bRt, bLV⟩, ⟨111, bRs, bLU⟩, ⟨120, bRr, aXh⟩, ⟨121, bRq, aXg⟩, ⟨122, bRp, aXf⟩, ⟨123, bRo, aXe⟩, ⟨124, bRn, aXd⟩, ⟨125, bRm, aXc⟩, ⟨126, bRl, aXb⟩, ⟨127, bRk, aXa⟩, ⟨128, bRj, aWZ⟩, ⟨129, bRi, aWY⟩, ⟨130, bRh, aWX⟩, ⟨131, bRg, aTP⟩, ⟨132, bRf, aWW⟩, ⟨134, bRe, bLT⟩, ⟨135, bRd, bLS⟩, ⟨136, bRc, aWV⟩, ⟨137, bRb, aWU⟩, ⟨138, bRa, aWT⟩, ⟨139, bQZ, aTO⟩, ⟨140, bQY, aTN⟩, ⟨141, bQX, aWS⟩, ⟨142, bQW, aWR⟩, ⟨143, bQV, aWQ⟩, ⟨144, bQU, aWP⟩, ⟨145, bQT, aWO⟩, ⟨146, bQS, aWN⟩, ⟨147, bQR, aJr⟩, ⟨148, bQQ, aTM⟩, ⟨150, bQP, aWM⟩, ⟨151, bQO, aWL⟩, ⟨152, bQN, aWK⟩, ⟨153, bQM, aWJ⟩, ⟨154, bQL, aWI⟩, ⟨155, bQK, aWH⟩, ⟨156, bQJ, aWG⟩, ⟨157, bQI, bLR⟩, ⟨158, bQH, bLQ⟩]
theorem bJL : sT fs1 := ⟨bKD, ⟨bKC, ⟨bKB, ⟨bKA, ⟨bKz, ⟨bKy, ⟨bKx, ⟨bKw, ⟨bKv, ⟨bKu, ⟨bKt, ⟨bKs, ⟨bKr, ⟨bKq, ⟨bKp, ⟨bFf, ⟨bFe, ⟨bFd, ⟨bFc, ⟨bFa, ⟨bEY, ⟨bEX, ⟨bEV, ⟨bEU, ⟨bET, ⟨bES, ⟨bER, ⟨bEQ, ⟨bEP, ⟨bEO, ⟨bEN, ⟨bEM, ⟨bEL, ⟨bEK, ⟨bEJ, ⟨bEI, ⟨bEH, ⟨bEG, ⟨bEF, ⟨bEE, ⟨bED, ⟨bEC, ⟨bEB, ⟨bEA, ⟨bEz, ⟨bEy, ⟨bEx, ⟨bEw, ⟨bEv, ⟨bEu, ⟨bEt, ⟨bEs, ⟨bEr, ⟨bEq, ⟨bEp, ⟨bEo, ⟨bEn, ⟨bEm, ⟨bEl, ⟨bEk, ⟨bEj, ⟨bEi, ⟨bEh, ⟨bEg, trivial⟩⟩⟩⟩⟩⟩⟩⟩⟩⟩⟩⟩⟩⟩⟩⟩⟩⟩⟩⟩⟩⟩⟩⟩⟩⟩⟩⟩⟩⟩⟩⟩⟩⟩⟩⟩⟩⟩⟩⟩⟩⟩⟩⟩⟩⟩⟩⟩⟩⟩⟩⟩⟩⟩⟩⟩⟩⟩⟩⟩⟩⟩⟩⟩
end Go.Proofs.YtmafhiogonejfaaGreatDoor
end
