/- More of the program's functions. No condition. -/
import Derived.Test.YtmafhiogonejfaaGreatDoorC0
set_option linter.unusedVariables false
noncomputable section
namespace Go.Proofs.YtmafhiogonejfaaGreatDoor
open Go.DI
variable (E : bO)
def R90 : List RV := [(.cells p8 2),(.r p9)]
def aQM (r0 r1 r2 r3 : DV) (h : H) : aU := eC r0 h λ x1 h2 => eD 2 2 (.list [.nils, (ii 0)]) h2 λ x3 h4 => vK (cT r2 (ii 0)) λ x5 => bK x5 (vK (aK 2 h4.get x1) λ x6 => wK (bU 2 x3 x6 h4) λ x7 h8 => vK (aK 2 h8.get x3) λ x9 => some ((.tup [x9, (ii 1)]), h8)) (vK (bZ r3) λ x10 => vK (eF x10 (ii 16384)) λ x11 => bE x11 false (λ kk => kk r2 h4) h4 λ x12 h13 => bE x11 false (λ kk => kk r3 h13) h13 λ x14 h15 => bE x11 false (λ kk => vK (bZ x14) λ v => kk v h15) h15 λ x16 h17 => bE x11 false (λ kk => vK (fA (ii 16384) x16) λ v => kk v h17) h17 λ x18 h19 => bE x11 false (λ kk => vK (eF x12 x18) λ v => kk v h19) h19 λ x20 h21 => vK (aX x11 (.bool true) x20) λ x22 => bK x22 (vK (aK 2 h21.get x1) λ x23 => wK (bU 2 x3 x23 h21) λ x24 h25 => vK (aK 2 h25.get x3) λ x26 => some ((.tup [x26, (ii 2)]), h25)) (vK (bV r3 (.str [])) λ x27 => bK x27 (vK (aK 2 h21.get x1) λ x28 => wK (bU 2 x3 x28 h21) λ x29 h30 => vK (aK 2 h30.get x3) λ x31 => some ((.tup [x31, (ii 0)]), h30)) (vK (aF 0 x1) λ x32 => vK (aG h21.get x32) λ x33 => vK (bR 5 x33 r1) λ x34 => vK (aF 3 x34) λ x35 => vK (aG h21.get x35) λ x36 => wK (aD E 139 [x36, r2, r3] h21) λ x37 h38 => vK (aI 0 x37) λ x39 => vK (aI 1 x37) λ x40 => vK (aK 2 h38.get x1) λ x41 => wK (aD E 132 [x41, r1, x39] h38) λ x42 h43 => vK (aI 0 x42) λ x44 => vK (aI 1 x42) λ x45 => wK (bU 2 x3 x44 h43) λ x46 h47 => vK (aK 2 h47.get x3) λ x48 => some ((.tup [x48, x45]), h47))))
def bGf : DC := (zs 8 [zY 4 (.box o0),zX (.alc 2 2 (.list [.nils,(.int .i64 (.ofNat 0))])),zX (.mv (zk 0))] (zq (.block 0 (zs 13 [zM 2,zX (.bin .lss gN (zk 0)),zT 12 14] (.cond fV (zs 9 [zY 15 (.ldN 2 o4),zW (.st 2 o8 jO),zX (.mv (zk 1))] .ret) (zs 17 [zM 3,zX (.lenS iT),zX (.bin .gtr iH (zk 16384)),zM 19,zL 20 false 2,zL 20 false 3,zG 20 false (.lenS kD),zG 20 false (.bin .sub (zk 16384) iD),zG 20 false (.bin .gtr iG iP),zX (.pick jD (.c (.bool true)) kU),zT 16 26] (.cond iC (zs 9 [zY 27 (.ldN 2 o4),zW (.st 2 o8 lD),zX (.mv (zk 2))] .ret) (zs 29 [zM 3,zX (.bin .eql mN (.c (.str []))),zT 28 30] (.cond lW (zs 9 [zY 31 (.ldN 2 o4),zW (.st 2 o8 oD),zX (.mv (zk 0))] .ret) .skip))))))) (zs 33 [zX (.fa 0 o4),zX (.ld mX),zM 1,zX (.iaS 5 mR rA),zX (.fa 3 mW),zX (.ld pA),zM 2,zM 3,zF 139 [tF,rN,qZ],zT 32 41,zX (.ext 0 lC),zX (.ext 1 lC),zT 10 42,zT 11 43] (zs 44 [zX (.ldN 2 o4),zM 1,zM 10,zF 132 [tZ,zV,xY],zX (.ext 0 o47),zX (.ext 1 o47),zW (.st 2 o8 o48),zT 9 49] .ret))))
theorem bVL : iA4 E bGf R90 (aQM E) := λ σ h => by kernel_rfl
def D90 : DF := ⟨4, 50, bGf, R90⟩
def S90 : cE := fA4 (aQM E)
theorem bJr : SQ D90 S90 := λ E => eA4 (d := D90) (bVL E) rfl
def R92 : List RV := [(.r p8)]
def aQL (r0 r1 r2 r3 : DV) (h : H) : aU := vK (cT r2 (ii 0)) λ x1 => bK x1 (some ((ii 1), h)) (vK (bZ r3) λ x2 => vK (eF x2 (ii 16384)) λ x3 => bE x3 false (λ kk => kk r2 h) h λ x4 h5 => bE x3 false (λ kk => kk r3 h5) h5 λ x6 h7 => bE x3 false (λ kk => vK (bZ x6) λ v => kk v h7) h7 λ x8 h9 => bE x3 false (λ kk => vK (fA (ii 16384) x8) λ v => kk v h9) h9 λ x10 h11 => bE x3 false (λ kk => vK (eF x4 x10) λ v => kk v h11) h11 λ x12 h13 => vK (aX x3 (.bool true) x12) λ x14 => bK x14 (some ((ii 2), h13)) (vK (bV r3 (.str [])) λ x15 => bK x15 (some ((ii 0), h13)) (vK (aL r1) λ x16 => vK (aF 0 x16) λ x17 => vK (aG h13.get x17) λ x18 => wK (aD E 140 [x18, r2, r3] h13) λ x19 h20 => vK (aI 0 x19) λ x21 => vK (aI 1 x19) λ x22 => wK (aD E 102 [r0, r1, x21] h20) λ x23 h24 => some (x23, h24))))
def bGe : DC := (zs 8 [zX (.mv (zk 0))] (zq (.block 0 (zs 12 [zM 2,zX (.bin .lss fV (zk 0)),zT 11 13] (.cond gE (zs 8 [zX (.mv (zk 1))] .ret) (zs 15 [zM 3,zX (.lenS jO),zX (.bin .gtr iC (zk 16384)),zM 17,zL 18 false 2,zL 18 false 3,zG 18 false (.lenS jD),zG 18 false (.bin .sub (zk 16384) iG),zG 18 false (.bin .gtr iQ kD),zX (.pick iH (.c (.bool true)) iD),zT 14 24] (.cond iU (zs 8 [zX (.mv (zk 2))] .ret) (zs 26 [zM 3,zX (.bin .eql lY (.c (.str []))),zT 25 27] (.cond kU (zs 8 [zX (.mv (zk 0))] .ret) .skip))))))) (zs 29 [zM 1,zX (.nilchk mN),zX (.fa 0 mD),zX (.ld oD),zM 2,zM 3,zF 140 [lC,mX,mR],zT 28 35,zX (.ext 0 lW),zX (.ext 1 lW),zT 9 36,zT 10 37] (zs 38 [zM 0,zM 1,zM 9,zF 102 [tF,rN,qZ],zT 8 41] .ret))))
theorem bVK : iA4 E bGe R92 (aQL E) := λ σ h => by kernel_rfl
def D92 : DF := ⟨4, 42, bGe, R92⟩
def S92 : cE := fA4 (aQL E)
theorem bJq : SQ D92 S92 := λ E => eA4 (d := D92) (bVK E) rfl
def R94 : List RV := [(.r p6)]
def aQK (r0 r1 r2 : DV) (h : H) : aU := wK (aD E 95 [r0, r1] h) λ x1 h2 => vK (aI 0 x1) λ x3 => vK (aI 1 x1) λ x4 => eD 2 2 (.list [.nilp, (.str [])]) h2 λ x5 h6 => wK (bU 2 x5 x3 h6) λ x7 h8 => vK (dD x4 (ii 0)) λ x9 => bK x9 (some (x4, h8)) (vK (aK 2 h8.get x5) λ x10 => wK (aD E 99 [x10] h8) λ x11 h12 => bK x11 (some ((ii 6), h12)) (wK (aD E 141 [r0] h12) λ x13 h14 => vK (bV x13 (ii 0)) λ x15 => bK x15 (some ((ii 5), h14)) (vK (aL r0) λ x16 => vK (aF 512 x16) λ x17 => vK (aG h14.get x17) λ x18 => vK (bJ x18 (ii 1)) λ x19 => vK (aL r0) λ x20 => vK (aF 512 x20) λ x21 => wK (bU 1 x21 x19 h14) λ x22 h23 => vK (aL r0) λ x24 => vK (aF 512 x24) λ x25 => vK (aG h23.get x25) λ x26 => vK (eI [(ii 0), .nili] [(0, 1, x26), (1, 1, r2)]) λ x27 => vK (aL r0) λ x28 => vK (aF 0 x28) λ x29 => vK (lO 256 2 x29 x13) λ x30 => wK (bU 2 x30 x27 h23) λ x31 h32 => vK (aF 0 x5) λ x33 => vK (aG h32.get x33) λ x34 => vK (aF 1 x5) λ x35 => vK (aG h32.get x35) λ x36 => wK (aD E 100 [x34, x36, x13] h32) λ x37 h38 => some ((ii 0), h38))))
def bGd : DC := (zs 6 [zX (.mv (zk 0))] (zs 11 [zM 0,zM 1,zF 95 [gE,fV],zT 10 13,zX (.ext 0 fS),zX (.ext 1 fS),zY 7 (.alc 2 2 (.list [.nilp,(.str [])])),zW (.st 2 o7 iU),zT 8 15] (zq (zs 16 [zM 8,zX (.bin .neq iC (zk 0))] (.cond iT (zs 6 [zT 18 8,zM 18] .ret) .skip)) (zq (zs 19 [zX (.ldN 2 o7),zF 99 [iQ]] (.cond jD (zs 6 [zX (.mv (zk 6))] .ret) .skip)) (zs 21 [zM 0,zF 141 [iG],zT 9 22] (zq (zs 23 [zM 9,zX (.bin .eql iD (zk 0))] (.cond iP (zs 6 [zX (.mv (zk 5))] .ret) .skip)) (zs 25 [zM 0,zX (.nilchk kU),zX (.fa 512 lY),zX (.ld lD),zX (.bin .add lW (zk 1)),zX (.nilchk kU),zX (.fa 512 mD),zW (.st 1 oD mN)] (zq (zd 32 [yA 0 (zM 0),yA 1 (zM 9),yA 2 (zM 0),yA 3 (zX (.nilchk mR)),yA 4 (zX (.fa 512 rA)),yA 5 (zX (.ld mW)),yA 6 (zM 2),yA 7 (zX (.bld [(.int .i64 (.ofNat 0)),.nili] [(0,1,pA),(1,1,tF)])),yA 8 (zX (.nilchk lC)),yA 9 (zX (.fa 0 qZ)),yA 10 (zX (.iaA 256 2 wO mX)),yA 11 (zW (.st 2 uC rN))]) (zs 43 [zX (.fa 0 o7),zX (.ld uB),zX (.fa 1 o7),zX (.ld zV),zM 9,zF 100 [tZ,xY,o47]] (zs 6 [zX (.mv (zk 0))] .ret))))))))))
theorem bVJ : iA3 E bGd R94 (aQK E) := λ σ h => by kernel_rfl
def D94 : DF := ⟨3, 49, bGd, R94⟩
def S94 : cE := fA3 (aQK E)
theorem bJp : SQ D94 S94 := λ E => eA3 (d := D94) (bVJ E) rfl
def R95 : List RV := [(.cells p4 2),(.r p5)]
def aQJ (r0 r1 : DV) (h : H) : aU := eD 2 2 (.list [.nilp, (.str [])]) h λ x1 h2 => vK (dT .ptr false h2.get r0 .nilp) λ x3 => bK x3 (vK (eI [.nilp, (.str [])] []) λ x4 => wK (bU 2 x1 x4 h2) λ x5 h6 => vK (aK 2 h6.get x1) λ x7 => some ((.tup [x7, (ii 1)]), h6)) (wK (aD E 137 [r1] h2) λ x8 h9 => vK (aI 0 x8) λ x10 => vK (aI 1 x8) λ x11 => vK (dD x11 (ii 0)) λ x12 => bE x12 false (λ kk => kk x10 h9) h9 λ x13 h14 => bE x12 false (λ kk => vK (bX x13) λ v => kk v h14) h14 λ x15 h16 => bE x12 false (λ kk => vK (bV x15 (ii 0)) λ v => kk v h16) h16 λ x17 h18 => vK (aX x12 (.bool true) x17) λ x19 => bK x19 (vK (eI [.nilp, (.str [])] []) λ x20 => wK (bU 2 x1 x20 h18) λ x21 h22 => vK (aK 2 h22.get x1) λ x23 => some ((.tup [x23, (ii 15)]), h22)) (vK (bX x10) λ x24 => vK (fA x24 (ii 1)) λ x25 => vK (dK 1 x10 none (some x25)) λ x26 => wK (aD E 138 [r0, x26] h18) λ x27 h28 => vK (aI 0 x27) λ x29 => vK (aI 1 x27) λ x30 => vK (dD x30 (ii 0)) λ x31 => bK x31 (vK (eI [.nilp, (.str [])] []) λ x32 => wK (bU 2 x1 x32 h28) λ x33 h34 => vK (aK 2 h34.get x1) λ x35 => some ((.tup [x35, x30]), h34)) (wK (aD E 87 [r0, x29] h28) λ x36 h37 => vK (dT .ptr false h37.get x36 .nilp) λ x38 => bK x38 (vK (eI [.nilp, (.str [])] []) λ x39 => wK (bU 2 x1 x39 h37) λ x40 h41 => vK (aK 2 h41.get x1) λ x42 => some ((.tup [x42, (ii 13)]), h41)) (vK (bR 1 x10 x25) λ x43 => vK (aG h37.get x43) λ x44 => vK (eI [.nilp, (.str [])] [(0, 1, x36), (1, 1, x44)]) λ x45 => wK (bU 2 x1 x45 h37) λ x46 h47 => vK (aK 2 h47.get x1) λ x48 => some ((.tup [x48, (ii 0)]), h47)))))
def bGc : DC := (zs 4 [zX (.alc 2 2 (.list [.nilp,(.str [])])),zX (.mv (zk 0))] (zq (zs 11 [zM 0,zX (.eqv .ptr false gE (.c .nilp))] (.cond fV (zs 5 [zY 13 (.bld [.nilp,(.str [])] []),zW (.st 2 o4 gN),zX (.mv (zk 1))] .ret) .skip)) (zs 15 [zM 1,zF 137 [jO],zT 14 16,zX (.ext 0 iU),zX (.ext 1 iU),zT 6 17,zT 7 18] (zq (zs 19 [zM 7,zX (.bin .neq iQ (zk 0)),zM 20,zL 21 false 6,zG 21 false (.lenL kD),zG 21 false (.bin .eql iD (zk 0)),zX (.pick iG (.c (.bool true)) iP)] (.cond kU (zs 5 [zY 26 (.bld [.nilp,(.str [])] []),zW (.st 2 o4 lY),zX (.mv (zk 15))] .ret) .skip)) (zs 27 [zM 6,zX (.lenL lD),zX (.bin .sub lW (zk 1)),zT 8 29] (zs 31 [zM 0,zM 6,zM 8,zX (.slL 1 lC none (some mX)),zF 138 [oD,mR],zT 30 35,zX (.ext 0 mD),zX (.ext 1 mD),zT 9 36,zT 7 37] (zq (zs 38 [zM 7,zX (.bin .neq tF (zk 0))] (.cond rN (zs 40 [zX (.bld [.nilp,(.str [])] []),zM 7,zW (.st 2 o4 qZ),zT 5 41] .ret) .skip)) (zs 42 [zM 0,zM 9,zF 87 [uC,uB],zT 10 44] (zq (zs 45 [zM 10,zX (.eqv .ptr false zV (.c .nilp))] (.cond xY (zs 5 [zY 47 (.bld [.nilp,(.str [])] []),zW (.st 2 o4 o47),zX (.mv (zk 13))] .ret) .skip)) (zs 48 [zM 10,zM 6,zM 8,zX (.iaS 1 o49 o50),zX (.ld o51),zX (.bld [.nilp,(.str [])] [(0,1,o48),(1,1,o52)]),zW (.st 2 o4 o53),zY 5 (.mv (zk 0))] .ret))))))))))
theorem bVI : nK E bGc R95 (aQJ E) := λ σ h => by kernel_rfl
def D95 : DF := ⟨2, 54, bGc, R95⟩
def S95 : cE := nL (aQJ E)
theorem bJo : SQ D95 S95 := λ E => nY (d := D95) (bVI E) rfl
def R96 : List RV := [(.r p4),(.r p5)]
def aQI (r0 r1 : DV) (h : H) : aU := vK (dT .ptr false h.get r0 .nilp) λ x1 => bK x1 (some ((.tup [(ii 0), (ii 1)]), h)) (wK (aD E 142 [r0, r1] h) λ x2 h3 => vK (aI 0 x2) λ x4 => vK (aI 1 x2) λ x5 => vK (kT x5) λ x6 => bK x6 (some ((.tup [(ii 0), (ii 7)]), h3)) (vK (aL r0) λ x7 => vK (aF 0 x7) λ x8 => vK (aG h3.get x8) λ x9 => vK (bR 2 x9 x4) λ x10 => vK (aF 1 x10) λ x11 => vK (aG h3.get x11) λ x12 => vK (aL r0) λ x13 => vK (aF 0 x13) λ x14 => vK (aG h3.get x14) λ x15 => vK (bJ x4 (ii 1)) λ x16 => wK (aD E 143 [x15, x4, x16] h3) λ x17 h18 => vK (aL r0) λ x19 => vK (aF 0 x19) λ x20 => wK (bU 1 x20 x17 h18) λ x21 h22 => some ((.tup [x12, (ii 0)]), h22)))
def bGb : DC := (zs 4 [zX (.mv (zk 0)),zX (.mv (zk 0))] (zq (zs 9 [zM 0,zX (.eqv .ptr false o9 (.c .nilp))] (.cond fS (zs 4 [zX (.mv (zk 0)),zX (.mv (zk 1))] .ret) .skip)) (zs 12 [zM 0,zM 1,zF 142 [fV,gN],zT 11 14,zX (.ext 0 gE),zX (.ext 1 gE),zT 6 15,zT 7 16] (zq (zs 17 [zM 7,zX (.not iT)] (.cond iH (zs 4 [zX (.mv (zk 0)),zX (.mv (zk 7))] .ret) .skip)) (zs 19 [zM 0,zX (.nilchk iQ),zX (.fa 0 jD),zX (.ld iG),zM 6,zX (.iaS 2 kD iD),zX (.fa 1 iP),zX (.ld kU),zT 8 26] (zs 27 [zM 0,zM 0,zX (.nilchk lW),zX (.fa 0 mN),zX (.ld mD),zM 6,zM 6,zX (.bin .add mX (zk 1)),zF 143 [oD,lC,mR],zX (.nilchk lD),zX (.fa 0 mW),zW (.st 1 pA rA)] (zs 4 [zT 38 8,zM 38,zX (.mv (zk 0))] .ret)))))))
theorem bVH : nK E bGb R96 (aQI E) := λ σ h => by kernel_rfl
def D96 : DF := ⟨2, 39, bGb, R96⟩
def S96 : cE := nL (aQI E)
theorem bJn : SQ D96 S96 := λ E => nY (d := D96) (bVH E) rfl
def R97 : List RV := [(.r p2)]
def aQH (E : bO) (r0 : DV) (h : H) : aU := vK (dT .ptr false h.get r0 .nilp) λ x1 => bK x1 (some ((ii 0), h)) (vK (aL r0) λ x2 => vK (aF 0 x2) λ x3 => vK (aG h.get x3) λ x4 => vK (bX x4) λ x5 => some (x5, h))
def bGa : DC := (zs 2 [zX (.mv (zk 0))] (zq (zs 3 [zM 0,zX (.eqv .ptr false o3 (.c .nilp))] (.cond o4 (zs 2 [zX (.mv (zk 0))] .ret) .skip)) (zs 5 [zM 0,zX (.nilchk o5),zX (.fa 0 o6),zX (.ld o7),zX (.lenL o8),zT 2 9] .ret)))
theorem bVG : oE E bGa R97 (aQH E) := λ σ h => by kernel_rfl
def D97 : DF := ⟨1, 10, bGa, R97⟩
def S97 : cE := oF (aQH E)
theorem bJm : SQ D97 S97 := λ E => oJ (d := D97) (bVG E) rfl
def R98 : List RV := [(.r p4)]
def aQG (r0 r1 : DV) (h : H) : aU := wK (aD E 137 [r0] h) λ x1 h2 => vK (aI 0 x1) λ x3 => vK (aI 1 x1) λ x4 => wK (aD E 137 [r1] h2) λ x5 h6 => vK (aI 0 x5) λ x7 => vK (aI 1 x5) λ x8 => vK (bV x4 (ii 0)) λ x9 => bE x9 true (λ kk => kk x8 h6) h6 λ x10 h11 => bE x9 true (λ kk => vK (bV x10 (ii 0)) λ v => kk v h11) h11 λ x12 h13 => vK (aX x9 x12 (.bool false)) λ x14 => bE x14 true (λ kk => kk x7 h13) h13 λ x15 h16 => bE x14 true (λ kk => vK (bX x15) λ v => kk v h16) h16 λ x17 h18 => bE x14 true (λ kk => kk x3 h18) h18 λ x19 h20 => bE x14 true (λ kk => vK (bX x19) λ v => kk v h20) h20 λ x21 h22 => bE x14 true (λ kk => vK (eF x17 x21) λ v => kk v h22) h22 λ x23 h24 => vK (aX x14 x23 (.bool false)) λ x25 => bE x25 true (λ kk => kk x3 h24) h24 λ x26 h27 => bE x25 true (λ kk => kk x7 h27) h27 λ x28 h29 => bE x25 true (λ kk => kk x3 h29) h29 λ x30 h31 => bE x25 true (λ kk => vK (bX x30) λ v => kk v h31) h31 λ x32 h33 => bE x25 true (λ kk => vK (dK 1 x28 none (some x32)) λ v => kk v h33) h33 λ x34 h35 => bE x25 true (λ kk => wK (aD E 144 [x26, x34] h35) kk) h35 λ x36 h37 => vK (aX x25 x36 (.bool false)) λ x38 => some (x38, h37)
def bFZ : DC := (zs 4 [zX (.mv (.c (.bool false)))] (zs 10 [zM 0,zF 137 [fS],zT 9 11,zX (.ext 0 o9),zX (.ext 1 o9),zT 5 12,zT 6 13] (zs 15 [zM 1,zF 137 [jO],zT 14 16,zX (.ext 0 iU),zX (.ext 1 iU),zT 7 17,zT 8 18] (zs 19 [zM 6,zX (.bin .eql iQ (zk 0)),zM 20,zL 21 true 8,zG 21 true (.bin .eql kD (zk 0)),zX (.pick iG iD (.c (.bool false))),zM 24,zL 25 true 7,zG 25 true (.lenL lY),zL 25 true 5,zG 25 true (.lenL lW),zG 25 true (.bin .gtr lD mN),zX (.pick kU mD (.c (.bool false))),zM 31,zL 32 true 5,zL 32 true 7,zL 32 true 5,zG 32 true (.lenL rA),zG 32 true (.slL 1 mR none (some mW)),zD ⟨(some p38),(some (p32,true)),(.c (.f 144 [mX,pA]))⟩,zY 39 (.pick lC tF (.c (.bool false))),zT 4 39] .ret))))
theorem bVF : nK E bFZ R98 (aQG E) := λ σ h => by kernel_rfl
def D98 : DF := ⟨2, 40, bFZ, R98⟩
def S98 : cE := nL (aQG E)
theorem bJl : SQ D98 S98 := λ E => nY (d := D98) (bVF E) rfl
def R99 : List RV := [(.r p2)]
def aQF (r0 : DV) (h : H) : aU := eC r0 h λ x1 h2 => vK (aF 0 x1) λ x3 => vK (aG h2.get x3) λ x4 => vK (aF 1 x1) λ x5 => vK (aG h2.get x5) λ x6 => wK (aD E 145 [x4, x6] h2) λ x7 h8 => vK (aI 0 x7) λ x9 => vK (aI 1 x7) λ x10 => vK (bV x10 (ii 0)) λ x11 => some (x11, h8)
def bFY : DC := (zs 1 [zX (.box o0),zX (.mv (.c (.bool false)))] (zs 6 [zX (.fa 0 o1),zX (.ld o6),zX (.fa 1 o1),zX (.ld o8),zF 145 [o7,o9],zT 5 10,zX (.ext 0 o5),zX (.ext 1 o5),zT 3 11,zT 4 12] (zs 13 [zM 4,zX (.bin .eql gN (zk 0)),zT 2 14] .ret)))
theorem bVE : oE E bFY R99 (aQF E) := λ σ h => by kernel_rfl
def D99 : DF := ⟨1, 15, bFY, R99⟩
def S99 : cE := oF (aQF E)
theorem bJk : SQ D99 S99 := λ E => oJ (d := D99) (bVE E) rfl
def R100 : List RV := [(.r p6)]
def aJX (r0 r1 r2 : DV) (h : H) : aU := vK (dT .ptr false h.get r0 .nilp) λ x1 => bE x1 false (λ kk => kk r2 h) h λ x2 h3 => bE x1 false (λ kk => vK (cT x2 (ii 1)) λ v => kk v h3) h3 λ x4 h5 => vK (aX x1 (.bool true) x4) λ x6 => bE x6 false (λ kk => kk r2 h5) h5 λ x7 h8 => bE x6 false (λ kk => vK (nO x7 (ii 256)) λ v => kk v h8) h8 λ x9 h10 => vK (aX x6 (.bool true) x9) λ x11 => bK x11 (some ((ii 1), h10)) (wK (aD E 146 [r1] h10) λ x12 h13 => vK (kT x12) λ x14 => bK x14 (some ((ii 15), h13)) (wK (aD E 142 [r0, r1] h13) λ x15 h16 => vK (aI 0 x15) λ x17 => vK (aI 1 x15) λ x18 => bK x18 (some ((ii 6), h16)) (vK (aL r0) λ x19 => vK (aF 0 x19) λ x20 => vK (aG h16.get x20) λ x21 => vK (eI [(.str []), (ii 0)] [(0, 1, r1), (1, 1, r2)]) λ x22 => gO 1 2 [(.str []), (ii 0)] [(0, 2, x22)] h16 λ x23 h24 => wK (aD E 147 [x21, x17, x23] h24) λ x25 h26 => vK (aL r0) λ x27 => vK (aF 0 x27) λ x28 => wK (bU 1 x28 x25 h26) λ x29 h30 => some ((ii 0), h30))))
def bAI : DC := (zs 6 [zX (.mv (zk 0))] (zq (.block 0 (zs 10 [zM 0,zX (.eqv .ptr false fS (.c .nilp)),zM 11,zL 12 false 2,zG 12 false (.bin .lss gN (zk 1)),zX (.pick fV (.c (.bool true)) iU),zM 15,zL 16 false 2,zG 16 false (.bin .geq iT (zk 256)),zX (.pick iC (.c (.bool true)) iH),zT 9 19] (.cond o9 (zs 6 [zX (.mv (zk 1))] .ret) (zs 21 [zM 1,zF 146 [iG],zX (.not kD),zT 20 23] (.cond jD (zs 6 [zX (.mv (zk 15))] .ret) .skip))))) (zs 25 [zM 0,zM 1,zF 142 [kU,lY],zT 24 27,zX (.ext 0 iP),zX (.ext 1 iP),zT 7 28,zT 8 29] (zq (zs 30 [zM 8] (.cond mD (zs 6 [zX (.mv (zk 6))] .ret) .skip)) (zs 31 [zM 0,zM 0,zX (.nilchk lC),zX (.fa 0 mX),zX (.ld mR),zM 7,zM 1,zM 2,zX (.bld [(.str []),(.int .i64 (.ofNat 0))] [(0,1,pA),(1,1,tF)]),zX (.bsl 1 2 [(.str []),(.int .i64 (.ofNat 0))] [(0,2,rN)]),zF 147 [rA,mW,qZ],zX (.nilchk oD),zX (.fa 0 uC),zW (.st 1 uB wO)] (zs 6 [zX (.mv (zk 0))] .ret))))))
theorem bOB : iA3 E bAI R100 (aJX E) := λ σ h => by kernel_rfl
def bQp : DF := ⟨3, 44, bAI, R100⟩
def aWt : cE := fA3 (aJX E)
theorem bEi : SQ bQp aWt := λ E => eA3 (d := bQp) (bOB E) rfl
def R101 : List RV := [(.r p4),(.r p5)]
def aCp (r0 r1 : DV) (h : H) : aU := vK (cT r1 (ii 0)) λ x1 => bE x1 false (λ kk => kk r1 h) h λ x2 h3 => bE x1 false (λ kk => vK (eF x2 (ii 65536)) λ v => kk v h3) h3 λ x4 h5 => vK (aX x1 (.bool true) x4) λ x6 => bK x6 (some ((.tup [(.str []), (ii 1)]), h5)) (vK (bZ r0) λ x7 => vK (eF x7 r1) λ x8 => bK x8 (some ((.tup [(.str []), (ii 2)]), h5)) (vK (bZ r0) λ x9 => vK (fA r1 x9) λ x10 => wK (aD E 148 [x10] h5) λ x11 h12 => vK (bJ r0 x11) λ x13 => some ((.tup [x13, (ii 0)]), h12)))
def bAH : DC := (zs 4 [zX (.mv (.c (.str []))),zX (.mv (zk 0))] (zq (.block 0 (zs 7 [zM 1,zX (.bin .lss o7 (zk 0)),zM 8,zL 9 false 1,zG 9 false (.bin .gtr fS (zk 65536)),zX (.pick o9 (.c (.bool true)) gE),zT 6 12] (.cond o6 (zs 4 [zX (.mv (.c (.str []))),zX (.mv (zk 1))] .ret) (zs 14 [zM 0,zX (.lenS iU),zM 1,zX (.bin .gtr jO iC),zT 13 17] (.cond gN (zs 4 [zX (.mv (.c (.str []))),zX (.mv (zk 2))] .ret) .skip))))) (zs 18 [zM 0,zM 1,zM 0,zX (.lenS jD),zX (.bin .sub iQ iG),zF 148 [kD],zX (.bin .add iH iD),zT 4 24,zY 5 (.mv (zk 0))] .ret)))
theorem bOA : nK E bAH R101 (aCp E) := λ σ h => by kernel_rfl
def bQo : DF := ⟨2, 25, bAH, R101⟩
def aSZ : cE := nL (aCp E)
theorem bEh : SQ bQo aSZ := λ E => nY (d := bQo) (bOA E) rfl
def R102 : List RV := [(.r p6)]
def aJW (E : bO) (r0 r1 r2 : DV) (h : H) : aU := vK (aL r0) λ x1 => vK (aF 513 x1) λ x2 => vK (aG h.get x2) λ x3 => vK (aL r1) λ x4 => vK (aF 0 x4) λ x5 => vK (aG h.get x5) λ x6 => vK (bZ x6) λ x7 => vK (fA x3 x7) λ x8 => vK (bZ r2) λ x9 => vK (bJ x8 x9) λ x10 => vK (eF x10 (ii 65536)) λ x11 => bK x11 (some ((ii 5), h)) (vK (aL r0) λ x12 => vK (aF 513 x12) λ x13 => vK (aG h.get x13) λ x14 => vK (bZ r2) λ x15 => vK (aL r1) λ x16 => vK (aF 0 x16) λ x17 => vK (aG h.get x17) λ x18 => vK (bZ x18) λ x19 => vK (fA x15 x19) λ x20 => vK (bJ x14 x20) λ x21 => vK (aL r0) λ x22 => vK (aF 513 x22) λ x23 => wK (bU 1 x23 x21 h) λ x24 h25 => vK (aL r1) λ x26 => vK (aF 0 x26) λ x27 => wK (bU 1 x27 r2 h25) λ x28 h29 => some ((ii 0), h29))
def bAG : DC := (zs 6 [zX (.mv (zk 0))] (zq (zq (zd 7 [yA 0 (zM 0),yA 1 (zX (.nilchk o7)),yA 2 (zX (.fa 513 o8)),yA 3 (zX (.ld o9)),yA 4 (zM 1),yA 5 (zX (.nilchk gE)),yA 6 (zX (.fa 0 fV)),yA 7 (zX (.ld gN)),yA 8 (zX (.lenS iU)),yA 9 (zX (.bin .sub fS jO)),yA 10 (zM 2),yA 11 (zX (.lenS iT)),yA 12 (zX (.bin .add iC iH)),yA 13 (zX (.bin .gtr iQ (zk 65536)))]) (.cond jD (zs 6 [zX (.mv (zk 5))] .ret) .skip)) (zq (zd 21 [yA 0 (zM 0),yA 1 (zX (.nilchk iG)),yA 2 (zX (.fa 513 kD)),yA 3 (zX (.ld iD)),yA 4 (zM 2),yA 5 (zX (.lenS kU)),yA 6 (zM 1),yA 7 (zX (.nilchk lD)),yA 8 (zX (.fa 0 lW)),yA 9 (zX (.ld mN)),yA 10 (zX (.lenS mD)),yA 11 (zX (.bin .sub lY oD)),yA 12 (zX (.bin .add iP lC)),yA 13 (zX (.nilchk iG)),yA 14 (zX (.fa 513 mR)),yA 15 (zW (.st 1 rA mX))]) (zs 36 [zM 1,zM 2,zX (.nilchk mW),zX (.fa 0 tF),zW (.st 1 rN pA)] (zs 6 [zX (.mv (zk 0))] .ret)))))
theorem bOz : iA3 E bAG R102 (aJW E) := λ σ h => by kernel_rfl
def bQn : DF := ⟨3, 40, bAG, R102⟩
def aWs : cE := fA3 (aJW E)
theorem bEg : SQ bQn aWs := λ E => eA3 (d := bQn) (bOz E) rfl
def R103 : List RV := []
def aJV (r0 r1 : DV) (h : H) : aU := vK (dT .ptr false h.get r0 .nilp) λ x1 => bE x1 false (λ kk => kk r0 h) h λ x2 h3 => bE x1 false (λ kk => vK (aL x2) λ v => kk v h3) h3 λ x4 h5 => bE x1 false (λ kk => vK (aF 2 x4) λ v => kk v h5) h5 λ x6 h7 => bE x1 false (λ kk => vK (aG h7.get x6) λ v => kk v h7) h7 λ x8 h9 => bE x1 false (λ kk => vK (dD x8 (ii 0)) λ v => kk v h9) h9 λ x10 h11 => vK (aX x1 (.bool true) x10) λ x12 => bK x12 (some ((.tup []), h11)) (vK (aL r0) λ x13 => vK (aF 1 x13) λ x14 => vK (aG h11.get x14) λ x15 => vK (aL r0) λ x16 => vK (aF 1 x16) λ x17 => vK (aG h11.get x17) λ x18 => vK (bX x18) λ x19 => vK (aL r0) λ x20 => vK (aF 1 x20) λ x21 => vK (aG h11.get x21) λ x22 => vK (bX x22) λ x23 => vK (xS 1 x15 none x19 x23) λ x24 => wK (oN E r1 [x24] h11) λ x25 h26 => vK (bX x25) λ x27 => vK (aL r0) λ x28 => vK (aF 0 x28) λ x29 => vK (aG h26.get x29) λ x30 => vK (eF x27 x30) λ x31 => bK x31 (vK (aL r0) λ x32 => vK (aF 2 x32) λ x33 => wK (bU 1 x33 (ii 2) h26) λ x34 h35 => some ((.tup []), h35)) (vK (aL r0) λ x36 => vK (aF 1 x36) λ x37 => wK (bU 1 x37 x25 h26) λ x38 h39 => some ((.tup []), h39)))
def bAF : DC := (zq (zs 5 [zM 0,zX (.eqv .ptr false o5 (.c .nilp)),zM 6,zL 7 false 0,zG 7 false (.nilchk o8),zG 7 false (.fa 2 o9),zG 7 false (.ld fS),zG 7 false (.bin .neq gE (zk 0)),zX (.pick o7 (.c (.bool true)) fV)] (.cond gN .ret .skip)) (zq (zd 14 [yA 0 (zM 1),yA 1 (zM 0),yA 2 (zX (.nilchk jO)),yA 3 (zX (.fa 1 iC)),yA 4 (zX (.ld iT)),yA 5 (zM 0),yA 6 (zX (.nilchk iQ)),yA 7 (zX (.fa 1 jD)),yA 8 (zX (.ld iG)),yA 9 (zX (.lenL kD)),yA 10 (zM 0),yA 11 (zX (.nilchk iP)),yA 12 (zX (.fa 1 kU)),yA 13 (zX (.ld lY)),yA 14 (zX (.lenL lD)),yA 15 (zX (.slM 1 iH none iD lW)),yA 16 (zD ⟨(some p30),none,(.c (.v iU [mN]))⟩),yA 17 (zT 4 30)]) (zq (zs 31 [zM 4,zX (.lenL oD),zM 0,zX (.nilchk mX),zX (.fa 0 mR),zX (.ld rA),zX (.bin .gtr lC mW)] (.cond pA (zs 38 [zM 0,zX (.nilchk tF),zX (.fa 2 rN),zW (.st 1 qZ (zk 2))] .ret) .skip)) (zr 41 [zM 0,zM 4,zX (.nilchk wO),zX (.fa 1 uB),zW (.st 1 tZ uC)]))))
theorem bOy : nK E bAF R103 (aJV E) := λ σ h => by kernel_rfl
def bQm : DF := ⟨2, 45, bAF, R103⟩
def aOw : cE := nL (aJV E)
theorem bEf : SQ bQm aOw := λ E => nY (d := bQm) (bOy E) rfl
def R104 : List RV := [(.r p3)]
def aJU (E : bO) (r0 r1 : DV) (h : H) : aU := vK (aG h.get r1) λ x1 => vK (fB .u8 x1) λ x2 => gO 1 1 [(.int .u8 (.ofNat 0))] [(0, 1, x2)] h λ x3 h4 => wK (cA 1 1 r0 x3 h4) λ x5 h6 => some (x5, h6)
def bAE : DC := (zs 3 [zX (.mv (.c .nils))] (zs 4 [zM 0,zX (.ld o1),zX (.conv .u8 o5),zX (.bsl 1 1 [(.int .u8 (.ofNat 0))] [(0,1,o6)]),zD ⟨(some p8),none,(.w (.app 1 1 o4 o7))⟩,zT 3 8] .ret))
theorem bOx : nK E bAE R104 (aJU E) := λ σ h => by kernel_rfl
def bQl : DF := ⟨2, 9, bAE, R104⟩
def bEe : cE := nL (aJU E)
theorem bEd : SQ bQl bEe := λ E => nY (d := bQl) (bOx E) rfl
def R105 : List RV := [(.r p3)]
def aJT (r0 r1 : DV) (h : H) : aU := vK (aG h.get r1) λ x1 => wK (aD E 106 [r0, x1] h) λ x2 h3 => some (x2, h3)
def bAD : DC := (zs 3 [zX (.mv (.c .nils))] (zs 4 [zM 0,zX (.ld o1),zF 106 [o4,o5],zT 3 6] .ret))
theorem bOw : nK E bAD R105 (aJT E) := λ σ h => by kernel_rfl
def bQk : DF := ⟨2, 7, bAD, R105⟩
def bEc : cE := nL (aJT E)
theorem bEb : SQ bQk bEc := λ E => nY (d := bQk) (bOw E) rfl
def bEF : List RV := [(.r p4)]
def aFs (E : bO) (r0 r5 : DV) (h : H) : aU := vK (fB .u8 r5) λ x1 => gO 1 1 [(.int .u8 (.ofNat 0))] [(0, 1, x1)] h λ x2 h3 => wK (cA 1 1 r0 x2 h3) λ x4 h5 => some (x4, h5)
def bAB : DC := (zs 23 [zM 0,zM 5,zX (.conv .u8 iP),zX (.bsl 1 1 [(.int .u8 (.ofNat 0))] [(0,1,kU)]),zD ⟨(some p27),none,(.w (.app 1 1 iD lY))⟩,zT 4 27] .ret)
def aFP (i2 : DV → DV → H → aU) (r0 r5 : DV) (h : H) : aU := vK (nO r5 (.int .u64 (.ofNat 128))) λ x1 => bK x1 (vK (fB .u8 r5) λ x2 => vK (aRO x2 (.int .u8 (.ofNat 128))) λ x3 => gO 1 1 [(.int .u8 (.ofNat 0))] [(0, 1, x3)] h λ x4 h5 => wK (cA 1 1 r0 x4 h5) λ x6 h7 => vK (xT r5 (.int .u64 (.ofNat 7))) λ x8 => i2 x6 x8 h7) (aFs E r0 r5 h)
def aCl (n : Nat) : DV → DV → H → aU := Nat.rec (motive := λ _ => DV → DV → H → aU) (λ _ _ _ => none) (λ _ i => aFP E i) n
def bAA : DC := (.loop (zq (zs 13 [zM 5,zX (.bin .geq gN (.c (.int .u64 (.ofNat 128))))] (.cond iU .skip (.exit 0))) (zq (.block 1 (zr 17 [zM 0,zM 5,zX (.conv .u8 iH),zX (.bin .or iQ (.c (.int .u8 (.ofNat 128)))),zX (.bsl 1 1 [(.int .u8 (.ofNat 0))] [(0,1,jD)]),zD ⟨(some p22),none,(.w (.app 1 1 iT iG))⟩,zT 0 22])) (zr 15 [zM 5,zX (.bin .shr jO (.c (.int .u64 (.ofNat 7)))),zT 5 16]))))
def aJS (r0 r1 : DV) (h : H) : aU := vK (fB .u64 r1) λ x1 => vK (aDK x1 (.int .u64 (.ofNat 1))) λ x2 => vK (xT r1 (.int .u64 (.ofNat 63))) λ x3 => vK (fB .u64 x3) λ x4 => vK (aDJ x2 x4) λ x5 => aCl E aR r0 x5 h
def bAC : DC := (zs 4 [zX (.mv (.c .nils))] (zs 6 [zM 1,zX (.conv .u64 o6),zX (.bin .shl o7 (.c (.int .u64 (.ofNat 1)))),zM 1,zX (.bin .shr o9 (.c (.int .u64 (.ofNat 63)))),zX (.conv .u64 fS),zX (.bin .xor o8 gE),zT 5 12] (zq (.block 0 bAA) bAB)))
theorem bOu : Is E bAB (bN bEF) (λ σ h => aFs E (σ p0) (σ p5) h) := λ σ h => by kernel_rfl
abbrev bLv : gS (DV × H) := (cF (λ σ h => aFs E (σ p0) (σ p5) h) (bN bEF))
theorem bOt : Is E bAA (bL 0 (bLv E)) (λ σ h => aCl E aR (σ p0) (σ p5) h) := Is.loop (λ n2 σ h => aCl E n2 (σ p0) (σ p5) h) (by kernel_rfl) λ n2 => Is.as (Is.leaf _) λ σ h => by kernel_rfl
theorem bOv : nK E bAC bEF (aJS E) := Is.as (Is.seq (Is.seq (Is.seq (bOu E) (Is.block (bOt E))) (Is.leaf _)) (Is.leaf _)) λ σ h => by kernel_rfl
def bQj : DF := ⟨2, 28, bAC, bEF⟩
def aWr : cE := nL (aJS E)
theorem bEa : SQ bQj aWr := λ E => nY (d := bQj) (bOv E) rfl
def R107 : List RV := [(.r p3)]
def aJR (r0 r1 : DV) (h : H) : aU := vK (aG h.get r1) λ x1 => wK (aD E 108 [r0, x1] h) λ x2 h3 => some (x2, h3)
def bAz : DC := (zs 3 [zX (.mv (.c .nils))] (zs 4 [zM 0,zX (.ld o1),zF 108 [o4,o5],zT 3 6] .ret))
theorem bOs : nK E bAz R107 (aJR E) := λ σ h => by kernel_rfl
def bQi : DF := ⟨2, 7, bAz, R107⟩
def bDZ : cE := nL (aJR E)
theorem bDY : SQ bQi bDZ := λ E => nY (d := bQi) (bOs E) rfl
def R108 : List RV := [(.r p4)]
def aJQ (r0 r1 : DV) (h : H) : aU := vK (bZ r1) λ x1 => wK (aD E 106 [r0, x1] h) λ x2 h3 => wK (cA 1 1 x2 r1 h3) λ x4 h5 => some (x4, h5)
def bAy : DC := (zs 4 [zX (.mv (.c .nils))] (zs 5 [zM 0,zM 1,zX (.lenS o6),zF 106 [o5,o7],zM 1,zD ⟨(some p10),none,(.w (.app 1 1 o8 o9))⟩,zT 4 10] .ret))
theorem bOr : nK E bAy R108 (aJQ E) := λ σ h => by kernel_rfl
def bQh : DF := ⟨2, 11, bAy, R108⟩
def aWq : cE := nL (aJQ E)
theorem bDX : SQ bQh aWq := λ E => nY (d := bQh) (bOr E) rfl
def R109 : List RV := [(.r p4),(.r p5)]
def aXw (r0 r1 : DV) (h : H) : aU := vK (dT .ptr false h.get r0 .nilp) λ x1 => bE x1 false (λ kk => kk r0 h) h λ x2 h3 => bE x1 false (λ kk => vK (aL x2) λ v => kk v h3) h3 λ x4 h5 => bE x1 false (λ kk => vK (aF 1 x4) λ v => kk v h5) h5 λ x6 h7 => bE x1 false (λ kk => vK (aG h7.get x6) λ v => kk v h7) h7 λ x8 h9 => vK (aX x1 (.bool true) x8) λ x10 => bE x10 false (λ kk => kk r1 h9) h9 λ x11 h12 => bE x10 false (λ kk => vK (cT x11 (ii 0)) λ v => kk v h12) h12 λ x13 h14 => vK (aX x10 (.bool true) x13) λ x15 => bE x15 false (λ kk => kk r1 h14) h14 λ x16 h17 => bE x15 false (λ kk => kk r0 h17) h17 λ x18 h19 => bE x15 false (λ kk => vK (aL x18) λ v => kk v h19) h19 λ x20 h21 => bE x15 false (λ kk => vK (aF 0 x20) λ v => kk v h21) h21 λ x22 h23 => bE x15 false (λ kk => vK (aG h23.get x22) λ v => kk v h23) h23 λ x24 h25 => bE x15 false (λ kk => vK (bZ x24) λ v => kk v h25) h25 λ x26 h27 => bE x15 false (λ kk => vK (eF x16 x26) λ v => kk v h27) h27 λ x28 h29 => vK (aX x15 (.bool true) x28) λ x30 => bK x30 (wK (aD E 111 [r0] h29) λ x31 h32 => some ((.tup [(.str []), (.bool false)]), h32)) (vK (aL r0) λ x33 => vK (aF 0 x33) λ x34 => vK (aG h29.get x34) λ x35 => vK (gX x35 none (some r1)) λ x36 => vK (aL r0) λ x37 => vK (aF 0 x37) λ x38 => vK (aG h29.get x38) λ x39 => vK (gX x39 (some r1) none) λ x40 => vK (aL r0) λ x41 => vK (aF 0 x41) λ x42 => wK (bU 1 x42 x40 h29) λ x43 h44 => some ((.tup [x36, (.bool true)]), h44))
def bAx : DC := (zs 4 [zX (.mv (.c (.str []))),zX (.mv (.c (.bool false)))] (zq (zs 7 [zM 0,zX (.eqv .ptr false o7 (.c .nilp)),zM 8,zL 9 false 0,zG 9 false (.nilchk fS),zG 9 false (.fa 1 gE),zG 9 false (.ld fV),zX (.pick o9 (.c (.bool true)) gN),zM 14,zL 15 false 1,zG 15 false (.bin .lss iC (zk 0)),zX (.pick jO (.c (.bool true)) iT),zM 18,zL 19 false 1,zL 19 false 0,zG 19 false (.nilchk iG),zG 19 false (.fa 0 kD),zG 19 false (.ld iD),zG 19 false (.lenS iP),zG 19 false (.bin .gtr jD kU),zX (.pick iQ (.c (.bool true)) lY)] (.cond lD (zs 28 [zM 0,zF 111 [lW]] (zs 4 [zX (.mv (.c (.str []))),zX (.mv (.c (.bool false)))] .ret)) .skip)) (zs 30 [zM 0,zX (.nilchk mD),zX (.fa 0 oD),zX (.ld lC),zM 1,zX (.slS mX none (some mR)),zT 6 35] (zs 36 [zM 0,zM 0,zX (.nilchk pA),zX (.fa 0 tF),zX (.ld rN),zM 1,zX (.slS qZ (some wO) none),zX (.nilchk mW),zX (.fa 0 uB),zW (.st 1 tZ uC)] (zs 4 [zT 45 6,zM 45,zX (.mv (.c (.bool true)))] .ret)))))
theorem bOq : nK E bAx R109 (aXw E) := λ σ h => by kernel_rfl
def bQg : DF := ⟨2, 46, bAx, R109⟩
def bKN : cE := nL (aXw E)
theorem bDW : SQ bQg bKN := λ E => nY (d := bQg) (bOq E) rfl
def bEE : List RV := [(.r p2),(.r p3)]
def aPi (E : bO) (h : H) : aU := some ((.tup [(.int .u64 (.ofNat 0)), (ii 0)]), h)
def bAv : DC := (zs 2 [zX (.mv (.c (.int .u64 (.ofNat 0)))),zX (.mv (zk 0))] .ret)
def bQG (r0 r9 : DV) (i2 : DV → DV → H → aU) (r4 r10 : DV) (h : H) : aU := vK (cT r10 r9) λ x1 => bK x1 (vK (gJ r0 r10) λ x2 => vK (fB .u64 x2) λ x3 => vK (aDO x3 (.int .u64 (.ofNat 127))) λ x4 => vK (aCu (ii 7) r10) λ x5 => vK (aDK x4 x5) λ x6 => vK (aRO r4 x6) λ x7 => vK (nO x3 (.int .u64 (.ofNat 128))) λ x8 => bK x8 (vK (bJ r10 (ii 1)) λ x9 => i2 x7 x9 h) (vK (eF r10 (ii 0)) λ x10 => bE x10 true (λ kk => kk x3 h) h λ x11 h12 => bE x10 true (λ kk => vK (bV x11 (.int .u64 (.ofNat 0))) λ v => kk v h12) h12 λ x13 h14 => vK (aX x10 x13 (.bool false)) λ x15 => bE x15 false (λ kk => kk r10 h14) h14 λ x16 h17 => bE x15 false (λ kk => vK (bV x16 (ii 9)) λ v => kk v h17) h17 λ x18 h19 => bE x15 false (λ kk => kk x18 h19) h19 λ x20 h21 => bE x20 true (λ kk => kk x3 h21) h21 λ x22 h23 => bE x20 true (λ kk => vK (eF x22 (.int .u64 (.ofNat 1))) λ v => kk v h23) h23 λ x24 h25 => bE x15 false (λ kk => vK (aX x20 x24 (.bool false)) λ v => kk v h25) h25 λ x26 h27 => vK (aX x15 (.bool true) x26) λ x28 => bK x28 (some ((.tup [(.int .u64 (.ofNat 0)), (ii 0)]), h27)) (vK (bJ r10 (ii 1)) λ x29 => some ((.tup [x7, x29]), h27)))) (aPi E h)
def aOI (r0 r9 : DV) (n : Nat) : DV → DV → H → aU := Nat.rec (motive := λ _ => DV → DV → H → aU) (λ _ _ _ => none) (λ _ i => bQG E r0 r9 i) n
def bAu : DC := (.loop (zs 11 [zX (.bin .lss fS o9)] (zq (.cond gE .skip (.exit 0)) (zq (.block 1 (zs 5 [zT 12 10,zM 12] (zs 13 [zM 0,zM 5,zX (.ixS gN iU),zX (.conv .u64 jO),zT 6 16] (zs 17 [zM 4,zM 6,zX (.bin .and iH (.c (.int .u64 (.ofNat 127)))),zM 5,zX (.bin .mul (zk 7) jD),zX (.bin .shl iQ iG),zX (.bin .or iT kD),zT 4 23] (zq (zs 24 [zM 6,zX (.bin .geq iP (.c (.int .u64 (.ofNat 128))))] (.cond kU (.exit 1) .skip)) (zq (zs 26 [zM 5,zX (.bin .gtr lY (zk 0)),zM 27,zL 28 true 6,zG 28 true (.bin .eql mN (.c (.int .u64 (.ofNat 0)))),zX (.pick lW mD (.c (.bool false))),zM 31,zL 32 false 5,zG 32 false (.bin .eql mX (zk 9)),zL 32 false 34,zL 35 true 6,zG 35 true (.bin .gtr mW (.c (.int .u64 (.ofNat 1)))),zG 32 false (.pick rA pA (.c (.bool false))),zX (.pick lC (.c (.bool true)) tF)] (.cond rN (zs 2 [zX (.mv (.c (.int .u64 (.ofNat 0)))),zX (.mv (zk 0))] .ret) .skip)) (zs 40 [zM 4,zM 5,zX (.bin .add wO (zk 1)),zT 2 40,zT 3 42] .ret))))))) (zr 10 [zY 43 (.bin .add fS (zk 1)),zM 43])))))
def aXv (r0 : DV) (h : H) : aU := vK (bZ r0) λ x1 => vK (aDd x1 (ii 10)) λ x2 => aOI E r0 x2 aR (.int .u64 (.ofNat 0)) (ii 0) h
def bAw : DC := (zs 2 [zX (.mv (.c (.int .u64 (.ofNat 0)))),zX (.mv (zk 0))] (zs 4 [zX (.mv (.c (.int .u64 (.ofNat 0))))] (zq (zs 7 [zM 0,zX (.lenS o7),zX (.mn o8 (zk 10)),zX (.mv (zk 0))] (.block 0 bAu)) bAv)))
theorem bOo : Is E bAv (bN bEE) (λ σ h => aPi E h) := λ σ h => by kernel_rfl
abbrev bLu : gS (DV × H) := (bL 0 (cF (λ σ h => aPi E h) (bN bEE)))
theorem bOn : Is E bAu (bLu E) (λ σ h => aOI E (σ p0) (σ p9) aR (σ p4) (σ p10) h) := Is.loop (λ n2 σ h => aOI E (σ p0) (σ p9) n2 (σ p4) (σ p10) h) (by kernel_rfl) λ n2 => Is.as (Is.leaf _) λ σ h => by kernel_rfl
theorem bOp : oE E bAw bEE (aXv E) := Is.as (Is.seq (Is.seq (Is.seq (bOo E) (Is.seq (Is.block (bOn E)) (Is.leaf _))) (Is.leaf _)) (Is.leaf _)) λ σ h => by kernel_rfl
def bQf : DF := ⟨1, 44, bAw, bEE⟩
def bKM : cE := oF (aXv E)
theorem bDV : SQ bQf bKM := λ E => oJ (d := bQf) (bOp E) rfl
def R111 : List RV := []
def aXu (E : bO) (r0 : DV) (h : H) : aU := vK (dT .ptr true h.get r0 .nilp) λ x1 => bK x1 (vK (aL r0) λ x2 => vK (aF 0 x2) λ x3 => wK (bU 1 x3 (.str []) h) λ x4 h5 => vK (aL r0) λ x6 => vK (aF 1 x6) λ x7 => wK (bU 1 x7 (.bool true) h5) λ x8 h9 => some ((.tup []), h9)) (some ((.tup []), h))
def bAt : DC := (zs 2 [zM 0,zX (.eqv .ptr true o2 (.c .nilp))] (.cond o3 (zr 4 [zM 0,zM 0,zX (.nilchk o4),zX (.fa 0 o6),zW (.st 1 o7 (.c (.str []))),zX (.nilchk o5),zX (.fa 1 o8),zW (.st 1 o9 (.c (.bool true)))]) .skip))
theorem bOm : oE E bAt R111 (aXu E) := λ σ h => by kernel_rfl
def bQe : DF := ⟨1, 10, bAt, R111⟩
def bKL : cE := oF (aXu E)
theorem bDU : SQ bQe bKL := λ E => oJ (d := bQe) (bOm E) rfl
def R120 : List RV := [(.r p4),(.r p5),(.r p6)]
def aJP (r0 r1 : DV) (h : H) : aU := eC r0 h λ x1 h2 => wK (aD E 150 [r1] h2) λ x3 h4 => vK (aI 0 x3) λ x5 => vK (aI 1 x3) λ x6 => vK (aI 2 x3) λ x7 => vK (dD x7 (ii 0)) λ x8 => bK x8 (some ((.tup [(ii 0), (.str []), x7]), h4)) (vK (aK 2 h4.get x1) λ x9 => wK (aD E 124 [x9, x5] h4) λ x10 h11 => vK (aI 0 x10) λ x12 => vK (aI 1 x10) λ x13 => vK (dD x13 (ii 0)) λ x14 => bK x14 (some ((.tup [(ii 0), (.str []), x13]), h11)) (vK (aF 0 x1) λ x15 => vK (aG h11.get x15) λ x16 => vK (bR 5 x16 x12) λ x17 => vK (aF 2 x17) λ x18 => vK (aG h11.get x18) λ x19 => vK (bV x19 (ii 1)) λ x20 => bK x20 (some ((.tup [(ii 0), (.str []), (ii 13)]), h11)) (some ((.tup [x12, x6, (ii 0)]), h11))))
def bAs : DC := (zs 4 [zY 2 (.box o0),zX (.mv (zk 0)),zX (.mv (.c (.str []))),zX (.mv (zk 0))] (zs 13 [zM 1,zF 150 [gN],zT 12 14,zX (.ext 0 fV),zX (.ext 1 fV),zX (.ext 2 fV),zT 7 15,zT 8 16,zT 9 17] (zq (zs 18 [zM 9,zX (.bin .neq iH (zk 0))] (.cond iQ (zs 4 [zT 20 9,zX (.mv (zk 0)),zX (.mv (.c (.str []))),zM 20] .ret) .skip)) (zs 22 [zX (.ldN 2 o2),zM 7,zF 124 [kD,iD],zT 21 24,zX (.ext 0 iG),zX (.ext 1 iG),zT 10 25,zT 11 26] (zq (zs 27 [zM 11,zX (.bin .neq lD (zk 0))] (.cond lW (zs 4 [zT 29 11,zX (.mv (zk 0)),zX (.mv (.c (.str []))),zM 29] .ret) .skip)) (zq (zs 30 [zX (.fa 0 o2),zX (.ld mD),zM 10,zX (.iaS 5 oD lC),zX (.fa 2 mX),zX (.ld mR),zX (.bin .eql rA (zk 1))] (.cond mW (zs 4 [zX (.mv (zk 0)),zX (.mv (.c (.str []))),zX (.mv (zk 13))] .ret) .skip)) (zs 4 [zT 37 10,zT 38 8,zM 37,zM 38,zX (.mv (zk 0))] .ret)))))))
theorem bOl : nK E bAs R120 (aJP E) := λ σ h => by kernel_rfl
def bQd : DF := ⟨2, 39, bAs, R120⟩
def aWp : cE := nL (aJP E)
theorem bDT : SQ bQd aWp := λ E => nY (d := bQd) (bOl E) rfl
def R121 : List RV := [(.r p6)]
def aJO (r0 r1 r2 : DV) (h : H) : aU := eC r0 h λ x1 h2 => vK (aF 0 x1) λ x3 => vK (aG h2.get x3) λ x4 => vK (bR 5 x4 r1) λ x5 => vK (aF 4 x5) λ x6 => vK (aG h2.get x6) λ x7 => wK (aD E 151 [x7, r2] h2) λ x8 h9 => vK (aI 0 x8) λ x10 => vK (aI 1 x8) λ x11 => vK (bV x11 (ii 0)) λ x12 => some (x12, h9)
def bAr : DC := (zs 3 [zX (.box o0),zY 6 (.mv (.c (.bool false)))] (zs 10 [zX (.fa 0 o3),zX (.ld fS),zM 1,zX (.iaS 5 gE fV),zX (.fa 4 gN),zX (.ld iU),zM 2,zF 151 [jO,iC],zT 9 17,zX (.ext 0 o9),zX (.ext 1 o9),zT 7 18,zT 8 19] (zs 20 [zM 8,zX (.bin .eql jD (zk 0)),zT 6 21] .ret)))
theorem bOk : iA3 E bAr R121 (aJO E) := λ σ h => by kernel_rfl
def bQc : DF := ⟨3, 22, bAr, R121⟩
def aWo : cE := fA3 (aJO E)
theorem bDS : SQ bQc aWo := λ E => eA3 (d := bQc) (bOk E) rfl
def bED : List RV := [(.r p4)]
def aJM (E : bO) (h : H) : aU := some ((.int .i64 (.negSucc 0)), h)
def bAp : DC := (zs 4 [zX (.mv (.c (.int .i64 (.negSucc 0))))] .ret)
def aFO (r1 r2 : DV) (i2 : DV → H → aU) (r5 : DV) (h : H) : aU := vK (aF 0 r2) λ x1 => vK (aG h.get x1) λ x2 => vK (bX x2) λ x3 => vK (cT r5 x3) λ x4 => bK x4 (vK (aF 0 r2) λ x5 => vK (aG h.get x5) λ x6 => vK (bR 5 x6 r5) λ x7 => vK (aF 0 x7) λ x8 => vK (aG h.get x8) λ x9 => vK (bV x9 r1) λ x10 => bK x10 (some (r5, h)) (vK (bJ r5 (ii 1)) λ x11 => i2 x11 h)) (aJM E h)
def zP (r1 r2 : DV) (n : Nat) : DV → H → aU := Nat.rec (motive := λ _ => DV → H → aU) (λ _ _ => none) (λ _ i => aFO E r1 r2 i) n
def bAo : DC := (.loop (zq (zs 6 [zM 5,zX (.fa 0 o2),zX (.ld o7),zX (.lenL o8),zX (.bin .lss o6 o9)] (.cond fS .skip (.exit 0))) (zq (.block 1 (zs 13 [zX (.fa 0 o2),zX (.ld gN),zM 5,zX (.iaS 5 iU jO),zX (.fa 0 iC),zX (.ld iT),zM 1,zX (.bin .eql iH iQ)] (.cond jD (zs 4 [zT 21 5,zM 21] .ret) .skip))) (zr 11 [zM 5,zX (.bin .add gE (zk 1)),zT 5 12]))))
def aJN (r0 r1 : DV) (h : H) : aU := eC r0 h λ x1 h2 => zP E r1 x1 aR (ii 0) h2
def bAq : DC := (zs 2 [zX (.box o0),zY 4 (.mv (zk 0))] (zq (zs 5 [zX (.mv (zk 0))] (.block 0 bAo)) bAp))
theorem bOi : Is E bAp (bN bED) (λ σ h => aJM E h) := λ σ h => by kernel_rfl
abbrev bLt : gS (DV × H) := (bL 0 (cF (λ σ h => aJM E h) (bN bED)))
theorem bOh : Is E bAo (bLt E) (λ σ h => zP E (σ p1) (σ p2) aR (σ p5) h) := Is.loop (λ n2 σ h => zP E (σ p1) (σ p2) n2 (σ p5) h) (by kernel_rfl) λ n2 => Is.as (Is.leaf _) λ σ h => by kernel_rfl
theorem bOj : nK E bAq bED (aJN E) := Is.as (Is.seq (Is.seq (bOi E) (Is.seq (Is.block (bOh E)) (Is.leaf _))) (Is.leaf _)) λ σ h => by kernel_rfl
def bQb : DF := ⟨2, 22, bAq, bED⟩
def aWn : cE := nL (aJN E)
theorem bDR : SQ bQb aWn := λ E => nY (d := bQb) (bOj E) rfl
def R123 : List RV := [(.cells p8 2)]
def aJL (r0 r1 r2 r3 : DV) (h : H) : aU := eC r0 h λ x1 h2 => eD 2 2 (.list [.nils, (ii 0)]) h2 λ x3 h4 => vK (aF 0 x1) λ x5 => vK (aG h4.get x5) λ x6 => vK (bR 5 x6 r1) λ x7 => vK (aK 5 h4.get x7) λ x8 => eD 5 5 (.list [(ii 0), (ii 0), (ii 0), (.str []), .nils]) h4 λ x9 h10 => wK (bU 5 x9 x8 h10) λ x11 h12 => vK (aF 4 x9) λ x13 => vK (aG h12.get x13) λ x14 => wK (aD E 152 [x14, r2, r3] h12) λ x15 h16 => vK (aI 0 x15) λ x17 => vK (aI 1 x15) λ x18 => vK (aF 4 x9) λ x19 => wK (bU 1 x19 x17 h16) λ x20 h21 => vK (aK 2 h21.get x1) λ x22 => vK (aK 5 h21.get x9) λ x23 => wK (aD E 153 [x22, r1, x23] h21) λ x24 h25 => wK (bU 2 x3 x24 h25) λ x26 h27 => vK (aK 2 h27.get x3) λ x28 => some (x28, h27)
def bAn : DC := (zs 4 [zX (.box o0),zY 8 (.alc 2 2 (.list [.nils,(.int .i64 (.ofNat 0))]))] (zs 12 [zX (.fa 0 o4),zX (.ld fV),zM 1,zX (.iaS 5 gN iU),zX (.ldN 5 jO),zY 9 (.alc 5 5 (.list [(.int .i64 (.ofNat 0)),(.int .i64 (.ofNat 0)),(.int .i64 (.ofNat 0)),(.str []),.nils])),zW (.st 5 o9 iC)] (zs 18 [zX (.fa 4 o9),zX (.ld iH),zM 2,zM 3,zF 152 [iQ,jD,iG],zT 17 22,zX (.ext 0 iT),zX (.ext 1 iT),zT 10 23,zT 11 24] (zs 25 [zM 10,zX (.fa 4 o9),zW (.st 1 lY kU)] (zs 27 [zX (.ldN 2 o4),zM 1,zX (.ldN 5 o9),zF 153 [lD,lW,mN],zW (.st 2 o8 mD)] .ret)))))
theorem bOg : iA4 E bAn R123 (aJL E) := λ σ h => by kernel_rfl
def bQa : DF := ⟨4, 31, bAn, R123⟩
def aWm : cE := fA4 (aJL E)
theorem bDQ : SQ bQa aWm := λ E => eA4 (d := bQa) (bOg E) rfl
def bEC : List RV := [(.r p4),(.r p5)]
def aJJ (E : bO) (r8 : DV) (h : H) : aU := some ((.tup [r8, (ii 0)]), h)
def bAl : DC := (zs 4 [zT 54 8,zM 54,zX (.mv (zk 0))] .ret)
def aFN (r2 r6 : DV) (i2 : DV → DV → H → aU) (r8 r9 : DV) (h : H) : aU := vK (bX r6) λ x1 => vK (cT r9 x1) λ x2 => bK x2 (vK (aF 0 r2) λ x3 => vK (aG h.get x3) λ x4 => vK (bR 5 x4 r8) λ x5 => vK (aF 2 x5) λ x6 => vK (aG h.get x6) λ x7 => vK (bV x7 (ii 1)) λ x8 => bK x8 (some ((.tup [(ii 0), (ii 13)]), h)) (vK (aF 0 r2) λ x9 => vK (aG h.get x9) λ x10 => vK (bR 5 x10 r8) λ x11 => vK (aF 4 x11) λ x12 => vK (aG h.get x12) λ x13 => vK (bR 1 r6 r9) λ x14 => vK (aG h.get x14) λ x15 => wK (aD E 151 [x13, x15] h) λ x16 h17 => vK (aI 0 x16) λ x18 => vK (aI 1 x16) λ x19 => vK (dD x19 (ii 0)) λ x20 => bK x20 (some ((.tup [(ii 0), (ii 7)]), h17)) (vK (aK 2 h17.get r2) λ x21 => wK (aD E 122 [x21, x18] h17) λ x22 h23 => vK (bJ r9 (ii 1)) λ x24 => i2 x22 x24 h23))) (aJJ E r8 h)
def aCk (r2 r6 : DV) (n : Nat) : DV → DV → H → aU := Nat.rec (motive := λ _ => DV → DV → H → aU) (λ _ _ _ => none) (λ _ i => aFN E r2 r6 i) n
def bAk : DC := (.loop (zq (zs 22 [zM 9,zM 6,zX (.lenL iD),zX (.bin .lss kD iP)] (.cond kU .skip (.exit 0))) (zq (.block 1 (zq (zs 28 [zX (.fa 0 o2),zX (.ld lW),zM 8,zX (.iaS 5 mN mD),zX (.fa 2 oD),zX (.ld lC),zX (.bin .eql mX (zk 1))] (.cond mR (zs 4 [zX (.mv (zk 0)),zX (.mv (zk 13))] .ret) .skip)) (zq (zd 36 [yA 0 (zX (.fa 0 o2)),yA 1 (zX (.ld mW)),yA 2 (zM 8),yA 3 (zX (.iaS 5 pA tF)),yA 4 (zX (.fa 4 rN)),yA 5 (zX (.ld qZ)),yA 6 (zM 6),yA 7 (zM 9),yA 8 (zX (.iaS 1 uC uB)),yA 9 (zX (.ld tZ)),yA 10 (zF 151 [wO,zV]),yA 11 (zT 35 46),yA 12 (zX (.ext 0 rA)),yA 13 (zX (.ext 1 rA)),yA 14 (zT 10 47),yA 15 (zT 11 48)]) (zq (zs 49 [zM 11,zX (.bin .neq o49 (zk 0))] (.cond o50 (zs 4 [zX (.mv (zk 0)),zX (.mv (zk 7))] .ret) .skip)) (zr 51 [zX (.ldN 2 o2),zM 10,zF 122 [o51,o52],zT 8 53]))))) (zr 26 [zM 9,zX (.bin .add lY (zk 1)),zT 9 27]))))
def aJK (r0 r1 : DV) (h : H) : aU := eC r0 h λ x1 h2 => wK (aD E 154 [r1] h2) λ x3 h4 => vK (aI 0 x3) λ x5 => vK (aI 1 x3) λ x6 => vK (dD x6 (ii 0)) λ x7 => bK x7 (some ((.tup [(ii 0), x6]), h4)) (vK (aK 2 h4.get x1) λ x8 => wK (aD E 122 [x8, (ii 1)] h4) λ x9 h10 => aCk E x1 x5 aR x9 (ii 0) h10)
def bAm : DC := (zs 4 [zY 2 (.box o0),zX (.mv (zk 0)),zX (.mv (zk 0))] (zs 13 [zM 1,zF 154 [gN],zT 12 14,zX (.ext 0 fV),zX (.ext 1 fV),zT 6 15,zT 7 16] (zq (zs 17 [zM 7,zX (.bin .neq iT (zk 0))] (.cond iH (zs 4 [zT 19 7,zX (.mv (zk 0)),zM 19] .ret) .skip)) (zs 20 [zX (.ldN 2 o2),zF 122 [jD,(zk 1)],zT 8 21] (zq (zs 9 [zX (.mv (zk 0))] (.block 0 bAk)) bAl)))))
theorem bOe : Is E bAl (bN bEC) (λ σ h => aJJ E (σ p8) h) := λ σ h => by kernel_rfl
abbrev bLs : gS (DV × H) := (cF (λ σ h => aJJ E (σ p8) h) (bN bEC))
theorem bOd : Is E bAk (bL 0 (bLs E)) (λ σ h => aCk E (σ p2) (σ p6) aR (σ p8) (σ p9) h) := Is.loop (λ n2 σ h => aCk E (σ p2) (σ p6) n2 (σ p8) (σ p9) h) (by kernel_rfl) λ n2 => Is.as (Is.leaf _) λ σ h => by kernel_rfl
theorem bOf : nK E bAm bEC (aJK E) := Is.as (Is.seq (Is.seq (Is.seq (Is.seq (Is.seq (bOe E) (Is.seq (Is.block (bOd E)) (Is.leaf _))) (Is.leaf _)) (Is.leaf _)) (Is.leaf _)) (Is.leaf _)) λ σ h => by kernel_rfl
def bPZ : DF := ⟨2, 55, bAm, bEC⟩
def aWl : cE := nL (aJK E)
theorem bDP : SQ bPZ aWl := λ E => nY (d := bPZ) (bOf E) rfl
def R125 : List RV := [(.cells p6 2)]
def aJI (r0 r1 r2 : DV) (h : H) : aU := eC r0 h λ x1 h2 => eD 2 2 (.list [.nils, (ii 0)]) h2 λ x3 h4 => vK (aF 0 x1) λ x5 => vK (aG h4.get x5) λ x6 => vK (bR 5 x6 r1) λ x7 => vK (aK 5 h4.get x7) λ x8 => eD 5 5 (.list [(ii 0), (ii 0), (ii 0), (.str []), .nils]) h4 λ x9 h10 => wK (bU 5 x9 x8 h10) λ x11 h12 => vK (aF 4 x9) λ x13 => vK (aG h12.get x13) λ x14 => wK (aD E 155 [x14, r2] h12) λ x15 h16 => vK (aI 0 x15) λ x17 => vK (aI 1 x15) λ x18 => vK (aI 2 x15) λ x19 => vK (aF 4 x9) λ x20 => wK (bU 1 x20 x17 h16) λ x21 h22 => vK (aK 2 h22.get x1) λ x23 => vK (aK 5 h22.get x9) λ x24 => wK (aD E 153 [x23, r1, x24] h22) λ x25 h26 => wK (bU 2 x3 x25 h26) λ x27 h28 => vK (aK 2 h28.get x3) λ x29 => some (x29, h28)
def bAj : DC := (zs 3 [zX (.box o0),zY 6 (.alc 2 2 (.list [.nils,(.int .i64 (.ofNat 0))]))] (zs 11 [zX (.fa 0 o3),zX (.ld gE),zM 1,zX (.iaS 5 fV gN),zX (.ldN 5 iU),zY 7 (.alc 5 5 (.list [(.int .i64 (.ofNat 0)),(.int .i64 (.ofNat 0)),(.int .i64 (.ofNat 0)),(.str []),.nils])),zW (.st 5 o7 jO)] (zs 17 [zX (.fa 4 o7),zX (.ld iT),zM 2,zF 155 [iH,iQ],zT 16 20,zX (.ext 0 iC),zX (.ext 1 iC),zX (.ext 2 iC),zT 8 21,zT 9 22,zT 10 23] (zs 24 [zM 8,zX (.fa 4 o7),zW (.st 1 kU iP)] (zs 26 [zX (.ldN 2 o3),zM 1,zX (.ldN 5 o7),zF 153 [lY,lD,lW],zW (.st 2 o6 mN)] .ret)))))
theorem bOc : iA3 E bAj R125 (aJI E) := λ σ h => by kernel_rfl
def bPY : DF := ⟨3, 30, bAj, R125⟩
def aWk : cE := fA3 (aJI E)
theorem bDO : SQ bPY aWk := λ E => eA3 (d := bPY) (bOc E) rfl
def bEB : List RV := [(.r p4)]
def aPh (E : bO) (r5 : DV) (h : H) : aU := some (r5, h)
def bAh : DC := (zs 4 [zT 40 5,zM 40] .ret)
def aFr (E : bO) (i2 : DV → DV → H → aU) (r5 r6 : DV) (h : H) : aU := vK (bJ r6 (ii 1)) λ x1 => i2 r5 x1 h
def bAf : DC := (zr 13 [zM 6,zX (.bin .add gN (zk 1)),zT 6 14])
def aFq (E : bO) (i4 : DV → DV → H → aU) (r5 r7 : DV) (h : H) : aU := vK (bJ r7 (ii 1)) λ x1 => i4 r5 x1 h
def bAd : DC := (zr 24 [zM 7,zX (.bin .add iP (zk 1)),zT 7 25])
def aFL (i2 : DV → DV → H → aU) (r1 r2 r6 : DV) (i4 : DV → DV → H → aU) (r5 r7 : DV) (h : H) : aU := vK (aF 0 r2) λ x1 => vK (aG h.get x1) λ x2 => vK (bR 5 x2 r6) λ x3 => vK (aF 4 x3) λ x4 => vK (aG h.get x4) λ x5 => vK (bX x5) λ x6 => vK (cT r7 x6) λ x7 => bK x7 (vK (aF 0 r2) λ x8 => vK (aG h.get x8) λ x9 => vK (bR 5 x9 r6) λ x10 => vK (aF 4 x10) λ x11 => vK (aG h.get x11) λ x12 => vK (bR 2 x12 r7) λ x13 => vK (aF 1 x13) λ x14 => vK (aG h.get x14) λ x15 => vK (bV x15 r1) λ x16 => bK x16 (vK (bJ r5 (ii 1)) λ x17 => aFq E i4 x17 r7 h) (aFq E i4 r5 r7 h)) (aFr E i2 r5 r6 h)
def vV (i2 : DV → DV → H → aU) (r1 r2 r6 : DV) (n : Nat) : DV → DV → H → aU := Nat.rec (motive := λ _ => DV → DV → H → aU) (λ _ _ _ => none) (λ _ i => aFL E i2 r1 r2 r6 i) n
def bAe : DC := (.loop (zq (zs 15 [zM 7,zX (.fa 0 o2),zX (.ld iC),zM 6,zX (.iaS 5 iT iH),zX (.fa 4 iQ),zX (.ld jD),zX (.lenL iG),zX (.bin .lss jO kD)] (.cond iD .skip (.exit 2))) (zq (.block 3 (zs 26 [zX (.fa 0 o2),zX (.ld lY),zM 6,zX (.iaS 5 lD lW),zX (.fa 4 mN),zX (.ld mD),zM 7,zX (.iaS 2 oD lC),zX (.fa 1 mX),zX (.ld mR),zM 1,zX (.bin .eql rA mW)] (.cond pA (zr 38 [zM 5,zX (.bin .add tF (zk 1)),zT 5 39]) .skip))) bAd)))
def aFM (r1 r2 : DV) (i2 : DV → DV → H → aU) (r5 r6 : DV) (h : H) : aU := vK (aF 0 r2) λ x1 => vK (aG h.get x1) λ x2 => vK (bX x2) λ x3 => vK (cT r6 x3) λ x4 => bK x4 (vV E i2 r1 r2 r6 aR r5 (ii 0) h) (aPh E r5 h)
def lN (r1 r2 : DV) (n : Nat) : DV → DV → H → aU := Nat.rec (motive := λ _ => DV → DV → H → aU) (λ _ _ _ => none) (λ _ i => aFM E r1 r2 i) n
def bAg : DC := (.loop (zq (zs 8 [zM 6,zX (.fa 0 o2),zX (.ld o9),zX (.lenL fS),zX (.bin .lss o8 gE)] (.cond fV .skip (.exit 0))) (zq (.block 1 (zs 7 [zX (.mv (zk 0))] (.block 2 bAe))) bAf)))
def aJH (r0 r1 : DV) (h : H) : aU := eC r0 h λ x1 h2 => lN E r1 x1 aR (ii 0) (ii 0) h2
def bAi : DC := (zs 2 [zX (.box o0),zY 4 (.mv (zk 0))] (zs 5 [zX (.mv (zk 0))] (zq (zs 6 [zX (.mv (zk 0))] (.block 0 bAg)) bAh)))
theorem bOa : Is E bAh (bN bEB) (λ σ h => aPh E (σ p5) h) := λ σ h => by kernel_rfl
abbrev aWO : gS (DV × H) := (cF (λ σ h => aPh E (σ p5) h) (bN bEB))
abbrev aWN (n2 : Nat) : gS (DV × H) := (cF (λ σ h => (lN E (σ p1) (σ p2) n2) (σ p5) (σ p6) h) (bL 0 (aWO E)))
theorem bNY (n2 : Nat) : Is E bAf (aWN E n2) (λ σ h => aFr E (lN E (σ p1) (σ p2) n2) (σ p5) (σ p6) h) := λ σ h => by kernel_rfl
abbrev aWM (n2 : Nat) : gS (DV × H) := (cF (λ σ h => aFr E (lN E (σ p1) (σ p2) n2) (σ p5) (σ p6) h) (aWN E n2))
abbrev bLr (n2 n4 : Nat) : gS (DV × H) := (cF (λ σ h => (vV E (lN E (σ p1) (σ p2) n2) (σ p1) (σ p2) (σ p6) n4) (σ p5) (σ p7) h) (bL 2 (bL 1 (aWM E n2))))
theorem bNW (n2 n4 : Nat) : Is E bAd (bLr E n2 n4) (λ σ h => aFq E (vV E (lN E (σ p1) (σ p2) n2) (σ p1) (σ p2) (σ p6) n4) (σ p5) (σ p7) h) := λ σ h => by kernel_rfl
theorem bNX (n2 : Nat) : Is E bAe (bL 2 (bL 1 (aWM E n2))) (λ σ h => vV E (lN E (σ p1) (σ p2) n2) (σ p1) (σ p2) (σ p6) aR (σ p5) (σ p7) h) := Is.loop (λ n4 σ h => vV E (lN E (σ p1) (σ p2) n2) (σ p1) (σ p2) (σ p6) n4 (σ p5) (σ p7) h) (by kernel_rfl) λ n4 => Is.as (Is.seq (Is.seq (bNW E n2 n4) (Is.leaf _)) (Is.leaf _)) λ σ h => by kernel_rfl
theorem bNZ : Is E bAg (bL 0 (aWO E)) (λ σ h => lN E (σ p1) (σ p2) aR (σ p5) (σ p6) h) := Is.loop (λ n2 σ h => lN E (σ p1) (σ p2) n2 (σ p5) (σ p6) h) (by kernel_rfl) λ n2 => Is.as (Is.seq (Is.seq (bNY E n2) (Is.block (Is.seq (Is.block (bNX E n2)) (Is.leaf _)))) (Is.leaf _)) λ σ h => by kernel_rfl
theorem bOb : nK E bAi bEB (aJH E) := Is.as (Is.seq (Is.seq (Is.seq (bOa E) (Is.seq (Is.block (bNZ E)) (Is.leaf _))) (Is.leaf _)) (Is.leaf _)) λ σ h => by kernel_rfl
def bPX : DF := ⟨2, 41, bAi, bEB⟩
def aWj : cE := nL (aJH E)
theorem bDN : SQ bPX aWj := λ E => nY (d := bPX) (bOb E) rfl
def R127 : List RV := [(.cells p4 2)]
def aJG (r0 r1 : DV) (h : H) : aU := eC r0 h λ x1 h2 => eD 2 2 (.list [.nils, (ii 0)]) h2 λ x3 h4 => vK (aK 2 h4.get x1) λ x5 => wK (aD E 122 [x5, r1] h4) λ x6 h7 => vK (aF 0 x1) λ x8 => vK (aG h7.get x8) λ x9 => vK (dK 5 x9 none (some x6)) λ x10 => vK (aF 0 x1) λ x11 => vK (aG h7.get x11) λ x12 => vK (bJ x6 (ii 1)) λ x13 => vK (dK 5 x12 (some x13) none) λ x14 => wK (cA 5 64 .nils x10 h7) λ x15 h16 => rK (rcK (aG h16.get x11) x12) <| wK (cA 5 64 x15 x14 h16) λ x17 h18 => vK (aF 0 x1) λ x19 => wK (bU 1 x19 x17 h18) λ x20 h21 => vK (aK 2 h21.get x1) λ x22 => wK (bU 2 x3 x22 h21) λ x23 h24 => vK (aK 2 h24.get x3) λ x25 => some (x25, h24)
def bAc : DC := (zs 2 [zX (.box o0),zY 4 (.alc 2 2 (.list [.nils,(.int .i64 (.ofNat 0))]))] (zs 6 [zX (.ldN 2 o2),zM 1,zF 122 [o6,o7],zT 5 8] (zq (zd 14 [yA 0 (zY 9 (.fa 0 o2)),yA 1 (zY 10 (.ld o9)),yA 2 (zT 11 5),yA 3 (zY 12 (.slL 5 fS none (some gE))),yA 5 (zX (.fa 0 o2)),yA 6 (zX (.ld iU)),yA 7 (zM 5),yA 8 (zX (.bin .add iC (zk 1))),yA 9 (zX (.slL 5 jO (some iT) none)),yB 4 (zD ⟨(some p13),none,(.w (.app 5 64 (.c .nils) fV))⟩) [6] false,yA 10 (zD ⟨(some p19),none,(.w (.app 5 64 gN iH))⟩),yA 11 (zY 20 (.fa 0 o2)),yA 12 (zW (.st 1 jD iQ))]) (zs 21 [zX (.ldN 2 o2),zW (.st 2 o4 iG)] .ret))))
theorem bNV : nK E bAc R127 (aJG E) := λ σ h => by kernel_rfl
def bPW : DF := ⟨2, 22, bAc, R127⟩
def aWi : cE := nL (aJG E)
theorem bDM : SQ bPW aWi := λ E => nY (d := bPW) (bNV E) rfl
def bEA : List RV := [(.r p4)]
def aPg (E : bO) (h : H) : aU := some ((.bool true), h)
def bAa : DC := (zs 4 [zX (.mv (.c (.bool true)))] .ret)
def aFK (r5 r7 : DV) (i2 : DV → H → aU) (r9 : DV) (h : H) : aU := vK (bX r5) λ x1 => vK (cT r9 x1) λ x2 => bK x2 (vK (bR 1 r5 r9) λ x3 => vK (aG h.get x3) λ x4 => vK (bR 1 r7 r9) λ x5 => vK (aG h.get x5) λ x6 => vK (dD x4 x6) λ x7 => bK x7 (some ((.bool false), h)) (vK (bJ r9 (ii 1)) λ x8 => i2 x8 h)) (aPg E h)
def aCj (r5 r7 : DV) (n : Nat) : DV → H → aU := Nat.rec (motive := λ _ => DV → H → aU) (λ _ _ => none) (λ _ i => aFK E r5 r7 i) n
def aZZ : DC := (.loop (zq (zs 33 [zM 9,zM 5,zX (.lenL mR),zX (.bin .lss mX rA)] (.cond mW .skip (.exit 0))) (zq (.block 1 (zq (zd 39 [yA 0 (zM 5),yA 1 (zM 9),yA 2 (zX (.iaS 1 rN qZ)),yA 3 (zX (.ld wO)),yA 4 (zM 7),yA 5 (zM 9),yA 6 (zX (.iaS 1 uB tZ)),yA 7 (zX (.ld zV)),yA 8 (zX (.bin .neq uC xY))]) (.cond o47 (zs 4 [zX (.mv (.c (.bool false)))] .ret) .skip))) (zr 37 [zM 9,zX (.bin .add pA (zk 1)),zT 9 38]))))
def aJF (r0 r1 : DV) (h : H) : aU := wK (aD E 154 [r0] h) λ x1 h2 => vK (aI 0 x1) λ x3 => vK (aI 1 x1) λ x4 => wK (aD E 154 [r1] h2) λ x5 h6 => vK (aI 0 x5) λ x7 => vK (aI 1 x5) λ x8 => vK (dD x4 (ii 0)) λ x9 => bE x9 false (λ kk => kk x8 h6) h6 λ x10 h11 => bE x9 false (λ kk => vK (dD x10 (ii 0)) λ v => kk v h11) h11 λ x12 h13 => vK (aX x9 (.bool true) x12) λ x14 => bE x14 false (λ kk => kk x7 h13) h13 λ x15 h16 => bE x14 false (λ kk => vK (bX x15) λ v => kk v h16) h16 λ x17 h18 => bE x14 false (λ kk => kk x3 h18) h18 λ x19 h20 => bE x14 false (λ kk => vK (bX x19) λ v => kk v h20) h20 λ x21 h22 => bE x14 false (λ kk => vK (xU x17 x21) λ v => kk v h22) h22 λ x23 h24 => vK (aX x14 (.bool true) x23) λ x25 => bK x25 (some ((.bool false), h24)) (aCj E x3 x7 aR (ii 0) h24)
def bAb : DC := (zs 4 [zX (.mv (.c (.bool false)))] (zs 11 [zM 0,zF 154 [gE],zT 10 12,zX (.ext 0 fS),zX (.ext 1 fS),zT 5 13,zT 6 14] (zs 16 [zM 1,zF 154 [iC],zT 15 17,zX (.ext 0 jO),zX (.ext 1 jO),zT 7 18,zT 8 19] (zq (zs 20 [zM 6,zX (.bin .neq jD (zk 0)),zM 21,zL 22 false 8,zG 22 false (.bin .neq iD (zk 0)),zX (.pick kD (.c (.bool true)) iP),zM 25,zL 26 false 7,zG 26 false (.lenL lD),zL 26 false 5,zG 26 false (.lenL mN),zG 26 false (.bin .leq lW mD),zX (.pick lY (.c (.bool true)) oD)] (.cond lC (zs 4 [zX (.mv (.c (.bool false)))] .ret) .skip)) (zq (zs 9 [zX (.mv (zk 0))] (.block 0 aZZ)) bAa)))))
theorem bNT : Is E bAa (bN bEA) (λ σ h => aPg E h) := λ σ h => by kernel_rfl
abbrev bLq : gS (DV × H) := (bL 0 (cF (λ σ h => aPg E h) (bN bEA)))
theorem bNS : Is E aZZ (bLq E) (λ σ h => aCj E (σ p5) (σ p7) aR (σ p9) h) := Is.loop (λ n2 σ h => aCj E (σ p5) (σ p7) n2 (σ p9) h) (by kernel_rfl) λ n2 => Is.as (Is.leaf _) λ σ h => by kernel_rfl
theorem bNU : nK E bAb bEA (aJF E) := Is.as (Is.seq (Is.seq (Is.seq (Is.seq (Is.seq (bNT E) (Is.seq (Is.block (bNS E)) (Is.leaf _))) (Is.leaf _)) (Is.leaf _)) (Is.leaf _)) (Is.leaf _)) λ σ h => by kernel_rfl
def bPV : DF := ⟨2, 48, bAb, bEA⟩
def aWh : cE := nL (aJF E)
theorem bDL : SQ bPV aWh := λ E => nY (d := bPV) (bNU E) rfl
def R129 : List RV := [(.r p2),(.r p3)]
def aJE (r0 : DV) (h : H) : aU := wK (aD E 154 [r0] h) λ x1 h2 => vK (aI 0 x1) λ x3 => vK (aI 1 x1) λ x4 => vK (dD x4 (ii 0)) λ x5 => bK x5 (some ((.tup [(.str []), x4]), h2)) (wK (aD E 156 [x3] h2) λ x6 h7 => vK (aI 0 x6) λ x8 => vK (aI 1 x6) λ x9 => some ((.tup [x8, x9]), h7))
def aZY : DC := (zs 2 [zX (.mv (.c (.str []))),zX (.mv (zk 0))] (zs 7 [zM 0,zF 154 [o7],zT 6 8,zX (.ext 0 o6),zX (.ext 1 o6),zT 4 9,zT 5 10] (zq (zs 11 [zM 5,zX (.bin .neq gE (zk 0))] (.cond fV (zs 2 [zT 13 5,zX (.mv (.c (.str []))),zM 13] .ret) .skip)) (zs 14 [zM 4,zF 156 [iU],zX (.ext 0 jO),zX (.ext 1 jO),zT 2 16,zT 3 17] .ret))))
theorem bNR : oE E aZY R129 (aJE E) := λ σ h => by kernel_rfl
def bPU : DF := ⟨1, 18, aZY, R129⟩
def aWg : cE := oF (aJE E)
theorem bDK : SQ bPU aWg := λ E => oJ (d := bPU) (bNR E) rfl
def R130 : List RV := [(.r p4),(.r p5)]
def aJD (r0 r1 : DV) (h : H) : aU := eC r0 h λ x1 h2 => vK (aK 2 h2.get x1) λ x3 => wK (aD E 124 [x3, r1] h2) λ x4 h5 => vK (aI 0 x4) λ x6 => vK (aI 1 x4) λ x7 => vK (dD x7 (ii 0)) λ x8 => bK x8 (some ((.tup [(ii 0), x7]), h5)) (vK (aF 0 x1) λ x9 => vK (aG h5.get x9) λ x10 => vK (bR 5 x10 x6) λ x11 => vK (aF 2 x11) λ x12 => vK (aG h5.get x12) λ x13 => vK (bV x13 (ii 2)) λ x14 => bK x14 (some ((.tup [(ii 0), (ii 12)]), h5)) (some ((.tup [x6, (ii 0)]), h5)))
def aZX : DC := (zs 4 [zY 2 (.box o0),zX (.mv (zk 0)),zX (.mv (zk 0))] (zs 9 [zX (.ldN 2 o2),zM 1,zF 124 [o9,fS],zT 8 11,zX (.ext 0 o8),zX (.ext 1 o8),zT 6 12,zT 7 13] (zq (zs 14 [zM 7,zX (.bin .neq iU (zk 0))] (.cond jO (zs 4 [zT 16 7,zX (.mv (zk 0)),zM 16] .ret) .skip)) (zq (zs 17 [zX (.fa 0 o2),zX (.ld iT),zM 6,zX (.iaS 5 iH iQ),zX (.fa 2 jD),zX (.ld iG),zX (.bin .eql kD (zk 2))] (.cond iD (zs 4 [zX (.mv (zk 0)),zX (.mv (zk 12))] .ret) .skip)) (zs 4 [zT 24 6,zM 24,zX (.mv (zk 0))] .ret)))))
theorem bNQ : nK E aZX R130 (aJD E) := λ σ h => by kernel_rfl
def bPT : DF := ⟨2, 25, aZX, R130⟩
def aWf : cE := nL (aJD E)
theorem bDJ : SQ bPT aWf := λ E => nY (d := bPT) (bNQ E) rfl
def R131 : List RV := [(.r p2)]
def aJC (E : bO) (r0 : DV) (h : H) : aU := tV 1 1 (.int .u8 (.ofNat 0)) r0 r0 h λ x1 h2 => vK (mO h2.get x1) λ x3 => some (x3, h2)
def aZW : DC := (zs 2 [zX (.mv (.c (.str [])))] (zs 3 [zM 0,zX (.mks 1 1 (.int .u8 (.ofNat 0)) o3 o3),zX (.b2s o4),zT 2 5] .ret))
theorem bNP : oE E aZW R131 (aJC E) := λ σ h => by kernel_rfl
def bPS : DF := ⟨1, 6, aZW, R131⟩
def aSY : cE := oF (aJC E)
theorem bDI : SQ bPS aSY := λ E => oJ (d := bPS) (bNP E) rfl
def R132 : List RV := [(.cells p6 2),(.r p7)]
def aJB (r0 r1 r2 : DV) (h : H) : aU := eC r0 h λ x1 h2 => eD 2 2 (.list [.nils, (ii 0)]) h2 λ x3 h4 => vK (aK 2 h4.get x1) λ x5 => vK (aF 0 x1) λ x6 => vK (aG h4.get x6) λ x7 => vK (bR 5 x7 r1) λ x8 => vK (aF 3 x8) λ x9 => vK (aG h4.get x9) λ x10 => vK (bZ x10) λ x11 => vK (bZ r2) λ x12 => wK (aD E 32 [x5] h4) λ x13 h14 => rK (rcK (aG h14.get x9) x10) <| rK (rcK (aG h14.get x6) x7) <| vK (fA x13 x11) λ x15 => vK (bJ x15 x12) λ x16 => vK (eF x16 (ii 65536)) λ x17 => bK x17 (vK (aK 2 h14.get x1) λ x18 => wK (bU 2 x3 x18 h14) λ x19 h20 => vK (aK 2 h20.get x3) λ x21 => some ((.tup [x21, (ii 5)]), h20)) (vK (aF 0 x1) λ x22 => vK (aG h14.get x22) λ x23 => vK (bR 5 x23 r1) λ x24 => vK (aK 5 h14.get x24) λ x25 => eD 5 5 (.list [(ii 0), (ii 0), (ii 0), (.str []), .nils]) h14 λ x26 h27 => wK (bU 5 x26 x25 h27) λ x28 h29 => vK (aF 3 x26) λ x30 => wK (bU 1 x30 r2 h29) λ x31 h32 => vK (aK 2 h32.get x1) λ x33 => vK (aK 5 h32.get x26) λ x34 => wK (aD E 153 [x33, r1, x34] h32) λ x35 h36 => wK (bU 2 x3 x35 h36) λ x37 h38 => vK (aK 2 h38.get x3) λ x39 => some ((.tup [x39, (ii 0)]), h38))
def aZV : DC := (zs 6 [zY 3 (.box o0),zX (.alc 2 2 (.list [.nils,(.int .i64 (.ofNat 0))])),zX (.mv (zk 0))] (zq (zq (zd 9 [yA 0 (zX (.ldN 2 o3)),yA 2 (zY 11 (.fa 0 o3)),yA 3 (zY 12 (.ld gE)),yA 4 (zT 13 1),yA 5 (zY 14 (.iaS 5 fV gN)),yA 6 (zY 15 (.fa 3 iU)),yA 7 (zY 16 (.ld jO)),yA 8 (zY 17 (.lenS iC)),yA 10 (zT 19 2),yA 11 (zY 20 (.lenS iQ)),yB 1 (zF 32 [o9]) [7,3] false,yA 9 (zY 18 (.bin .sub fS iT)),yA 12 (zY 21 (.bin .add iH jD)),yA 13 (zY 22 (.bin .gtr iG (zk 65536)))]) (.cond kD (zs 7 [zY 23 (.ldN 2 o3),zW (.st 2 o6 iD),zX (.mv (zk 5))] .ret) .skip)) (zs 24 [zX (.fa 0 o3),zX (.ld iP),zM 1,zX (.iaS 5 kU lY),zX (.ldN 5 lD),zY 8 (.alc 5 5 (.list [(.int .i64 (.ofNat 0)),(.int .i64 (.ofNat 0)),(.int .i64 (.ofNat 0)),(.str []),.nils])),zW (.st 5 o8 lW)] (zs 29 [zM 2,zX (.fa 3 o8),zW (.st 1 mD mN)] (zs 31 [zX (.ldN 2 o3),zM 1,zX (.ldN 5 o8),zF 153 [oD,lC,mX],zW (.st 2 o6 mR),zY 7 (.mv (zk 0))] .ret)))))
theorem bNO : iA3 E aZV R132 (aJB E) := λ σ h => by kernel_rfl
def bPR : DF := ⟨3, 35, aZV, R132⟩
def aWe : cE := fA3 (aJB E)
theorem bDH : SQ bPR aWe := λ E => eA3 (d := bPR) (bNO E) rfl
def R134 : List RV := [(.r p6),(.r p7)]
def aXt (r0 r1 r2 : DV) (h : H) : aU := wK (aD E 57 [r1] h) λ x1 h2 => wK (aD E 57 [r1] h2) λ x3 h4 => wK (aD E 56 [r1] h4) λ x5 h6 => wK (aD E 58 [r1] h6) λ x7 h8 => vK (xU x1 r2) λ x9 => bE x9 false (λ kk => kk x1 h8) h8 λ x10 h11 => bE x9 false (λ kk => vK (nO x10 (ii 256)) λ v => kk v h11) h11 λ x12 h13 => vK (aX x9 (.bool true) x12) λ x14 => bK x14 (some ((.tup [(ii 0), (.bool false)]), h13)) (vK (aL r0) λ x15 => vK (aF 0 x15) λ x16 => vK (lO 256 2 x16 x1) λ x17 => vK (aF 0 x17) λ x18 => wK (bU 1 x18 x3 h13) λ x19 h20 => vK (bV x5 (ii 1)) λ x21 => bK x21 (vK (eI [(.str []), (ii 0)] [(0, 1, x7)]) λ x22 => eC x22 h20 λ x23 h24 => vK (aL r0) λ x25 => vK (aF 0 x25) λ x26 => vK (lO 256 2 x26 x1) λ x27 => vK (aF 1 x27) λ x28 => wK (bU 1 x28 (.ifc 141 x23) h24) λ x29 h30 => vK (aL r0) λ x31 => vK (aF 513 x31) λ x32 => vK (aG h30.get x32) λ x33 => vK (bZ x7) λ x34 => vK (bJ x33 x34) λ x35 => vK (aL r0) λ x36 => vK (aF 513 x36) λ x37 => wK (bU 1 x37 x35 h30) λ x38 h39 => vK (bZ x7) λ x40 => vK (xU x40 (ii 16384)) λ x41 => some ((.tup [x1, x41]), h39)) (vK (bV x5 (ii 2)) λ x42 => bK x42 (wK (aD E 157 [x7] h20) λ x43 h44 => vK (aI 0 x43) λ x45 => vK (aI 1 x43) λ x46 => vK (eI [.nilp] [(0, 1, x45)]) λ x47 => vK (aL r0) λ x48 => vK (aF 0 x48) λ x49 => vK (lO 256 2 x49 x1) λ x50 => vK (aF 1 x50) λ x51 => wK (bU 1 x51 (.ifc 120 x47) h44) λ x52 h53 => vK (bV x46 (ii 0)) λ x54 => some ((.tup [x1, x54]), h53)) (some ((.tup [(ii 0), (.bool false)]), h20))))
def aZU : DC := (zs 6 [zX (.mv (zk 0)),zX (.mv (.c (.bool false)))] (zs 14 [zM 1,zF 57 [iU],zM 1,zF 57 [iC],zM 1,zF 56 [iH],zM 1,zF 58 [jD],zT 8 15,zT 9 17,zT 10 19,zT 11 21] (zq (zs 22 [zM 8,zM 2,zX (.bin .leq kD iD),zM 24,zL 25 false 8,zG 25 false (.bin .geq lY (zk 256)),zX (.pick kU (.c (.bool true)) lD)] (.cond lW (zs 6 [zX (.mv (zk 0)),zX (.mv (.c (.bool false)))] .ret) .skip)) (zs 29 [zM 0,zM 8,zM 9,zX (.nilchk mN),zX (.fa 0 lC),zX (.iaA 256 2 mX mD),zX (.fa 0 mR),zW (.st 1 rA oD)] (zq (zs 36 [zM 10] (.block 0 (zs 37 [zY 38 (.bin .eql mW (zk 1)),zM 38] (.cond pA (zs 39 [zM 0,zM 8,zM 11,zX (.bld [(.str []),(.int .i64 (.ofNat 0))] [(0,1,wO)]),zX (.box uC),zX (.mkI 141 uB),zX (.nilchk rN),zX (.fa 0 zV),zX (.iaA 256 2 xY qZ),zX (.fa 1 o47),zW (.st 1 o48 tZ)] (zs 49 [zM 0,zX (.nilchk o49),zX (.fa 513 o50),zX (.ld o51),zM 11,zX (.lenS o53),zX (.bin .add o52 o54),zX (.nilchk o49),zX (.fa 513 o56),zW (.st 1 o57 o55)] (zs 58 [zM 8,zM 11,zX (.lenS o59),zX (.bin .leq o60 (zk 16384)),zT 6 58,zT 7 61] .ret))) (zs 62 [zY 63 (.bin .eql mW (zk 2)),zM 63] (.cond o62 (zs 65 [zM 11,zF 157 [o65],zT 64 66,zX (.ext 0 o64),zX (.ext 1 o64),zT 12 67,zT 13 68] (zs 69 [zM 0,zM 8,zM 12,zX (.bld [.nilp] [(0,1,o71)]),zX (.mkI 120 o72),zX (.nilchk o69),zX (.fa 0 o74),zX (.iaA 256 2 o75 o70),zX (.fa 1 o76),zW (.st 1 o77 o73)] (zs 78 [zM 8,zM 13,zX (.bin .eql o79 (zk 0)),zT 6 78,zT 7 80] .ret))) .skip)))))) (zs 6 [zX (.mv (zk 0)),zX (.mv (.c (.bool false)))] .ret))))))
theorem bNN : iA3 E aZU R134 (aXt E) := λ σ h => by kernel_rfl
def bPQ : DF := ⟨3, 81, aZU, R134⟩
def bKK : cE := fA3 (aXt E)
theorem bDG : SQ bPQ bKK := λ E => eA3 (d := bPQ) (bNN E) rfl
def bEz : List RV := [(.r p2)]
def aPf (r0 r5 : DV) (h : H) : aU := wK (aD E 160 [r0, (ii 1)] h) λ x1 h2 => vK (bV x1 r5) λ x3 => some (x3, h2)
def aZS : DC := (zs 87 [zM 0,zF 160 [o87,(zk 1)],zM 5,zX (.bin .eql o88 o89),zT 2 90] .ret)
def aJA (E : bO) (i2 : DV → DV → H → aU) (r5 r44 : DV) (h : H) : aU := vK (bJ r44 (ii 1)) λ x1 => i2 r5 x1 h
def aZQ : DC := (zr 44 [zY 86 (.bin .add tZ (zk 1)),zM 86])
def bQF (r0 r3 r43 : DV) (i2 : DV → DV → H → aU) (r5 r44 : DV) (h : H) : aU := vK (cT r44 (ii 256)) λ x1 => bK x1 (vK (xV 256 2 true r43 r44) λ x2 => eD 2 2 (.list [(ii 0), .nili]) h λ x3 h4 => wK (bU 2 x3 x2 h4) λ x5 h6 => vK (aF 1 x3) λ x7 => vK (aG h6.get x7) λ x8 => vK (tT 141 .nilp true x8) λ x9 => vK (aI 1 x9) λ x10 => vK (aI 0 x9) λ x11 => bK x10 (vK (bR 1 r3 r44) λ x12 => vK (aG h6.get x12) λ x13 => vK (aL x11) λ x14 => vK (aF 1 x14) λ x15 => wK (bU 1 x15 x13 h6) λ x16 h17 => vK (aL x11) λ x18 => vK (aF 1 x18) λ x19 => vK (aG h17.get x19) λ x20 => vK (cT x20 (ii 1)) λ x21 => bE x21 false (λ kk => kk x11 h17) h17 λ x22 h23 => bE x21 false (λ kk => vK (aL x22) λ v => kk v h23) h23 λ x24 h25 => bE x21 false (λ kk => vK (aF 1 x24) λ v => kk v h25) h25 λ x26 h27 => bE x21 false (λ kk => vK (aG h27.get x26) λ v => kk v h27) h27 λ x28 h29 => bE x21 false (λ kk => vK (eF x28 (ii 100)) λ v => kk v h29) h29 λ x30 h31 => vK (aX x21 (.bool true) x30) λ x32 => bK x32 (some ((.bool false), h31)) (aJA E i2 r5 r44 h31)) (vK (tT 120 (.agg [.nilp]) true x8) λ x33 => vK (aI 1 x33) λ x34 => vK (aI 0 x33) λ x35 => bK x34 (eD 1 1 (.list [.nilp]) h6 λ x36 h37 => wK (bU 1 x36 x35 h37) λ x38 h39 => vK (bJ r5 (ii 1)) λ x40 => vK (dD r44 (ii 1)) λ x41 => bE x41 true (λ kk => kk r3 h39) h39 λ x42 h43 => bE x41 true (λ kk => kk r44 h43) h43 λ x44 h45 => bE x41 true (λ kk => vK (bR 1 x42 x44) λ v => kk v h45) h45 λ x46 h47 => bE x41 true (λ kk => vK (aG h47.get x46) λ v => kk v h47) h47 λ x48 h49 => bE x41 true (λ kk => vK (dD x48 (ii 1)) λ v => kk v h49) h49 λ x50 h51 => vK (aX x41 x50 (.bool false)) λ x52 => bK x52 (some ((.bool false), h51)) (aJA E i2 x40 r44 h51)) (aJA E i2 r5 r44 h6))) (aPf E r0 r5 h)
def aFk (r0 r3 r43 : DV) (n : Nat) : DV → DV → H → aU := Nat.rec (motive := λ _ => DV → DV → H → aU) (λ _ _ _ => none) (λ _ i => bQF E r0 r3 r43 i) n
def aZR : DC := (.loop (zs 45 [zX (.bin .lss tZ (zk 256))] (zq (.cond zV .skip (.exit 0)) (zq (.block 1 (zs 46 [zM 44,zX (.ixA 256 2 true uB tZ),zY 7 (.alc 2 2 (.list [(.int .i64 (.ofNat 0)),.nili])),zT 6 46,zW (.st 2 o7 o47)] (zs 48 [zX (.fa 1 o7),zX (.ld o48)] (.block 2 (zs 50 [zX (.tas 141 .nilp true o49),zX (.ext 1 o50),zX (.ext 0 o50)] (.cond o51 (zs 8 [zM 52] (zs 53 [zM 8,zM 3,zM 6,zX (.iaS 1 o54 o55),zX (.ld o56),zX (.nilchk o53),zX (.fa 1 o58),zW (.st 1 o59 o57)] (zs 60 [zM 8,zX (.nilchk o60),zX (.fa 1 o61),zX (.ld o62),zX (.bin .lss o63 (zk 1)),zM 64,zL 65 false 8,zG 65 false (.nilchk o66),zG 65 false (.fa 1 o67),zG 65 false (.ld o68),zG 65 false (.bin .gtr o69 (zk 100)),zX (.pick o65 (.c (.bool true)) o70)] (.cond o71 (zs 2 [zX (.mv (.c (.bool false)))] .ret) .skip)))) (zs 72 [zX (.tas 120 (.agg [.nilp]) true o49),zX (.ext 1 o72),zX (.ext 0 o72)] (.cond o73 (zs 9 [zX (.alc 1 1 (.list [.nilp])),zW (.st 1 o9 o74)] (zs 75 [zM 5,zX (.bin .add o75 (zk 1)),zT 5 76] (zs 77 [zM 6,zX (.bin .neq o77 (zk 1)),zM 78,zL 79 true 3,zL 79 true 6,zG 79 true (.iaS 1 o80 o81),zG 79 true (.ld o82),zG 79 true (.bin .neq o83 (zk 1)),zX (.pick o79 o84 (.c (.bool false)))] (.cond o85 (zs 2 [zX (.mv (.c (.bool false)))] .ret) .skip)))) .skip)))))))) aZQ))))
def aXs (r0 : DV) (h : H) : aU := wK (aD E 158 [r0] h) λ x1 h2 => vK (aI 0 x1) λ x3 => vK (aI 1 x1) λ x4 => vK (kT x4) λ x5 => bE x5 false (λ kk => kk r0 h2) h2 λ x6 h7 => bE x5 false (λ kk => wK (aD E 87 [x6, (ii 1)] h7) kk) h7 λ x8 h9 => bE x5 false (λ kk => vK (dT .ptr false h9.get x8 .nilp) λ v => kk v h9) h9 λ x10 h11 => vK (aX x5 (.bool true) x10) λ x12 => bE x12 false (λ kk => kk x3 h11) h11 λ x13 h14 => bE x12 false (λ kk => vK (bR 1 x13 (ii 1)) λ v => kk v h14) h14 λ x15 h16 => bE x12 false (λ kk => vK (aG h16.get x15) λ v => kk v h16) h16 λ x17 h18 => bE x12 false (λ kk => vK (eF x17 (ii 0)) λ v => kk v h18) h18 λ x19 h20 => vK (aX x12 (.bool true) x19) λ x21 => bE x21 false (λ kk => kk r0 h20) h20 λ x22 h23 => bE x21 false (λ kk => vK (aL x22) λ v => kk v h23) h23 λ x24 h25 => bE x21 false (λ kk => vK (aF 513 x24) λ v => kk v h25) h25 λ x26 h27 => bE x21 false (λ kk => vK (aG h27.get x26) λ v => kk v h27) h27 λ x28 h29 => bE x21 false (λ kk => vK (eF x28 (ii 65536)) λ v => kk v h29) h29 λ x30 h31 => vK (aX x21 (.bool true) x30) λ x32 => bE x32 false (λ kk => kk r0 h31) h31 λ x33 h34 => bE x32 false (λ kk => wK (aD E 159 [x33] h34) kk) h34 λ x35 h36 => bE x32 false (λ kk => vK (kT x35) λ v => kk v h36) h36 λ x37 h38 => vK (aX x32 (.bool true) x37) λ x39 => bK x39 (some ((.bool false), h38)) (vK (aL r0) λ x40 => vK (aF 0 x40) λ x41 => vK (aK 512 h38.get x41) λ x42 => aFk E r0 x3 x42 aR (ii 0) (ii 0) h38)
def aZT : DC := (zs 2 [zX (.mv (.c (.bool false)))] (zs 11 [zM 0,zF 158 [gE],zT 10 12,zX (.ext 0 fS),zX (.ext 1 fS),zT 3 13,zT 4 14] (zq (zs 20 [zT 15 4,zY 16 (.not jO),zT 17 16,zD ⟨(some p18),(some (p17,false)),(.e (.mv o0))⟩,zD ⟨(some p19),(some (p17,false)),(.c (.f 87 [iH,(zk 1)]))⟩,zG 17 false (.eqv .ptr false iQ (.c .nilp)),zX (.pick iT (.c (.bool true)) jD),zM 21,zL 22 false 3,zG 22 false (.iaS 1 iD (zk 1)),zG 22 false (.ld iP),zG 22 false (.bin .gtr kU (zk 0)),zX (.pick kD (.c (.bool true)) lY),zM 27,zL 28 false 0,zG 28 false (.nilchk mN),zG 28 false (.fa 513 mD),zG 28 false (.ld oD),zG 28 false (.bin .gtr lC (zk 65536)),zX (.pick lW (.c (.bool true)) mX),zM 34,zL 35 false 0,zD ⟨(some p37),(some (p35,false)),(.c (.f 159 [mW]))⟩,zD ⟨(some p38),(some (p35,false)),(.e (.not pA))⟩,zY 39 (.pick rA (.c (.bool true)) tF)] (.cond rN (zs 2 [zX (.mv (.c (.bool false)))] .ret) .skip)) (zs 5 [zX (.mv (zk 0))] (zq (zs 40 [zM 0,zX (.nilchk qZ),zX (.fa 0 wO),zX (.ldN 512 uC),zX (.mv (zk 0))] (.block 0 aZR)) aZS)))))
theorem bNL : Is E aZS (bN bEz) (λ σ h => aPf E (σ p0) (σ p5) h) := λ σ h => by kernel_rfl
abbrev aWL : gS (DV × H) := (cF (λ σ h => aPf E (σ p0) (σ p5) h) (bN bEz))
abbrev bLp (n2 : Nat) : gS (DV × H) := (cF (λ σ h => (aFk E (σ p0) (σ p3) (σ p43) n2) (σ p5) (σ p44) h) (bL 0 (aWL E)))
theorem bNJ (n2 : Nat) : Is E aZQ (bLp E n2) (λ σ h => aJA E (aFk E (σ p0) (σ p3) (σ p43) n2) (σ p5) (σ p44) h) := λ σ h => by kernel_rfl
theorem bNK : Is E aZR (bL 0 (aWL E)) (λ σ h => aFk E (σ p0) (σ p3) (σ p43) aR (σ p5) (σ p44) h) := Is.loop (λ n2 σ h => aFk E (σ p0) (σ p3) (σ p43) n2 (σ p5) (σ p44) h) (by kernel_rfl) λ n2 => Is.as (Is.seq (Is.seq (Is.seq (bNJ E n2) (Is.leaf _)) (Is.leaf _)) (Is.leaf _)) λ σ h => by kernel_rfl
theorem bNM : oE E aZT bEz (aXs E) := Is.as (Is.seq (Is.seq (Is.seq (Is.seq (Is.seq (bNL E) (Is.seq (Is.block (bNK E)) (Is.leaf _))) (Is.leaf _)) (Is.leaf _)) (Is.leaf _)) (Is.leaf _)) λ σ h => by kernel_rfl
def bPP : DF := ⟨1, 91, aZT, bEz⟩
def bKJ : cE := oF (aXs E)
theorem bDF : SQ bPP bKJ := λ E => oJ (d := bPP) (bNM E) rfl
def bEy : List RV := [(.r p2),(.r p3)]
def aPe (E : bO) (r4 : DV) (h : H) : aU := some ((.tup [r4, (ii 0)]), h)
def aZO : DC := (zs 2 [zT 47 4,zM 47,zX (.mv (zk 0))] .ret)
def zQ (E : bO) (i2 : DV → DV → H → aU) (r4 r23 : DV) (h : H) : aU := vK (bJ r23 (ii 1)) λ x1 => i2 r4 x1 h
def aZM : DC := (zr 23 [zY 46 (.bin .add iD (zk 1)),zM 46])
def aJy (i2 : DV → DV → H → aU) (r4 r6 r23 : DV) (h : H) : aU := wK (aD E 146 [r6] h) λ x1 h2 => vK (kT x1) λ x3 => bK x3 (some ((.tup [.nils, (ii 15)]), h2)) (gO 1 1 [(.str [])] [(0, 1, r6)] h2 λ x4 h5 => wK (cA 1 16 r4 x4 h5) λ x6 h7 => zQ E i2 x6 r23 h7)
def aZL : DC := (zq (zs 39 [zM 6,zF 146 [rN],zX (.not qZ)] (.cond wO (zs 2 [zX (.mv (.c .nils)),zX (.mv (zk 15))] .ret) .skip)) (zr 42 [zM 4,zM 6,zX (.bsl 1 1 [(.str [])] [(0,1,uB)]),zD ⟨(some p45),none,(.w (.app 1 16 uC tZ))⟩,zT 4 45]))
def aFp (i2 : DV → DV → H → aU) (r4 r6 r23 r27 r28 : DV) (h : H) : aU := bK r28 (zQ E i2 r4 r23 h) (vK (bV r27 (.str [46, 46])) λ x1 => bK x1 (vK (bX r4) λ x2 => vK (fA x2 (ii 1)) λ x3 => vK (aBl x3 (ii 0)) λ x4 => vK (dK 1 r4 none (some x4)) λ x5 => zQ E i2 x5 r23 h) (aJy E i2 r4 r6 r23 h))
def aZK : DC := (.cond lW (.exit 1) (zs 31 [zY 32 (.bin .eql lD (.c (.str [46,46]))),zM 32] (.cond oD (zs 33 [zM 4,zM 4,zX (.lenL mR),zX (.bin .sub rA (zk 1)),zX (.mx mW (zk 0)),zX (.slL 1 mX none (some pA)),zT 4 38] (.exit 1)) .skip)))
def aFJ (r21 r22 : DV) (i2 : DV → DV → H → aU) (r4 r23 : DV) (h : H) : aU := vK (cT r23 r22) λ x1 => bK x1 (vK (bR 1 r21 r23) λ x2 => vK (aG h.get x2) λ x3 => vK (bV x3 (.str [])) λ x4 => bK x4 (aFp E i2 r4 x3 r23 x3 x4 h) (vK (bV x3 (.str [46])) λ x5 => aFp E i2 r4 x3 r23 x3 x5 h)) (aPe E r4 h)
def mL (r21 r22 : DV) (n : Nat) : DV → DV → H → aU := Nat.rec (motive := λ _ => DV → DV → H → aU) (λ _ _ _ => none) (λ _ i => aFJ E r21 r22 i) n
def aZN : DC := (.loop (zs 24 [zX (.bin .lss iD kD)] (zq (.cond iP .skip (.exit 0)) (zq (.block 1 (zs 25 [zX (.iaS 1 iG iD),zX (.ld kU),zT 6 26] (zq (zs 27 [zM 6] (.block 2 (zq (zs 28 [zY 29 (.bin .eql lD (.c (.str []))),zM 29] (.cond lW .skip (zr 28 [zY 30 (.bin .eql lD (.c (.str [46]))),zM 30]))) aZK))) aZL))) aZM))))
def aJz (r0 : DV) (h : H) : aU := vK (bV r0 (.str [])) λ x1 => bE x1 false (λ kk => kk r0 h) h λ x2 h3 => bE x1 false (λ kk => vK (gJ x2 (ii 0)) λ v => kk v h3) h3 λ x4 h5 => bE x1 false (λ kk => vK (dD x4 (.int .u8 (.ofNat 47))) λ v => kk v h5) h5 λ x6 h7 => vK (aX x1 (.bool true) x6) λ x8 => bE x8 false (λ kk => kk r0 h7) h7 λ x9 h10 => bE x8 false (λ kk => vK (bZ x9) λ v => kk v h10) h10 λ x11 h12 => bE x8 false (λ kk => vK (eF x11 (ii 255)) λ v => kk v h12) h12 λ x13 h14 => vK (aX x8 (.bool true) x13) λ x15 => bK x15 (some ((.tup [.nils, (ii 15)]), h14)) (vK (gX r0 (some (ii 1)) none) λ x16 => wK (aD E 161 [x16, (.str [47])] h14) λ x17 h18 => vK (bX x17) λ x19 => mL E x17 x19 aR .nils (ii 0) h18)
def aZP : DC := (zs 2 [zX (.mv (.c .nils)),zX (.mv (zk 0))] (.scope (zq (zs 7 [zM 0,zX (.bin .eql o7 (.c (.str []))),zM 8,zL 9 false 0,zG 9 false (.ixS fS (zk 0)),zG 9 false (.bin .neq gE (.c (.int .u8 (.ofNat 47)))),zX (.pick o9 (.c (.bool true)) fV),zM 13,zL 14 false 0,zG 14 false (.lenS jO),zG 14 false (.bin .gtr iC (zk 255)),zX (.pick iU (.c (.bool true)) iT)] (.cond iH (zs 2 [zX (.mv (.c .nils)),zX (.mv (zk 15))] .ret) .skip)) (zs 4 [zX (.mv (.c .nils))] (zq .skip (zq (zs 19 [zM 0,zX (.slS iQ (some (zk 1)) none),zF 161 [jD,(.c (.str [47]))],zX (.lenL iG),zX (.mv (zk 0))] (.block 0 aZN)) aZO))))))
theorem bNH : Is E aZO (aDr (bN bEy)) (λ σ h => aPe E (σ p4) h) := λ σ h => by kernel_rfl
abbrev aWK : gS (DV × H) := (cF (λ σ h => aPe E (σ p4) h) (aDr (bN bEy)))
abbrev aWJ (n2 : Nat) : gS (DV × H) := (cF (λ σ h => (mL E (σ p21) (σ p22) n2) (σ p4) (σ p23) h) (bL 0 (aWK E)))
theorem bNF (n2 : Nat) : Is E aZM (aWJ E n2) (λ σ h => zQ E (mL E (σ p21) (σ p22) n2) (σ p4) (σ p23) h) := λ σ h => by kernel_rfl
abbrev aWI (n2 : Nat) : gS (DV × H) := (cF (λ σ h => zQ E (mL E (σ p21) (σ p22) n2) (σ p4) (σ p23) h) (aWJ E n2))
theorem bNE (n2 : Nat) : Is E aZL (bL 1 (aWI E n2)) (λ σ h => aJy E (mL E (σ p21) (σ p22) n2) (σ p4) (σ p6) (σ p23) h) := λ σ h => by kernel_rfl
abbrev bLo (n2 : Nat) : gS (DV × H) := (cF (λ σ h => aJy E (mL E (σ p21) (σ p22) n2) (σ p4) (σ p6) (σ p23) h) (bL 1 (aWI E n2)))
theorem bND (n2 : Nat) : Is E aZK (bL 2 (bLo E n2)) (λ σ h => aFp E (mL E (σ p21) (σ p22) n2) (σ p4) (σ p6) (σ p23) (σ p27) (σ p28) h) := λ σ h => by kernel_rfl
theorem bNG : Is E aZN (bL 0 (aWK E)) (λ σ h => mL E (σ p21) (σ p22) aR (σ p4) (σ p23) h) := Is.loop (λ n2 σ h => mL E (σ p21) (σ p22) n2 (σ p4) (σ p23) h) (by kernel_rfl) λ n2 => Is.as (Is.seq (Is.seq (Is.seq (bNF E n2) (Is.block (Is.seq (Is.seq (bNE E n2) (Is.seq (Is.block (Is.seq (bND E n2) (Is.leaf _))) (Is.leaf _))) (Is.leaf _)))) (Is.leaf _)) (Is.leaf _)) λ σ h => by kernel_rfl
theorem bNI : oE E aZP bEy (aJz E) := Is.as (Is.seq (Is.scope (Is.seq (Is.seq (Is.seq (Is.seq (bNH E) (Is.seq (Is.block (bNG E)) (Is.leaf _))) (Is.leaf _)) (Is.leaf _)) (Is.leaf _))) (Is.leaf _)) λ σ h => by kernel_rfl
def bPO : DF := ⟨1, 48, aZP, bEy⟩
def aWd : cE := oF (aJz E)
theorem bDE : SQ bPO aWd := λ E => oJ (d := bPO) (bNI E) rfl
def bEx : List RV := [(.r p4),(.r p5)]
def aJw (E : bO) (r6 : DV) (h : H) : aU := some ((.tup [r6, (ii 0)]), h)
def aZI : DC := (zs 4 [zT 34 6,zM 34,zX (.mv (zk 0))] .ret)
def aFI (r0 r12 r13 : DV) (i2 : DV → DV → H → aU) (r6 r14 : DV) (h : H) : aU := vK (cT r14 r13) λ x1 => bK x1 (vK (bR 1 r12 r14) λ x2 => vK (aG h.get x2) λ x3 => wK (aD E 87 [r0, r6] h) λ x4 h5 => vK (dT .ptr false h5.get x4 .nilp) λ x6 => bK x6 (some ((.tup [(ii 0), (ii 13)]), h5)) (wK (aD E 145 [x4, x3] h5) λ x7 h8 => vK (aI 0 x7) λ x9 => vK (aI 1 x7) λ x10 => vK (dD x10 (ii 0)) λ x11 => bK x11 (some ((.tup [(ii 0), x10]), h8)) (vK (bJ r14 (ii 1)) λ x12 => i2 x9 x12 h8))) (aJw E r6 h)
def aCi (r0 r12 r13 : DV) (n : Nat) : DV → DV → H → aU := Nat.rec (motive := λ _ => DV → DV → H → aU) (λ _ _ _ => none) (λ _ i => aFI E r0 r12 r13 i) n
def aZH : DC := (.loop (zs 15 [zX (.bin .lss iU gN)] (zq (.cond jO .skip (.exit 0)) (zq (.block 1 (zs 16 [zX (.iaS 1 fV iU),zX (.ld iC),zT 8 17] (zs 18 [zM 0,zM 6,zF 87 [iH,iQ],zT 9 20] (zq (zs 21 [zM 9,zX (.eqv .ptr false iG (.c .nilp))] (.cond kD (zs 4 [zX (.mv (zk 0)),zX (.mv (zk 13))] .ret) .skip)) (zs 24 [zM 9,zM 8,zF 145 [iP,kU],zT 23 26,zX (.ext 0 iD),zX (.ext 1 iD),zT 10 27,zT 11 28] (zq (zs 29 [zM 11,zX (.bin .neq mN (zk 0))] (.cond mD (zs 4 [zT 31 11,zX (.mv (zk 0)),zM 31] .ret) .skip)) (zr 6 [zT 32 10,zM 32]))))))) (zr 14 [zY 33 (.bin .add iU (zk 1)),zM 33])))))
def aJx (r0 r1 : DV) (h : H) : aU := vK (bX r1) λ x1 => aCi E r0 r1 x1 aR (ii 1) (ii 0) h
def aZJ : DC := (zs 4 [zX (.mv (zk 0)),zX (.mv (zk 0))] (zs 6 [zX (.mv (zk 1))] (zq (zs 12 [zM 1,zX (.lenL fV),zX (.mv (zk 0))] (.block 0 aZH)) aZI)))
theorem bNB : Is E aZI (bN bEx) (λ σ h => aJw E (σ p6) h) := λ σ h => by kernel_rfl
abbrev bLn : gS (DV × H) := (cF (λ σ h => aJw E (σ p6) h) (bN bEx))
theorem bNA : Is E aZH (bL 0 (bLn E)) (λ σ h => aCi E (σ p0) (σ p12) (σ p13) aR (σ p6) (σ p14) h) := Is.loop (λ n2 σ h => aCi E (σ p0) (σ p12) (σ p13) n2 (σ p6) (σ p14) h) (by kernel_rfl) λ n2 => Is.as (Is.leaf _) λ σ h => by kernel_rfl
theorem bNC : nK E aZJ bEx (aJx E) := Is.as (Is.seq (Is.seq (Is.seq (bNB E) (Is.seq (Is.block (bNA E)) (Is.leaf _))) (Is.leaf _)) (Is.leaf _)) λ σ h => by kernel_rfl
def bPN : DF := ⟨2, 35, aZJ, bEx⟩
def aWc : cE := nL (aJx E)
theorem bDD : SQ bPN aWc := λ E => nY (d := bPN) (bNC E) rfl
def aTd : List RV := [(.r p6),(.r p7)]
def aJv (E : bO) (r8 : DV) (h : H) : aU := vK (mO h.get r8) λ x1 => some ((.tup [x1, (ii 0)]), h)
def aZD : DC := (zs 53 [zM 8,zX (.b2s o53),zT 6 54,zY 7 (.mv (zk 0))] .ret)
def aFG (r1 r2 r8 : DV) (i4 : DV → H → aU) (r9 : DV) (h : H) : aU := vK (bZ r2) λ x1 => vK (cT r9 x1) λ x2 => bK x2 (vK (bJ r1 r9) λ x3 => vK (gJ r2 r9) λ x4 => vK (bR 1 r8 x3) λ x5 => wK (bU 1 x5 x4 h) λ x6 h7 => vK (bJ r9 (ii 1)) λ x8 => i4 x8 h7) (aJv E r8 h)
def aCg (r1 r2 r8 : DV) (n : Nat) : DV → H → aU := Nat.rec (motive := λ _ => DV → H → aU) (λ _ _ => none) (λ _ i => aFG E r1 r2 r8 i) n
def aZC : DC := (.loop (zq (zs 39 [zM 9,zM 2,zX (.lenS qZ),zX (.bin .lss rN wO)] (.cond uC .skip (.exit 2))) (zq (.block 3 (zr 45 [zM 8,zM 1,zM 9,zX (.bin .add xY o47),zM 2,zM 9,zX (.ixS o49 o50),zX (.iaS 1 zV o48),zW (.st 1 o52 o51)])) (zr 43 [zM 9,zX (.bin .add uB (zk 1)),zT 9 44]))))
def aFo (r1 r2 r8 : DV) (h : H) : aU := aCg E r1 r2 r8 aR (ii 0) h
def aZF : DC := (zq (zs 9 [zX (.mv (zk 0))] (.block 2 aZC)) aZD)
def aFH (r1 r2 : DV) (i2 : DV → H → aU) (r8 : DV) (h : H) : aU := vK (bX r8) λ x1 => vK (bZ r2) λ x2 => vK (bJ r1 x2) λ x3 => vK (cT x1 x3) λ x4 => bK x4 (gO 1 1 [(.int .u8 (.ofNat 0))] [(0, 1, (.int .u8 (.ofNat 0)))] h λ x5 h6 => wK (cA 1 1 r8 x5 h6) λ x7 h8 => i2 x7 h8) (aFo E r1 r2 r8 h)
def aCh (r1 r2 : DV) (n : Nat) : DV → H → aU := Nat.rec (motive := λ _ => DV → H → aU) (λ _ _ => none) (λ _ i => aFH E r1 r2 i) n
def aZE : DC := (.loop (zq (zs 29 [zM 8,zX (.lenL mN),zM 1,zM 2,zX (.lenS lC),zX (.bin .add oD mX),zX (.bin .lss mD mR)] (.cond rA .skip (.exit 0))) (.block 1 (zr 36 [zM 8,zX (.bsl 1 1 [(.int .u8 (.ofNat 0))] [(0,1,(.c (.int .u8 (.ofNat 0))))]),zD ⟨(some p38),none,(.w (.app 1 1 mW pA))⟩,zT 8 38]))))
def vY (r0 r1 r2 : DV) (h : H) : aU := vK (cT r1 (ii 0)) λ x1 => bK x1 (some ((.tup [(.str []), (ii 1)]), h)) (vK (bZ r0) λ x2 => vK (eF x2 (ii 65536)) λ x3 => bE x3 false (λ kk => kk r2 h) h λ x4 h5 => bE x3 false (λ kk => vK (bZ x4) λ v => kk v h5) h5 λ x6 h7 => bE x3 false (λ kk => vK (eF x6 (ii 65536)) λ v => kk v h7) h7 λ x8 h9 => vK (aX x3 (.bool true) x8) λ x10 => bE x10 false (λ kk => kk r1 h9) h9 λ x11 h12 => bE x10 false (λ kk => kk r2 h12) h12 λ x13 h14 => bE x10 false (λ kk => vK (bZ x13) λ v => kk v h14) h14 λ x15 h16 => bE x10 false (λ kk => vK (fA (ii 65536) x15) λ v => kk v h16) h16 λ x17 h18 => bE x10 false (λ kk => vK (eF x11 x17) λ v => kk v h18) h18 λ x19 h20 => vK (aX x10 (.bool true) x19) λ x21 => bK x21 (some ((.tup [(.str []), (ii 2)]), h20)) (aGO r0 h20 λ x22 h23 => aCh E r1 r2 aR x22 h23))
def aZG : DC := (zs 6 [zX (.mv (.c (.str []))),zX (.mv (zk 0))] (zq (zs 10 [zM 1,zX (.bin .lss fS (zk 0))] (.cond gE (zs 6 [zX (.mv (.c (.str []))),zX (.mv (zk 1))] .ret) .skip)) (zq (zs 12 [zM 0,zX (.lenS fV),zX (.bin .gtr gN (zk 65536)),zM 14,zL 15 false 2,zG 15 false (.lenS iC),zG 15 false (.bin .gtr iT (zk 65536)),zX (.pick jO (.c (.bool true)) iH),zM 19,zL 20 false 1,zL 20 false 2,zG 20 false (.lenS kD),zG 20 false (.bin .sub (zk 65536) iD),zG 20 false (.bin .gtr iG iP),zX (.pick jD (.c (.bool true)) kU)] (.cond lY (zs 6 [zX (.mv (.c (.str []))),zX (.mv (zk 2))] .ret) .skip)) (zs 27 [zM 0,zX (.s2b lD),zT 8 28] (zq (.block 0 aZE) aZF)))))
theorem bNw : Is E aZD (bN aTd) (λ σ h => aJv E (σ p8) h) := λ σ h => by kernel_rfl
abbrev bLm : gS (DV × H) := (cF (λ σ h => aJv E (σ p8) h) (bN aTd))
theorem bNv : Is E aZC (bL 2 (bLm E)) (λ σ h => aCg E (σ p1) (σ p2) (σ p8) aR (σ p9) h) := Is.loop (λ n4 σ h => aCg E (σ p1) (σ p2) (σ p8) n4 (σ p9) h) (by kernel_rfl) λ n4 => Is.as (Is.leaf _) λ σ h => by kernel_rfl
theorem bNy : Is E aZF (bN aTd) (λ σ h => aFo E (σ p1) (σ p2) (σ p8) h) := Is.as (Is.seq (bNw E) (Is.seq (Is.block (bNv E)) (Is.leaf _))) λ σ h => by kernel_rfl
abbrev bLl : gS (DV × H) := (cF (λ σ h => aFo E (σ p1) (σ p2) (σ p8) h) (bN aTd))
theorem bNx : Is E aZE (bL 0 (bLl E)) (λ σ h => aCh E (σ p1) (σ p2) aR (σ p8) h) := Is.loop (λ n2 σ h => aCh E (σ p1) (σ p2) n2 (σ p8) h) (by kernel_rfl) λ n2 => Is.as (Is.leaf _) λ σ h => by kernel_rfl
theorem bNz : iA3 E aZG aTd (vY E) := Is.as (Is.seq (Is.seq (Is.seq (Is.seq (Is.seq (bNy E) (Is.block (bNx E))) (Is.leaf _)) (Is.leaf _)) (Is.leaf _)) (Is.leaf _)) λ σ h => by kernel_rfl
def bPM : DF := ⟨3, 55, aZG, aTd⟩
def aSX : cE := fA3 (vY E)
theorem bDC : SQ bPM aSX := λ E => eA3 (d := bPM) (bNz E) rfl
def R140 : List RV := [(.r p6),(.r p7)]
def vX (E : bO) (r0 r1 r2 : DV) (h : H) : aU := vK (cT r1 (ii 0)) λ x1 => bK x1 (some ((.tup [(.str []), (ii 1)]), h)) (vK (bZ r0) λ x2 => vK (eF x2 (ii 65536)) λ x3 => bE x3 false (λ kk => kk r2 h) h λ x4 h5 => bE x3 false (λ kk => vK (bZ x4) λ v => kk v h5) h5 λ x6 h7 => bE x3 false (λ kk => vK (eF x6 (ii 65536)) λ v => kk v h7) h7 λ x8 h9 => vK (aX x3 (.bool true) x8) λ x10 => bE x10 false (λ kk => kk r1 h9) h9 λ x11 h12 => bE x10 false (λ kk => kk r2 h12) h12 λ x13 h14 => bE x10 false (λ kk => vK (bZ x13) λ v => kk v h14) h14 λ x15 h16 => bE x10 false (λ kk => vK (fA (ii 65536) x15) λ v => kk v h16) h16 λ x17 h18 => bE x10 false (λ kk => vK (eF x11 x17) λ v => kk v h18) h18 λ x19 h20 => vK (aX x10 (.bool true) x19) λ x21 => bK x21 (some ((.tup [(.str []), (ii 2)]), h20)) (vK (bZ r0) λ x22 => vK (bZ r2) λ x23 => vK (bJ r1 x23) λ x24 => vK (aBl x22 x24) λ x25 => tV 1 1 (.int .u8 (.ofNat 0)) x25 x25 h20 λ x26 h27 => wK (lM 1 x26 r0 h27) λ x28 h29 => vK (dK 1 x26 (some r1) none) λ x30 => wK (lM 1 x30 r2 h29) λ x31 h32 => vK (mO h32.get x26) λ x33 => some ((.tup [x33, (ii 0)]), h32)))
def aZB : DC := (zs 6 [zX (.mv (.c (.str []))),zX (.mv (zk 0))] (zq (.block 0 (zs 10 [zM 1,zX (.bin .lss fS (zk 0)),zT 9 11] (.cond o9 (zs 6 [zX (.mv (.c (.str []))),zX (.mv (zk 1))] .ret) (zs 13 [zM 0,zX (.lenS gN),zX (.bin .gtr iU (zk 65536)),zM 15,zL 16 false 2,zG 16 false (.lenS iT),zG 16 false (.bin .gtr iH (zk 65536)),zX (.pick iC (.c (.bool true)) iQ),zM 20,zL 21 false 1,zL 21 false 2,zG 21 false (.lenS iD),zG 21 false (.bin .sub (zk 65536) iP),zG 21 false (.bin .gtr kD kU),zX (.pick iG (.c (.bool true)) lY),zT 12 27] (.cond fV (zs 6 [zX (.mv (.c (.str []))),zX (.mv (zk 2))] .ret) .skip))))) (zs 28 [zM 0,zX (.lenS lW),zM 1,zM 2,zX (.lenS oD),zX (.bin .add mD lC),zX (.mx mN mX),zX (.mks 1 1 (.int .u8 (.ofNat 0)) mR mR),zT 8 35] (zs 36 [zM 8,zM 0,zD ⟨(some p38),none,(.w (.cpy 1 mW pA))⟩] (zs 39 [zM 8,zM 1,zX (.slL 1 rN (some qZ) none),zM 2,zD ⟨(some p43),none,(.w (.cpy 1 wO uC))⟩] (zs 44 [zM 8,zX (.b2s tZ),zT 6 45,zY 7 (.mv (zk 0))] .ret))))))
theorem bNu : iA3 E aZB R140 (vX E) := λ σ h => by kernel_rfl
def bPL : DF := ⟨3, 46, aZB, R140⟩
def aSW : cE := fA3 (vX E)
theorem bDB : SQ bPL aSW := λ E => eA3 (d := bPL) (bNu E) rfl
def bEw : List RV := [(.r p2)]
def aPd (E : bO) (h : H) : aU := some ((ii 0), h)
def aZz : DC := (zs 2 [zX (.mv (zk 0))] .ret)
def aFF (r0 : DV) (i2 : DV → H → aU) (r3 : DV) (h : H) : aU := vK (cT r3 (ii 256)) λ x1 => bK x1 (vK (aL r0) λ x2 => vK (aF 0 x2) λ x3 => vK (lO 256 2 x3 r3) λ x4 => vK (aF 1 x4) λ x5 => vK (aG h.get x5) λ x6 => vK (dT .nilI false h.get x6 .nili) λ x7 => bK x7 (some (r3, h)) (vK (bJ r3 (ii 1)) λ x8 => i2 x8 h)) (aPd E h)
def aCf (r0 : DV) (n : Nat) : DV → H → aU := Nat.rec (motive := λ _ => DV → H → aU) (λ _ _ => none) (λ _ i => aFF E r0 i) n
def aZy : DC := (.loop (zq (zs 4 [zM 3,zX (.bin .lss o4 (zk 256))] (.cond o5 .skip (.exit 0))) (zq (.block 1 (zs 8 [zM 0,zM 3,zX (.nilchk o8),zX (.fa 0 fS),zX (.iaA 256 2 gE o9),zX (.fa 1 fV),zX (.ld gN),zX (.eqv .nilI false iU (.c .nili))] (.cond jO (zs 2 [zT 16 3,zM 16] .ret) .skip))) (zr 6 [zM 3,zX (.bin .add o6 (zk 1)),zT 3 7]))))
def aJu (r0 : DV) (h : H) : aU := aCf E r0 aR (ii 2) h
def aZA : DC := (zs 2 [zX (.mv (zk 0))] (zq (zs 3 [zX (.mv (zk 2))] (.block 0 aZy)) aZz))
theorem bNs : Is E aZz (bN bEw) (λ σ h => aPd E h) := λ σ h => by kernel_rfl
abbrev bLk : gS (DV × H) := (bL 0 (cF (λ σ h => aPd E h) (bN bEw)))
theorem bNr : Is E aZy (bLk E) (λ σ h => aCf E (σ p0) aR (σ p3) h) := Is.loop (λ n2 σ h => aCf E (σ p0) n2 (σ p3) h) (by kernel_rfl) λ n2 => Is.as (Is.leaf _) λ σ h => by kernel_rfl
theorem bNt : oE E aZA bEw (aJu E) := Is.as (Is.seq (Is.seq (bNs E) (Is.seq (Is.block (bNr E)) (Is.leaf _))) (Is.leaf _)) λ σ h => by kernel_rfl
def bPK : DF := ⟨1, 17, aZA, bEw⟩
def aWb : cE := oF (aJu E)
theorem bDA : SQ bPK aWb := λ E => oJ (d := bPK) (bNt E) rfl
def R142 : List RV := [(.r p4),(.r p5)]
def aJt (r0 r1 : DV) (h : H) : aU := vK (dT .ptr false h.get r0 .nilp) λ x1 => bK x1 (some ((.tup [(ii 0), (.bool false)]), h)) (vK (aL r0) λ x2 => vK (aF 0 x2) λ x3 => vK (aG h.get x3) λ x4 => wK (aD E 162 [x4, r1, (.fn (.func 163) [] [])] h) λ x5 h6 => vK (aI 0 x5) λ x7 => vK (aI 1 x5) λ x8 => some ((.tup [x7, x8]), h6))
def aZx : DC := (zs 4 [zX (.mv (zk 0)),zX (.mv (.c (.bool false)))] (zq (zs 6 [zM 0,zX (.eqv .ptr false o6 (.c .nilp))] (.cond o7 (zs 4 [zX (.mv (zk 0)),zX (.mv (.c (.bool false)))] .ret) .skip)) (zs 8 [zM 0,zX (.nilchk o8),zX (.fa 0 o9),zX (.ld fS),zM 1,zF 162 [gE,fV,(.c (.fn (.func 163) [] []))],zX (.ext 0 gN),zX (.ext 1 gN),zT 4 14,zT 5 15] .ret)))
theorem bNq : nK E aZx R142 (aJt E) := λ σ h => by kernel_rfl
def bPJ : DF := ⟨2, 16, aZx, R142⟩
def aWa : cE := nL (aJt E)
theorem bDz : SQ bPJ aWa := λ E => nY (d := bPJ) (bNq E) rfl
def R143 : List RV := [(.r p6)]
def aJs (E : bO) (r0 r1 r2 : DV) (h : H) : aU := vK (bX r0) λ x1 => vK (xS 2 r0 (some r1) r2 x1) λ x2 => vK (bV r1 r2) λ x3 => bK x3 (some (r0, h)) (vK (bX r0) λ x4 => vK (dK 2 r0 none (some r1)) λ x5 => vK (dK 2 r0 (some r2) none) λ x6 => wK (cA 2 24 x5 x6 h) λ x7 h8 => vK (bX x7) λ x9 => vK (dK 2 x7 (some x9) (some x4)) λ x10 => wK (vG [(.str []), (ii 0)] x10 h8) λ x11 h12 => some (x7, h12))
def aZw : DC := (zs 6 [zX (.mv (.c .nils))] (zs 8 [zM 0,zM 1,zM 2,zM 0,zX (.lenL gE),zX (.slM 2 o8 (some o9) fS fV)] (zq (zs 14 [zM 1,zM 2,zX (.bin .eql iU jO)] (.cond iC (zs 6 [zT 17 0,zM 17] .ret) .skip)) (zs 18 [zM 0,zX (.lenL iH),zT 7 19] (zq (zd 20 [yA 0 (zM 0),yA 1 (zM 1),yA 2 (zX (.slL 2 jD none (some iG))),yA 3 (zM 0),yA 4 (zM 2),yA 5 (zX (.slL 2 iD (some iP) none)),yA 6 (zD ⟨(some p26),none,(.w (.app 2 24 kD kU))⟩),yB 7 (zT 0 26) [] true]) (zs 27 [zM 0,zM 0,zX (.lenL lW),zM 7,zX (.slL 2 lD (some mN) (some mD)),zW (.clr [(.str []),(.int .i64 (.ofNat 0))] oD)] (zs 6 [zT 32 0,zM 32] .ret)))))))
theorem bNp : iA3 E aZw R143 (aJs E) := λ σ h => by kernel_rfl
def bPI : DF := ⟨3, 33, aZw, R143⟩
def aVZ : cE := fA3 (aJs E)
theorem bDy : SQ bPI aVZ := λ E => eA3 (d := bPI) (bNp E) rfl
def bEv : List RV := [(.r p4)]
def aPc (E : bO) (h : H) : aU := some ((.bool true), h)
def aZu : DC := (zs 4 [zX (.mv (.c (.bool true)))] .ret)
def aFE (r0 r1 r12 : DV) (i2 : DV → H → aU) (r13 : DV) (h : H) : aU := vK (cT r13 r12) λ x1 => bK x1 (vK (bR 1 r0 r13) λ x2 => vK (aG h.get x2) λ x3 => vK (bR 1 r1 r13) λ x4 => vK (aG h.get x4) λ x5 => vK (dD x3 x5) λ x6 => bK x6 (some ((.bool false), h)) (vK (bJ r13 (ii 1)) λ x7 => i2 x7 h)) (aPc E h)
def aCe (r0 r1 r12 : DV) (n : Nat) : DV → H → aU := Nat.rec (motive := λ _ => DV → H → aU) (λ _ _ => none) (λ _ i => aFE E r0 r1 r12 i) n
def aZt : DC := (.loop (zs 14 [zX (.bin .lss gN fV)] (zq (.cond iU .skip (.exit 0)) (zq (.block 1 (zs 5 [zT 15 13,zM 15] (zq (zd 16 [yA 0 (zM 0),yA 1 (zM 5),yA 2 (zX (.iaS 1 iC iT)),yA 3 (zX (.ld iH)),yA 4 (zM 1),yA 5 (zM 5),yA 6 (zX (.iaS 1 jD iG)),yA 7 (zX (.ld kD)),yA 8 (zX (.bin .neq iQ iD))]) (.cond iP (zs 4 [zX (.mv (.c (.bool false)))] .ret) .skip)))) (zr 13 [zY 25 (.bin .add gN (zk 1)),zM 25])))))
def aJr (r0 r1 : DV) (h : H) : aU := vK (bX r0) λ x1 => vK (bX r1) λ x2 => vK (dD x1 x2) λ x3 => bK x3 (some ((.bool false), h)) (vK (bX r0) λ x4 => aCe E r0 r1 x4 aR (ii 0) h)
def aZv : DC := (zs 4 [zX (.mv (.c (.bool false)))] (zq (zs 6 [zM 0,zX (.lenL o6),zM 1,zX (.lenL o8),zX (.bin .neq o7 o9)] (.cond fS (zs 4 [zX (.mv (.c (.bool false)))] .ret) .skip)) (zq (zs 11 [zM 0,zX (.lenL gE),zX (.mv (zk 0))] (.block 0 aZt)) aZu)))
theorem bNn : Is E aZu (bN bEv) (λ σ h => aPc E h) := λ σ h => by kernel_rfl
abbrev bLj : gS (DV × H) := (bL 0 (cF (λ σ h => aPc E h) (bN bEv)))
theorem bNm : Is E aZt (bLj E) (λ σ h => aCe E (σ p0) (σ p1) (σ p12) aR (σ p13) h) := Is.loop (λ n2 σ h => aCe E (σ p0) (σ p1) (σ p12) n2 (σ p13) h) (by kernel_rfl) λ n2 => Is.as (Is.leaf _) λ σ h => by kernel_rfl
theorem bNo : nK E aZv bEv (aJr E) := Is.as (Is.seq (Is.seq (Is.seq (bNn E) (Is.seq (Is.block (bNm E)) (Is.leaf _))) (Is.leaf _)) (Is.leaf _)) λ σ h => by kernel_rfl
def bPH : DF := ⟨2, 26, aZv, bEv⟩
def aVY : cE := nL (aJr E)
theorem bDx : SQ bPH aVY := λ E => nY (d := bPH) (bNo E) rfl
def R145 : List RV := [(.r p4),(.r p5)]
def aJq (r0 r1 : DV) (h : H) : aU := wK (aD E 142 [r0, r1] h) λ x1 h2 => vK (aI 0 x1) λ x3 => vK (aI 1 x1) λ x4 => vK (kT x4) λ x5 => bK x5 (some ((.tup [(ii 0), (ii 7)]), h2)) (vK (aL r0) λ x6 => vK (aF 0 x6) λ x7 => vK (aG h2.get x7) λ x8 => vK (bR 2 x8 x3) λ x9 => vK (aF 1 x9) λ x10 => vK (aG h2.get x10) λ x11 => some ((.tup [x11, (ii 0)]), h2))
def aZs : DC := (zs 4 [zX (.mv (zk 0)),zX (.mv (zk 0))] (zs 9 [zM 0,zM 1,zF 142 [o9,fS],zT 8 11,zX (.ext 0 o8),zX (.ext 1 o8),zT 6 12,zT 7 13] (zq (zs 14 [zM 7,zX (.not iU)] (.cond jO (zs 4 [zX (.mv (zk 0)),zX (.mv (zk 7))] .ret) .skip)) (zs 16 [zM 0,zX (.nilchk iC),zX (.fa 0 iT),zX (.ld iH),zM 6,zX (.iaS 2 iQ jD),zX (.fa 1 iG),zX (.ld kD),zT 4 23,zY 5 (.mv (zk 0))] .ret))))
theorem bNl : nK E aZs R145 (aJq E) := λ σ h => by kernel_rfl
def bPG : DF := ⟨2, 24, aZs, R145⟩
def aVX : cE := nL (aJq E)
theorem bDw : SQ bPG aVX := λ E => nY (d := bPG) (bNl E) rfl
def R146 : List RV := [(.r p2)]
def aJp (r0 : DV) (h : H) : aU := vK (dD r0 (.str [])) λ x1 => bE x1 true (λ kk => kk r0 h) h λ x2 h3 => bE x1 true (λ kk => vK (bZ x2) λ v => kk v h3) h3 λ x4 h5 => bE x1 true (λ kk => vK (xU x4 (ii 28)) λ v => kk v h5) h5 λ x6 h7 => vK (aX x1 x6 (.bool false)) λ x8 => bE x8 true (λ kk => kk r0 h7) h7 λ x9 h10 => bE x8 true (λ kk => vK (dD x9 (.str [46])) λ v => kk v h10) h10 λ x11 h12 => vK (aX x8 x11 (.bool false)) λ x13 => bE x13 true (λ kk => kk r0 h12) h12 λ x14 h15 => bE x13 true (λ kk => vK (dD x14 (.str [46, 46])) λ v => kk v h15) h15 λ x16 h17 => vK (aX x13 x16 (.bool false)) λ x18 => bE x18 true (λ kk => kk r0 h17) h17 λ x19 h20 => bE x18 true (λ kk => wK (aD E 164 [x19, (.int .u8 (.ofNat 47))] h20) kk) h20 λ x21 h22 => bE x18 true (λ kk => vK (cT x21 (ii 0)) λ v => kk v h22) h22 λ x23 h24 => vK (aX x18 x23 (.bool false)) λ x25 => bE x25 true (λ kk => kk r0 h24) h24 λ x26 h27 => bE x25 true (λ kk => wK (aD E 164 [x26, (.int .u8 (.ofNat 0))] h27) kk) h27 λ x28 h29 => bE x25 true (λ kk => vK (cT x28 (ii 0)) λ v => kk v h29) h29 λ x30 h31 => vK (aX x25 x30 (.bool false)) λ x32 => some (x32, h31)
def aZr : DC := (zs 2 [zX (.mv (.c (.bool false)))] (zs 3 [zM 0,zX (.bin .neq o3 (.c (.str []))),zM 4,zL 5 true 0,zG 5 true (.lenS o6),zG 5 true (.bin .leq o7 (zk 28)),zX (.pick o5 o8 (.c (.bool false))),zM 9,zL 10 true 0,zG 10 true (.bin .neq gE (.c (.str [46]))),zX (.pick fS fV (.c (.bool false))),zM 13,zL 14 true 0,zG 14 true (.bin .neq jO (.c (.str [46,46]))),zX (.pick iU iC (.c (.bool false))),zM 17,zL 18 true 0,zD ⟨(some p20),(some (p18,true)),(.c (.f 164 [iQ,(.c (.int .u8 (.ofNat 47)))]))⟩,zD ⟨(some p21),(some (p18,true)),(.e (.bin .lss jD (zk 0)))⟩,zY 22 (.pick iH iG (.c (.bool false))),zT 23 22,zD ⟨(some p24),(some (p23,true)),(.e (.mv o0))⟩,zD ⟨(some p25),(some (p23,true)),(.c (.f 164 [iP,(.c (.int .u8 (.ofNat 0)))]))⟩,zD ⟨(some p26),(some (p23,true)),(.e (.bin .lss kU (zk 0)))⟩,zY 27 (.pick iD lY (.c (.bool false))),zT 2 27] .ret))
theorem bNk : oE E aZr R146 (aJp E) := λ σ h => by kernel_rfl
def bPF : DF := ⟨1, 28, aZr, R146⟩
def aVW : cE := oF (aJp E)
theorem bDv : SQ bPF aVW := λ E => oJ (d := bPF) (bNk E) rfl
def R147 : List RV := [(.r p6)]
def aCo (r0 r1 r2 : DV) (h : H) : aU := vK (dK 2 r0 (some r1) none) λ x1 => vK (bX r2) λ x2 => vK (bV x2 (ii 0)) λ x3 => bK x3 (some (r0, h)) (vK (bX r0) λ x4 => vK (bV r1 x4) λ x5 => bK x5 (wK (cA 2 24 r0 r2 h) λ x6 h7 => some (x6, h7)) (vK (bJ x4 x2) λ x8 => vK (aDN r0) λ x9 => vK (eF x8 x9) λ x10 => bK x10 (vK (dK 2 r0 none (some r1)) λ x11 => vK (bJ x4 x2) λ x12 => vK (fA x12 r1) λ x13 => wK (aLX 2 24 [(.str []), (ii 0)] x11 x13 h) λ x14 h15 => vK (dK 2 x14 (some r1) none) λ x16 => wK (lM 2 x16 r2 h15) λ x17 h18 => vK (bJ r1 x2) λ x19 => vK (dK 2 x14 (some x19) none) λ x20 => vK (dK 2 r0 (some r1) none) λ x21 => wK (lM 2 x20 x21 h18) λ x22 h23 => some (x14, h23)) (vK (bJ x4 x2) λ x24 => vK (dK 2 r0 none (some x24)) λ x25 => vK (bJ r1 x2) λ x26 => vK (dK 2 x25 (some x26) none) λ x27 => vK (aKp h.get r2 x27) λ x28 => vK (kT x28) λ x29 => bK x29 (vK (bJ r1 x2) λ x30 => vK (dK 2 x25 (some x30) none) λ x31 => vK (dK 2 x25 (some r1) none) λ x32 => wK (lM 2 x31 x32 h) λ x33 h34 => vK (dK 2 x25 (some r1) none) λ x35 => wK (lM 2 x35 r2 h34) λ x36 h37 => some (x25, h37)) (vK (dK 2 x25 (some x4) none) λ x38 => wK (lM 2 x38 r2 h) λ x39 h40 => vK (dK 2 x25 (some r1) none) λ x41 => wK (aD E 166 [x41, x2] h40) λ x42 h43 => some (x25, h43)))))
def aZq : DC := (zs 6 [zX (.mv (.c .nils))] (zs 10 [zM 0,zM 1,zX (.slL 2 fS (some gE) none)] (zs 13 [zM 2,zX (.lenL gN),zT 7 14] (zq (zs 15 [zM 7,zX (.bin .eql jO (zk 0))] (.cond iC (zs 6 [zT 17 0,zM 17] .ret) .skip)) (zs 18 [zM 0,zX (.lenL iH),zT 8 19] (zq (zs 20 [zM 1,zM 8,zX (.bin .eql jD iG)] (.cond kD (zs 23 [zM 0,zM 2,zD ⟨(some p25),none,(.w (.app 2 24 iD iP))⟩,zT 6 25] .ret) .skip)) (zq (zs 26 [zM 8,zM 7,zX (.bin .add lY lD),zM 0,zX (.capL mN),zX (.bin .gtr lW mD)] (.cond oD (zs 32 [zM 0,zM 1,zX (.slL 2 lC none (some mX)),zM 8,zM 7,zX (.bin .add rA mW),zM 1,zX (.bin .sub pA tF),zD ⟨(some p40),none,(.w (.apz 2 24 [(.str []),(.int .i64 (.ofNat 0))] mR rN))⟩,zT 9 40] (zs 41 [zM 9,zM 1,zX (.slL 2 wO (some uC) none),zM 2,zD ⟨(some p45),none,(.w (.cpy 2 uB tZ))⟩] (zq (zd 46 [yA 0 (zM 9),yA 1 (zM 1),yA 2 (zM 7),yA 3 (zX (.bin .add o47 o48)),yA 4 (zX (.slL 2 xY (some o49) none)),yA 5 (zM 0),yA 6 (zM 1),yA 7 (zX (.slL 2 o51 (some o52) none)),yA 8 (zD ⟨(some p54),none,(.w (.cpy 2 o50 o53))⟩)]) (zs 6 [zT 55 9,zM 55] .ret)))) .skip)) (zs 56 [zM 0,zM 8,zM 7,zX (.bin .add o57 o58),zX (.slL 2 o56 none (some o59)),zT 0 60] (zq (zs 61 [zM 2,zM 0,zM 1,zM 7,zX (.bin .add o63 o64),zX (.slL 2 o62 (some o65) none),zX (.ovl o61 o66),zX (.not o67)] (.cond o68 (zq (zd 69 [yA 0 (zM 0),yA 1 (zM 1),yA 2 (zM 7),yA 3 (zX (.bin .add o70 o71)),yA 4 (zX (.slL 2 o69 (some o72) none)),yA 5 (zM 0),yA 6 (zM 1),yA 7 (zX (.slL 2 o74 (some o75) none)),yA 8 (zD ⟨(some p77),none,(.w (.cpy 2 o73 o76))⟩)]) (zs 78 [zM 0,zM 1,zX (.slL 2 o78 (some o79) none),zM 2,zD ⟨(some p82),none,(.w (.cpy 2 o80 o81))⟩] (zs 6 [zT 83 0,zM 83] .ret))) .skip)) (zs 84 [zM 0,zM 8,zX (.slL 2 o84 (some o85) none),zM 2,zD ⟨(some p88),none,(.w (.cpy 2 o86 o87))⟩] (zs 89 [zM 0,zM 1,zX (.slL 2 o89 (some o90) none),zM 7,zF 166 [o91,o92]] (zs 6 [zT 94 0,zM 94] .ret))))))))))))
theorem bNj : iA3 E aZq R147 (aCo E) := λ σ h => by kernel_rfl
def bPE : DF := ⟨3, 95, aZq, R147⟩
def aIP : cE := fA3 (aCo E)
theorem bDu : SQ bPE aIP := λ E => eA3 (d := bPE) (bNj E) rfl
def R148 : List RV := [(.r p2)]
def aJo (r0 : DV) (h : H) : aU := wK (aD E 167 [(.str [0]), r0] h) λ x1 h2 => some (x1, h2)
def aZp : DC := (zs 2 [zX (.mv (.c (.str [])))] (zs 3 [zM 0,zF 167 [(.c (.str [0])),o3],zT 2 4] .ret))
theorem bNi : oE E aZp R148 (aJo E) := λ σ h => by kernel_rfl
def bPD : DF := ⟨1, 5, aZp, R148⟩
def aSV : cE := oF (aJo E)
theorem bDt : SQ bPD aSV := λ E => oJ (d := bPD) (bNi E) rfl
def R150 : List RV := [(.r p2),(.r p3),(.r p4)]
def aJn (r0 : DV) (h : H) : aU := wK (aD E 154 [r0] h) λ x1 h2 => vK (aI 0 x1) λ x3 => vK (aI 1 x1) λ x4 => vK (dD x4 (ii 0)) λ x5 => bE x5 false (λ kk => kk x3 h2) h2 λ x6 h7 => bE x5 false (λ kk => vK (bX x6) λ v => kk v h7) h7 λ x8 h9 => bE x5 false (λ kk => vK (bV x8 (ii 0)) λ v => kk v h9) h9 λ x10 h11 => vK (aX x5 (.bool true) x10) λ x12 => bK x12 (some ((.tup [(.str []), (.str []), (ii 15)]), h11)) (vK (bX x3) λ x13 => vK (fA x13 (ii 1)) λ x14 => vK (dK 1 x3 none (some x14)) λ x15 => wK (aD E 156 [x15] h11) λ x16 h17 => vK (aI 0 x16) λ x18 => vK (aI 1 x16) λ x19 => vK (bX x3) λ x20 => vK (fA x20 (ii 1)) λ x21 => vK (bR 1 x3 x21) λ x22 => vK (aG h17.get x22) λ x23 => some ((.tup [x18, x23, (ii 0)]), h17))
def aZo : DC := (zs 2 [zX (.mv (.c (.str []))),zX (.mv (.c (.str []))),zX (.mv (zk 0))] (zs 10 [zM 0,zF 154 [fS],zT 9 11,zX (.ext 0 o9),zX (.ext 1 o9),zT 5 12,zT 6 13] (zq (zs 14 [zM 6,zX (.bin .neq iU (zk 0)),zM 15,zL 16 false 5,zG 16 false (.lenL iT),zG 16 false (.bin .eql iH (zk 0)),zX (.pick iC (.c (.bool true)) iQ)] (.cond jD (zs 2 [zX (.mv (.c (.str []))),zX (.mv (.c (.str []))),zX (.mv (zk 15))] .ret) .skip)) (zs 22 [zM 5,zM 5,zX (.lenL iD),zX (.bin .sub iP (zk 1)),zX (.slL 1 kD none (some kU)),zF 156 [lY],zT 21 27,zX (.ext 0 iG),zX (.ext 1 iG),zT 7 28,zT 8 29] (zq (zd 30 [yA 0 (zM 7),yA 1 (zM 5),yA 2 (zM 5),yA 3 (zX (.lenL lC)),yA 4 (zX (.bin .sub mX (zk 1))),yA 5 (zX (.iaS 1 oD mR)),yA 6 (zX (.ld rA)),yA 7 (zT 2 30),yA 8 (zT 3 36),yA 9 (zY 4 (.mv (zk 0)))]) .ret)))))
theorem bNh : oE E aZo R150 (aJn E) := λ σ h => by kernel_rfl
def bPC : DF := ⟨1, 37, aZo, R150⟩
def aVV : cE := oF (aJn E)
theorem bDs : SQ bPC aVV := λ E => oJ (d := bPC) (bNh E) rfl
def R151 : List RV := [(.r p4),(.r p5)]
def aJm (r0 r1 : DV) (h : H) : aU := wK (aD E 169 [r0, r1] h) λ x1 h2 => vK (aI 0 x1) λ x3 => vK (aI 1 x1) λ x4 => vK (kT x4) λ x5 => bK x5 (some ((.tup [(ii 0), (ii 7)]), h2)) (vK (bR 2 r0 x3) λ x6 => vK (aF 1 x6) λ x7 => vK (aG h2.get x7) λ x8 => some ((.tup [x8, (ii 0)]), h2))
def aZn : DC := (zs 4 [zX (.mv (zk 0)),zX (.mv (zk 0))] (zs 9 [zM 0,zM 1,zF 169 [o9,fS],zT 8 11,zX (.ext 0 o8),zX (.ext 1 o8),zT 6 12,zT 7 13] (zq (zs 14 [zM 7,zX (.not iU)] (.cond jO (zs 4 [zX (.mv (zk 0)),zX (.mv (zk 7))] .ret) .skip)) (zs 16 [zM 0,zM 6,zX (.iaS 2 iC iT),zX (.fa 1 iH),zX (.ld iQ),zT 4 20,zY 5 (.mv (zk 0))] .ret))))
theorem bNg : nK E aZn R151 (aJm E) := λ σ h => by kernel_rfl
def bPB : DF := ⟨2, 21, aZn, R151⟩
def aVU : cE := nL (aJm E)
theorem bDr : SQ bPB aVU := λ E => nY (d := bPB) (bNg E) rfl
def R152 : List RV := [(.r p6),(.r p7)]
def aJl (r0 r1 r2 : DV) (h : H) : aU := vK (cT r2 (ii 1)) λ x1 => bE x1 false (λ kk => kk r2 h) h λ x2 h3 => bE x1 false (λ kk => vK (nO x2 (ii 256)) λ v => kk v h3) h3 λ x4 h5 => vK (aX x1 (.bool true) x4) λ x6 => bK x6 (some ((.tup [r0, (ii 1)]), h5)) (wK (aD E 170 [r1] h5) λ x7 h8 => vK (kT x7) λ x9 => bK x9 (some ((.tup [r0, (ii 15)]), h8)) (wK (aD E 169 [r0, r1] h8) λ x10 h11 => vK (aI 0 x10) λ x12 => vK (aI 1 x10) λ x13 => bK x13 (some ((.tup [r0, (ii 6)]), h11)) (vK (dK 2 r0 none (some x12)) λ x14 => vK (eI [(.str []), (ii 0)] [(0, 1, r1), (1, 1, r2)]) λ x15 => gO 1 2 [(.str []), (ii 0)] [(0, 2, x15)] h11 λ x16 h17 => vK (dK 2 r0 (some x12) none) λ x18 => wK (cA 2 24 .nils x14 h17) λ x19 h20 => wK (cA 2 24 x19 x16 h20) λ x21 h22 => wK (cA 2 24 x21 x18 h22) λ x23 h24 => some ((.tup [x23, (ii 0)]), h24))))
def aZm : DC := (zs 6 [zX (.mv (.c .nils)),zX (.mv (zk 0))] (zq (zs 10 [zM 2,zX (.bin .lss fS (zk 1)),zM 11,zL 12 false 2,zG 12 false (.bin .geq gN (zk 256)),zX (.pick fV (.c (.bool true)) iU)] (.cond jO (zs 6 [zT 16 0,zM 16,zX (.mv (zk 1))] .ret) .skip)) (zq (zs 17 [zM 1,zF 170 [iT],zX (.not iH)] (.cond iQ (zs 6 [zT 20 0,zM 20,zX (.mv (zk 15))] .ret) .skip)) (zs 22 [zM 0,zM 1,zF 169 [kD,iD],zT 21 24,zX (.ext 0 iG),zX (.ext 1 iG),zT 8 25,zT 9 26] (zq (zs 27 [zM 9] (.cond lD (zs 6 [zT 28 0,zM 28,zX (.mv (zk 6))] .ret) .skip)) (zq (zd 33 [yA 0 (zT 29 0),yA 1 (zT 30 8),yA 2 (zY 31 (.slL 2 mN none (some mD))),yA 4 (zM 1),yA 5 (zM 2),yA 6 (zX (.bld [(.str []),(.int .i64 (.ofNat 0))] [(0,1,mX),(1,1,mR)])),yA 7 (zX (.bsl 1 2 [(.str []),(.int .i64 (.ofNat 0))] [(0,2,rA)])),yA 9 (zT 38 0),yA 10 (zT 39 8),yA 11 (zY 40 (.slL 2 tF (some rN) none)),yA 3 (zD ⟨(some p32),none,(.w (.app 2 24 (.c .nils) oD))⟩),yA 8 (zD ⟨(some p37),none,(.w (.app 2 24 lC mW))⟩),yA 12 (zD ⟨(some p41),none,(.w (.app 2 24 pA qZ))⟩),yA 13 (zT 6 41),yA 14 (zY 7 (.mv (zk 0)))]) .ret))))))
theorem bNf : iA3 E aZm R152 (aJl E) := λ σ h => by kernel_rfl
def bPA : DF := ⟨3, 42, aZm, R152⟩
def aVT : cE := fA3 (aJl E)
theorem bDq : SQ bPA aVT := λ E => eA3 (d := bPA) (bNf E) rfl
def R153 : List RV := [(.cells p6 2)]
def aJk (E : bO) (r0 r1 r2 : DV) (h : H) : aU := eC r0 h λ x1 h2 => eC r2 h2 λ x3 h4 => eD 2 2 (.list [.nils, (ii 0)]) h4 λ x5 h6 => vK (aF 0 x1) λ x7 => vK (aG h6.get x7) λ x8 => wK (cA 5 64 .nils x8 h6) λ x9 h10 => vK (aK 5 h10.get x3) λ x11 => vK (bR 5 x9 r1) λ x12 => wK (bU 5 x12 x11 h10) λ x13 h14 => vK (aF 0 x1) λ x15 => wK (bU 1 x15 x9 h14) λ x16 h17 => vK (aK 2 h17.get x1) λ x18 => wK (bU 2 x5 x18 h17) λ x19 h20 => vK (aK 2 h20.get x5) λ x21 => some (x21, h20)
def aZl : DC := (zs 5 [zY 3 (.box o0),zX (.box o2),zX (.alc 2 2 (.list [.nils,(.int .i64 (.ofNat 0))]))] (zs 8 [zX (.fa 0 o3),zX (.ld o8),zD ⟨(some p10),none,(.w (.app 5 64 (.c .nils) o9))⟩,zT 7 10] (zs 11 [zM 7,zM 1,zX (.ldN 5 o5),zX (.iaS 5 gE fV),zW (.st 5 iU gN)] (zs 15 [zM 7,zX (.fa 0 o3),zW (.st 1 iC jO)] (zs 17 [zX (.ldN 2 o3),zW (.st 2 o6 iT)] .ret)))))
theorem bNe : iA3 E aZl R153 (aJk E) := λ σ h => by kernel_rfl
def bPz : DF := ⟨3, 18, aZl, R153⟩
def aVS : cE := fA3 (aJk E)
theorem bDp : SQ bPz aVS := λ E => eA3 (d := bPz) (bNe E) rfl
def bEu : List RV := [(.r p2),(.r p3)]
def aPb (E : bO) (r4 : DV) (h : H) : aU := some ((.tup [r4, (ii 0)]), h)
def aZj : DC := (zs 2 [zT 67 4,zM 67,zX (.mv (zk 0))] .ret)
def aCn (E : bO) (i2 : DV → DV → DV → H → aU) (r4 r5 r6 : DV) (h : H) : aU := vK (bJ r6 (ii 1)) λ x1 => i2 r4 r5 x1 h
def aZh : DC := (zr 23 [zM 6,zX (.bin .add iD (zk 1)),zT 6 24])
def tR (i2 : DV → DV → DV → H → aU) (r4 r6 : DV) (h : H) : aU := aCn E i2 r4 (.str []) r6 h
def aZg : DC := (zr 5 [zX (.mv (.c (.str [])))])
def zU (r0 : DV) (i2 : DV → DV → DV → H → aU) (r4 r5 r6 : DV) (h : H) : aU := vK (bZ r0) λ x1 => vK (xU r6 x1) λ x2 => bK x2 (vK (bZ r0) λ x3 => vK (cT r6 x3) λ x4 => bE x4 true (λ kk => kk r0 h) h λ x5 h6 => bE x4 true (λ kk => kk r6 h6) h6 λ x7 h8 => bE x4 true (λ kk => vK (gJ x5 x7) λ v => kk v h8) h8 λ x9 h10 => bE x4 true (λ kk => vK (dD x9 (.int .u8 (.ofNat 47))) λ v => kk v h10) h10 λ x11 h12 => vK (aX x4 x11 (.bool false)) λ x13 => bK x13 (vK (bJ r6 (ii 1)) λ x14 => vK (gX r0 (some r6) (some x14)) λ x15 => vK (bJ r5 x15) λ x16 => aCn E i2 r4 x16 r6 h12) (vK (bV r5 (.str [])) λ x17 => bE x17 false (λ kk => kk r5 h12) h12 λ x18 h19 => bE x17 false (λ kk => vK (bV x18 (.str [46])) λ v => kk v h19) h19 λ x20 h21 => vK (aX x17 (.bool true) x20) λ x22 => bK x22 (tR E i2 r4 r6 h21) (vK (bV r5 (.str [46, 46])) λ x23 => bK x23 (vK (bX r4) λ x24 => vK (fA x24 (ii 1)) λ x25 => vK (aBl x25 (ii 0)) λ x26 => vK (dK 1 r4 none (some x26)) λ x27 => wK (cA 1 16 .nils x27 h21) λ x28 h29 => tR E i2 x28 r6 h29) (wK (aD E 170 [r5] h21) λ x30 h31 => vK (kT x30) λ x32 => bK x32 (some ((.tup [.nils, (ii 15)]), h31)) (gO 1 1 [(.str [])] [(0, 1, r5)] h31 λ x33 h34 => wK (cA 1 16 r4 x33 h34) λ x35 h36 => tR E i2 x35 r6 h36))))) (aPb E r4 h)
def mK (r0 : DV) (n : Nat) : DV → DV → DV → H → aU := Nat.rec (motive := λ _ => DV → DV → DV → H → aU) (λ _ _ _ _ => none) (λ _ i => zU E r0 i) n
def aZi : DC := (.loop (zq (zs 19 [zM 6,zM 0,zX (.lenS jD),zX (.bin .leq iQ iG)] (.cond kD .skip (.exit 0))) (zq (.block 1 (zq (zs 25 [zM 6,zM 0,zX (.lenS lY),zX (.bin .lss kU lD),zM 28,zL 29 true 0,zL 29 true 6,zG 29 true (.ixS mD oD),zG 29 true (.bin .neq lC (.c (.int .u8 (.ofNat 47)))),zX (.pick mN mX (.c (.bool false)))] (.cond mR (zs 35 [zM 5,zM 0,zM 6,zM 6,zX (.bin .add tF (zk 1)),zX (.slS mW (some pA) (some rN)),zX (.bin .add rA qZ),zT 5 41] (.exit 1)) .skip)) (zq (.block 2 (zs 47 [zM 5,zX (.bin .eql o47 (.c (.str []))),zM 48,zL 49 false 5,zG 49 false (.bin .eql o50 (.c (.str [46]))),zX (.pick o49 (.c (.bool true)) o51),zT 46 52] (.cond xY .skip (zs 54 [zM 5,zX (.bin .eql o54 (.c (.str [46,46]))),zT 53 55] (.cond o53 (zr 56 [zM 4,zM 4,zX (.lenL o57),zX (.bin .sub o58 (zk 1)),zX (.mx o59 (zk 0)),zX (.slL 1 o56 none (some o60)),zD ⟨(some p62),none,(.w (.app 1 16 (.c .nils) o61))⟩,zT 4 62]) (zs 64 [zM 5,zF 170 [o64],zX (.not o65),zT 63 66] (.cond o63 (zs 2 [zX (.mv (.c .nils)),zX (.mv (zk 15))] .ret) (zr 42 [zM 4,zM 5,zX (.bsl 1 1 [(.str [])] [(0,1,uB)]),zD ⟨(some p45),none,(.w (.app 1 16 uC tZ))⟩,zT 4 45])))))))) aZg))) aZh)))
def aJj (r0 : DV) (h : H) : aU := vK (bV r0 (.str [])) λ x1 => bE x1 false (λ kk => kk r0 h) h λ x2 h3 => bE x1 false (λ kk => vK (gJ x2 (ii 0)) λ v => kk v h3) h3 λ x4 h5 => bE x1 false (λ kk => vK (dD x4 (.int .u8 (.ofNat 47))) λ v => kk v h5) h5 λ x6 h7 => vK (aX x1 (.bool true) x6) λ x8 => bE x8 false (λ kk => kk r0 h7) h7 λ x9 h10 => bE x8 false (λ kk => vK (bZ x9) λ v => kk v h10) h10 λ x11 h12 => bE x8 false (λ kk => vK (eF x11 (ii 255)) λ v => kk v h12) h12 λ x13 h14 => vK (aX x8 (.bool true) x13) λ x15 => bK x15 (some ((.tup [.nils, (ii 15)]), h14)) (mK E r0 aR .nils (.str []) (ii 1) h14)
def aZk : DC := (zs 2 [zX (.mv (.c .nils)),zX (.mv (zk 0))] (zq (zs 7 [zM 0,zX (.bin .eql o7 (.c (.str []))),zM 8,zL 9 false 0,zG 9 false (.ixS fS (zk 0)),zG 9 false (.bin .neq gE (.c (.int .u8 (.ofNat 47)))),zX (.pick o9 (.c (.bool true)) fV),zM 13,zL 14 false 0,zG 14 false (.lenS jO),zG 14 false (.bin .gtr iC (zk 255)),zX (.pick iU (.c (.bool true)) iT)] (.cond iH (zs 2 [zX (.mv (.c .nils)),zX (.mv (zk 15))] .ret) .skip)) (zs 4 [zX (.mv (.c .nils))] (zs 5 [zX (.mv (.c (.str [])))] (zq (zs 6 [zX (.mv (zk 1))] (.block 0 aZi)) aZj)))))
theorem bNc : Is E aZj (bN bEu) (λ σ h => aPb E (σ p4) h) := λ σ h => by kernel_rfl
abbrev aWH : gS (DV × H) := (cF (λ σ h => aPb E (σ p4) h) (bN bEu))
abbrev aWG (n2 : Nat) : gS (DV × H) := (cF (λ σ h => (mK E (σ p0) n2) (σ p4) (σ p5) (σ p6) h) (bL 0 (aWH E)))
theorem bNa (n2 : Nat) : Is E aZh (aWG E n2) (λ σ h => aCn E (mK E (σ p0) n2) (σ p4) (σ p5) (σ p6) h) := λ σ h => by kernel_rfl
abbrev bLi (n2 : Nat) : gS (DV × H) := (cF (λ σ h => aCn E (mK E (σ p0) n2) (σ p4) (σ p5) (σ p6) h) (aWG E n2))
theorem bMZ (n2 : Nat) : Is E aZg (bL 1 (bLi E n2)) (λ σ h => tR E (mK E (σ p0) n2) (σ p4) (σ p6) h) := λ σ h => by kernel_rfl
theorem bNb : Is E aZi (bL 0 (aWH E)) (λ σ h => mK E (σ p0) aR (σ p4) (σ p5) (σ p6) h) := Is.loop (λ n2 σ h => mK E (σ p0) n2 (σ p4) (σ p5) (σ p6) h) (by kernel_rfl) λ n2 => Is.as (Is.seq (Is.seq (bNa E n2) (Is.block (Is.seq (Is.seq (bMZ E n2) (Is.leaf _)) (Is.leaf _)))) (Is.leaf _)) λ σ h => by kernel_rfl
theorem bNd : oE E aZk bEu (aJj E) := Is.as (Is.seq (Is.seq (Is.seq (Is.seq (Is.seq (bNc E) (Is.seq (Is.block (bNb E)) (Is.leaf _))) (Is.leaf _)) (Is.leaf _)) (Is.leaf _)) (Is.leaf _)) λ σ h => by kernel_rfl
def bPy : DF := ⟨1, 68, aZk, bEu⟩
def aVR : cE := oF (aJj E)
theorem bDo : SQ bPy aVR := λ E => oJ (d := bPy) (bNd E) rfl
def R155 : List RV := [(.r p4),(.r p5),(.r p6)]
def aJi (r0 r1 : DV) (h : H) : aU := wK (aD E 169 [r0, r1] h) λ x1 h2 => vK (aI 0 x1) λ x3 => vK (aI 1 x1) λ x4 => vK (kT x4) λ x5 => bK x5 (some ((.tup [r0, (ii 0), (ii 7)]), h2)) (vK (dK 2 r0 none (some x3)) λ x6 => vK (bJ x3 (ii 1)) λ x7 => vK (dK 2 r0 (some x7) none) λ x8 => vK (bR 2 r0 x3) λ x9 => vK (aF 1 x9) λ x10 => vK (aG h2.get x10) λ x11 => wK (cA 2 24 .nils x6 h2) λ x12 h13 => rK (rcK (aG h13.get x10) x11) <| wK (cA 2 24 x12 x8 h13) λ x14 h15 => rK (rcK (aG h15.get x10) x11) <| some ((.tup [x14, x11, (ii 0)]), h15))
def aZf : DC := (zs 4 [zX (.mv (.c .nils)),zX (.mv (zk 0)),zX (.mv (zk 0))] (zs 10 [zM 0,zM 1,zF 169 [fS,gE],zT 9 12,zX (.ext 0 o9),zX (.ext 1 o9),zT 7 13,zT 8 14] (zq (zs 15 [zM 8,zX (.not jO)] (.cond iC (zs 4 [zT 17 0,zM 17,zX (.mv (zk 0)),zX (.mv (zk 7))] .ret) .skip)) (zq (zd 27 [yA 0 (zT 18 0),yA 1 (zT 19 7),yA 2 (zY 20 (.slL 2 iH none (some iQ))),yA 4 (zT 22 0),yA 5 (zT 23 7),yA 6 (zY 24 (.bin .add iD (zk 1))),yA 7 (zY 25 (.slL 2 kD (some iP) none)),yA 9 (zM 0),yA 10 (zM 7),yA 11 (zX (.iaS 2 lD lW)),yA 12 (zX (.fa 1 mN)),yA 13 (zX (.ld mD)),yB 3 (zD ⟨(some p21),none,(.w (.app 2 24 (.c .nils) jD))⟩) [13] false,yB 8 (zD ⟨(some p26),none,(.w (.app 2 24 iG kU))⟩) [13] false,yA 14 (zT 4 26),yA 15 (zT 5 31),yA 16 (zY 6 (.mv (zk 0)))]) .ret))))
theorem bMY : nK E aZf R155 (aJi E) := λ σ h => by kernel_rfl
def bPx : DF := ⟨2, 32, aZf, R155⟩
def aVQ : cE := nL (aJi E)
theorem bDn : SQ bPx aVQ := λ E => nY (d := bPx) (bMY E) rfl
def bEt : List RV := [(.r p2),(.r p3)]
def aJh (E : bO) (r4 : DV) (h : H) : aU := vK (bV r4 (.str [])) λ x1 => bK x1 (some ((.tup [(.str [47]), (ii 0)]), h)) (some ((.tup [r4, (ii 0)]), h))
def aZd : DC := (zq (zs 36 [zM 4,zX (.bin .eql mW (.c (.str [])))] (.cond pA (zs 2 [zX (.mv (.c (.str [47]))),zX (.mv (zk 0))] .ret) .skip)) (zs 2 [zT 38 4,zM 38,zX (.mv (zk 0))] .ret))
def aFD (r0 : DV) (i2 : DV → DV → H → aU) (r4 r5 : DV) (h : H) : aU := vK (bX r0) λ x1 => vK (cT r5 x1) λ x2 => bK x2 (vK (bR 1 r0 r5) λ x3 => vK (aG h.get x3) λ x4 => wK (aD E 170 [x4] h) λ x5 h6 => vK (kT x5) λ x7 => bE x7 false (λ kk => kk r4 h6) h6 λ x8 h9 => bE x7 false (λ kk => vK (bZ x8) λ v => kk v h9) h9 λ x10 h11 => bE x7 false (λ kk => kk r0 h11) h11 λ x12 h13 => bE x7 false (λ kk => kk r5 h13) h13 λ x14 h15 => bE x7 false (λ kk => vK (bR 1 x12 x14) λ v => kk v h15) h15 λ x16 h17 => bE x7 false (λ kk => vK (aG h17.get x16) λ v => kk v h17) h17 λ x18 h19 => bE x7 false (λ kk => vK (bZ x18) λ v => kk v h19) h19 λ x20 h21 => bE x7 false (λ kk => vK (bJ x10 x20) λ v => kk v h21) h21 λ x22 h23 => bE x7 false (λ kk => vK (nO x22 (ii 255)) λ v => kk v h23) h23 λ x24 h25 => vK (aX x7 (.bool true) x24) λ x26 => bK x26 (some ((.tup [(.str []), (ii 15)]), h25)) (vK (bR 1 r0 r5) λ x27 => vK (aG h25.get x27) λ x28 => vK (bJ (.str [47]) x28) λ x29 => vK (bJ r4 x29) λ x30 => vK (bJ r5 (ii 1)) λ x31 => i2 x30 x31 h25)) (aJh E r4 h)
def aCd (r0 : DV) (n : Nat) : DV → DV → H → aU := Nat.rec (motive := λ _ => DV → DV → H → aU) (λ _ _ _ => none) (λ _ i => aFD E r0 i) n
def aZc : DC := (.loop (zq (zs 6 [zM 5,zM 0,zX (.lenL o7),zX (.bin .lss o6 o8)] (.cond o9 .skip (.exit 0))) (zq (.block 1 (zq (zs 12 [zM 0,zM 5,zX (.iaS 1 fV gN),zX (.ld iU),zF 170 [jO],zX (.not iC),zM 17,zL 18 false 4,zG 18 false (.lenS iQ),zL 18 false 0,zL 18 false 5,zG 18 false (.iaS 1 iG kD),zG 18 false (.ld iD),zG 18 false (.lenS iP),zG 18 false (.bin .add jD kU),zG 18 false (.bin .geq lY (zk 255)),zX (.pick iH (.c (.bool true)) lD)] (.cond lW (zs 2 [zX (.mv (.c (.str []))),zX (.mv (zk 15))] .ret) .skip)) (zr 29 [zM 4,zM 0,zM 5,zX (.iaS 1 mD oD),zX (.ld lC),zX (.bin .add (.c (.str [47])) mX),zX (.bin .add mN mR),zT 4 35]))) (zr 10 [zM 5,zX (.bin .add fS (zk 1)),zT 5 11]))))
def aXr (r0 : DV) (h : H) : aU := aCd E r0 aR (.str []) (ii 0) h
def aZe : DC := (zs 2 [zX (.mv (.c (.str []))),zX (.mv (zk 0))] (zs 4 [zX (.mv (.c (.str [])))] (zq (zs 5 [zX (.mv (zk 0))] (.block 0 aZc)) aZd)))
theorem bMW : Is E aZd (bN bEt) (λ σ h => aJh E (σ p4) h) := λ σ h => by kernel_rfl
abbrev bLh : gS (DV × H) := (cF (λ σ h => aJh E (σ p4) h) (bN bEt))
theorem bMV : Is E aZc (bL 0 (bLh E)) (λ σ h => aCd E (σ p0) aR (σ p4) (σ p5) h) := Is.loop (λ n2 σ h => aCd E (σ p0) n2 (σ p4) (σ p5) h) (by kernel_rfl) λ n2 => Is.as (Is.leaf _) λ σ h => by kernel_rfl
theorem bMX : oE E aZe bEt (aXr E) := Is.as (Is.seq (Is.seq (Is.seq (bMW E) (Is.seq (Is.block (bMV E)) (Is.leaf _))) (Is.leaf _)) (Is.leaf _)) λ σ h => by kernel_rfl
def bPw : DF := ⟨1, 39, aZe, bEt⟩
def aVP : cE := oF (aXr E)
theorem bDm : SQ bPw aVP := λ E => oJ (d := bPw) (bMX E) rfl
def bEs : List RV := [(.r p2),(.r p3)]
def aPa (r4 r5 : DV) (h : H) : aU := wK (aD E 59 [r4] h) λ x1 h2 => vK (dD x1 (ii 0)) λ x3 => bK x3 (some ((.tup [.nilp, (ii 3)]), h2)) (some ((.tup [r5, (ii 0)]), h2))
def aZa : DC := (zq (zs 42 [zM 4,zF 59 [uC],zX (.bin .neq uB (zk 0))] (.cond tZ (zs 2 [zX (.mv (.c .nilp)),zX (.mv (zk 3))] .ret) .skip)) (zs 2 [zT 45 5,zM 45,zX (.mv (zk 0))] .ret))
def bQE (r4 r5 r23 : DV) (i2 : DV → DV → H → aU) (r7 r24 : DV) (h : H) : aU := vK (cT r24 r23) λ x1 => bK x1 (wK (aD E 58 [r4] h) λ x2 h3 => wK (aD E 57 [r4] h3) λ x4 h5 => vK (xU x2 r7) λ x6 => bE x6 false (λ kk => kk r5 h5) h5 λ x7 h8 => bE x6 false (λ kk => kk x2 h8) h8 λ x9 h10 => bE x6 false (λ kk => kk x4 h10) h10 λ x11 h12 => bE x6 false (λ kk => wK (aD E 100 [x7, x9, x11] h12) kk) h12 λ x13 h14 => bE x6 false (λ kk => vK (dD x13 (ii 0)) λ v => kk v h14) h14 λ x15 h16 => vK (aX x6 (.bool true) x15) λ x17 => bK x17 (some ((.tup [.nilp, (ii 3)]), h16)) (vK (bJ r24 (ii 1)) λ x18 => i2 x2 x18 h16)) (aPa E r4 r5 h)
def aOH (r4 r5 r23 : DV) (n : Nat) : DV → DV → H → aU := Nat.rec (motive := λ _ => DV → DV → H → aU) (λ _ _ _ => none) (λ _ i => bQE E r4 r5 r23 i) n
def aYZ : DC := (.loop (zs 25 [zX (.bin .lss iP iD)] (zq (.cond kU .skip (.exit 0)) (zq (.block 1 (zs 26 [zM 4,zF 58 [lY],zM 4,zF 57 [lW],zT 8 27,zT 9 29] (zq (zs 30 [zM 8,zM 7,zX (.bin .leq mD oD),zM 32,zL 33 false 5,zL 33 false 8,zL 33 false 9,zD ⟨(some p37),(some (p33,false)),(.c (.f 100 [mR,rA,mW]))⟩,zD ⟨(some p38),(some (p33,false)),(.e (.bin .neq pA (zk 0)))⟩,zY 39 (.pick mX (.c (.bool true)) tF)] (.cond rN (zs 2 [zX (.mv (.c .nilp)),zX (.mv (zk 3))] .ret) .skip)) (zr 7 [zT 40 8,zM 40])))) (zr 24 [zY 41 (.bin .add iP (zk 1)),zM 41])))))
def aXq (r0 : DV) (h : H) : aU := wK (aD E 55 [r0] h) λ x1 h2 => wK (aD E 65 [] h2) λ x3 h4 => wK (aD E 57 [x1] h4) λ x5 h6 => vK (cT x5 (ii 0)) λ x7 => bE x7 false (λ kk => kk x5 h6) h6 λ x8 h9 => bE x7 false (λ kk => kk x1 h9) h9 λ x10 h11 => bE x7 false (λ kk => wK (aD E 171 [x10] h11) kk) h11 λ x12 h13 => bE x7 false (λ kk => vK (eF x8 x12) λ v => kk v h13) h13 λ x14 h15 => vK (aX x7 (.bool true) x14) λ x16 => bK x16 (some ((.tup [.nilp, (ii 3)]), h15)) (aOH E x1 x3 x5 aR (.str []) (ii 0) h15)
def aZb : DC := (zs 2 [zX (.mv (.c .nilp)),zX (.mv (zk 0))] (zs 10 [zM 0,zF 55 [fS],zF 65 [],zT 4 11,zT 5 12] (zs 13 [zM 4,zF 57 [gN],zT 6 14] (zq (zs 15 [zM 6,zX (.bin .lss jO (zk 0)),zM 16,zL 17 false 6,zL 17 false 4,zD ⟨(some p20),(some (p17,false)),(.c (.f 171 [iQ]))⟩,zD ⟨(some p21),(some (p17,false)),(.e (.bin .gtr iH jD))⟩,zY 22 (.pick iT (.c (.bool true)) iG)] (.cond kD (zs 2 [zX (.mv (.c .nilp)),zX (.mv (zk 3))] .ret) .skip)) (zs 7 [zX (.mv (.c (.str [])))] (zq (zs 23 [zM 6,zX (.mv (zk 0))] (.block 0 aYZ)) aZa))))))
theorem bMT : Is E aZa (bN bEs) (λ σ h => aPa E (σ p4) (σ p5) h) := λ σ h => by kernel_rfl
abbrev bLg : gS (DV × H) := (cF (λ σ h => aPa E (σ p4) (σ p5) h) (bN bEs))
theorem bMS : Is E aYZ (bL 0 (bLg E)) (λ σ h => aOH E (σ p4) (σ p5) (σ p23) aR (σ p7) (σ p24) h) := Is.loop (λ n2 σ h => aOH E (σ p4) (σ p5) (σ p23) n2 (σ p7) (σ p24) h) (by kernel_rfl) λ n2 => Is.as (Is.leaf _) λ σ h => by kernel_rfl
theorem bMU : oE E aZb bEs (aXq E) := Is.as (Is.seq (Is.seq (Is.seq (Is.seq (Is.seq (Is.seq (bMT E) (Is.seq (Is.block (bMS E)) (Is.leaf _))) (Is.leaf _)) (Is.leaf _)) (Is.leaf _)) (Is.leaf _)) (Is.leaf _)) λ σ h => by kernel_rfl
def bPv : DF := ⟨1, 46, aZb, bEs⟩
def bKI : cE := oF (aXq E)
theorem bDl : SQ bPv bKI := λ E => oJ (d := bPv) (bMU E) rfl
def bEr : List RV := [(.r p2),(.r p3)]
def aOZ (E : bO) (r4 : DV) (h : H) : aU := some ((.tup [r4, (.bool true)]), h)
def aYX : DC := (zs 2 [zT 47 4,zM 47,zX (.mv (.c (.bool true)))] .ret)
def aOY (E : bO) (i2 : DV → H → aU) (r12 : DV) (h : H) : aU := vK (bJ r12 (ii 1)) λ x1 => i2 x1 h
def aYV : DC := (zr 12 [zY 46 (.bin .add fV (zk 1)),zM 46])
def bQC (i2 : DV → H → aU) (r0 r4 r6 r12 r19 r20 : DV) (i4 : DV → H → aU) (r21 : DV) (h : H) : aU := vK (cT r21 r20) λ x1 => bK x1 (vK (bR 1 r19 r21) λ x2 => vK (aG h.get x2) λ x3 => wK (aD E 145 [r6, x3] h) λ x4 h5 => vK (aI 0 x4) λ x6 => vK (aI 1 x4) λ x7 => vK (aL r0) λ x8 => vK (aF 0 x8) λ x9 => vK (lO 256 2 x9 x6) λ x10 => vK (aF 1 x10) λ x11 => vK (aG h5.get x11) λ x12 => vK (dT .nilI false h5.get x12 .nili) λ x13 => bK x13 (some ((.tup [.nils, (.bool false)]), h5)) (vK (bR 1 r4 x6) λ x14 => vK (aG h5.get x14) λ x15 => vK (bJ x15 (ii 1)) λ x16 => vK (bR 1 r4 x6) λ x17 => wK (bU 1 x17 x16 h5) λ x18 h19 => vK (bJ r21 (ii 1)) λ x20 => i4 x20 h19)) (aOY E i2 r12 h)
def aOG (i2 : DV → H → aU) (r0 r4 r6 r12 r19 r20 : DV) (n : Nat) : DV → H → aU := Nat.rec (motive := λ _ => DV → H → aU) (λ _ _ => none) (λ _ i => bQC E i2 r0 r4 r6 r12 r19 r20 i) n
def aYU : DC := (.loop (zs 22 [zX (.bin .lss iG jD)] (zq (.cond kD .skip (.exit 2)) (zq (.block 3 (zs 23 [zX (.iaS 1 iQ iG),zX (.ld iD),zT 8 24] (zs 26 [zM 6,zM 8,zF 145 [lY,lD],zT 25 28,zX (.ext 0 kU),zX (.ext 1 kU),zT 9 29,zT 10 30] (zq (zs 31 [zM 0,zM 9,zX (.nilchk oD),zX (.fa 0 mX),zX (.iaA 256 2 mR lC),zX (.fa 1 rA),zX (.ld mW),zX (.eqv .nilI false pA (.c .nili))] (.cond tF (zs 2 [zX (.mv (.c .nils)),zX (.mv (.c (.bool false)))] .ret) .skip)) (zr 39 [zM 4,zM 9,zX (.iaS 1 rN qZ),zX (.ld wO),zX (.bin .add uC (zk 1)),zX (.iaS 1 rN qZ),zW (.st 1 tZ uB)]))))) (zr 21 [zY 45 (.bin .add iG (zk 1)),zM 45])))))
def bQD (r0 r4 : DV) (i2 : DV → H → aU) (r12 : DV) (h : H) : aU := vK (cT r12 (ii 256)) λ x1 => bK x1 (wK (aD E 87 [r0, r12] h) λ x2 h3 => wK (aD E 88 [x2] h3) λ x4 h5 => vK (bX x4) λ x6 => aOG E i2 r0 r4 x2 r12 x4 x6 aR (ii 0) h5) (aOZ E r4 h)
def vU (r0 r4 : DV) (n : Nat) : DV → H → aU := Nat.rec (motive := λ _ => DV → H → aU) (λ _ _ => none) (λ _ i => bQD E r0 r4 i) n
def aYW : DC := (.loop (zs 13 [zX (.bin .lss fV (zk 256))] (zq (.cond gN .skip (.exit 0)) (zq (.block 1 (zs 5 [zT 14 12,zM 14] (zs 15 [zM 0,zM 5,zF 87 [jO,iC],zT 6 17] (zs 18 [zM 6,zF 88 [iH],zX (.lenL iQ),zX (.mv (zk 0))] (.block 2 aYU))))) aYV))))
def aXp (r0 : DV) (h : H) : aU := tV 1 8 (ii 0) (ii 256) (ii 256) h λ x1 h2 => vU E r0 x1 aR (ii 0) h2
def aYY : DC := (zs 2 [zX (.mv (.c .nils)),zX (.mv (.c (.bool false)))] (zs 4 [zY 11 (.mks 1 8 (.int .i64 (.ofNat 0)) (zk 256) (zk 256)),zM 11] (zq (zs 12 [zX (.mv (zk 0))] (.block 0 aYW)) aYX)))
theorem bMQ : Is E aYX (bN bEr) (λ σ h => aOZ E (σ p4) h) := λ σ h => by kernel_rfl
abbrev aWF : gS (DV × H) := (cF (λ σ h => aOZ E (σ p4) h) (bN bEr))
abbrev aWE (n2 : Nat) : gS (DV × H) := (cF (λ σ h => (vU E (σ p0) (σ p4) n2) (σ p12) h) (bL 0 (aWF E)))
theorem bMO (n2 : Nat) : Is E aYV (aWE E n2) (λ σ h => aOY E (vU E (σ p0) (σ p4) n2) (σ p12) h) := λ σ h => by kernel_rfl
abbrev bLf (n2 : Nat) : gS (DV × H) := (cF (λ σ h => aOY E (vU E (σ p0) (σ p4) n2) (σ p12) h) (aWE E n2))
theorem bMN (n2 : Nat) : Is E aYU (bL 2 (bL 1 (bLf E n2))) (λ σ h => aOG E (vU E (σ p0) (σ p4) n2) (σ p0) (σ p4) (σ p6) (σ p12) (σ p19) (σ p20) aR (σ p21) h) := Is.loop (λ n4 σ h => aOG E (vU E (σ p0) (σ p4) n2) (σ p0) (σ p4) (σ p6) (σ p12) (σ p19) (σ p20) n4 (σ p21) h) (by kernel_rfl) λ n4 => Is.as (Is.leaf _) λ σ h => by kernel_rfl
theorem bMP : Is E aYW (bL 0 (aWF E)) (λ σ h => vU E (σ p0) (σ p4) aR (σ p12) h) := Is.loop (λ n2 σ h => vU E (σ p0) (σ p4) n2 (σ p12) h) (by kernel_rfl) λ n2 => Is.as (Is.seq (Is.seq (Is.seq (bMO E n2) (Is.block (Is.seq (Is.seq (Is.seq (Is.block (bMN E n2)) (Is.leaf _)) (Is.leaf _)) (Is.leaf _)))) (Is.leaf _)) (Is.leaf _)) λ σ h => by kernel_rfl
theorem bMR : oE E aYY bEr (aXp E) := Is.as (Is.seq (Is.seq (Is.seq (bMQ E) (Is.seq (Is.block (bMP E)) (Is.leaf _))) (Is.leaf _)) (Is.leaf _)) λ σ h => by kernel_rfl
def bPu : DF := ⟨1, 48, aYY, bEr⟩
def bKH : cE := oF (aXp E)
theorem bDk : SQ bPu bKH := λ E => oJ (d := bPu) (bMR E) rfl
def bEq : List RV := [(.r p2)]
def aOX (E : bO) (h : H) : aU := some ((.bool true), h)
def aYS : DC := (zs 2 [zX (.mv (.c (.bool true)))] .ret)
def aOW (E : bO) (i2 : DV → H → aU) (r11 : DV) (h : H) : aU := vK (bJ r11 (ii 1)) λ x1 => i2 x1 h
def aYQ : DC := (zr 11 [zY 47 (.bin .add gE (zk 1)),zM 47])
def bQB (r0 r3 r10 : DV) (i2 : DV → H → aU) (r11 : DV) (h : H) : aU := vK (cT r11 (ii 256)) λ x1 => bK x1 (vK (xV 256 2 true r10 r11) λ x2 => eD 2 2 (.list [(ii 0), .nili]) h λ x3 h4 => wK (bU 2 x3 x2 h4) λ x5 h6 => vK (aF 1 x3) λ x7 => vK (aG h6.get x7) λ x8 => vK (dT .nilI false h6.get x8 .nili) λ x9 => bK x9 (aOW E i2 r11 h6) (vK (aF 0 x3) λ x10 => vK (aG h6.get x10) λ x11 => vK (cT x11 (ii 0)) λ x12 => bE x12 false (λ kk => vK (aF 0 x3) λ v => kk v h6) h6 λ x13 h14 => bE x12 false (λ kk => vK (aG h14.get x13) λ v => kk v h14) h14 λ x15 h16 => bE x12 false (λ kk => kk r0 h16) h16 λ x17 h18 => bE x12 false (λ kk => vK (aL x17) λ v => kk v h18) h18 λ x19 h20 => bE x12 false (λ kk => vK (aF 512 x19) λ v => kk v h20) h20 λ x21 h22 => bE x12 false (λ kk => vK (aG h22.get x21) λ v => kk v h22) h22 λ x23 h24 => bE x12 false (λ kk => vK (eF x15 x23) λ v => kk v h24) h24 λ x25 h26 => vK (aX x12 (.bool true) x25) λ x27 => bE x27 false (λ kk => kk r3 h26) h26 λ x28 h29 => bE x27 false (λ kk => vK (aF 0 x3) λ v => kk v h29) h29 λ x30 h31 => bE x27 false (λ kk => vK (aG h31.get x30) λ v => kk v h31) h31 λ x32 h33 => bE x27 false (λ kk => vK (aKr .int (.bool false) false h33.get x28 x32) λ v => kk v h33) h33 λ x34 h35 => vK (aX x27 (.bool true) x34) λ x36 => bE x36 false (λ kk => kk r11 h35) h35 λ x37 h38 => bE x36 false (λ kk => vK (bV x37 (ii 1)) λ v => kk v h38) h38 λ x39 h40 => bE x36 false (λ kk => vK (aF 0 x3) λ v => kk v h40) h40 λ x41 h42 => bE x36 false (λ kk => vK (aG h42.get x41) λ v => kk v h42) h42 λ x43 h44 => bE x36 false (λ kk => vK (bV x43 (ii 0)) λ v => kk v h44) h44 λ x45 h46 => bE x36 false (λ kk => vK (dT .bool true h46.get x39 x45) λ v => kk v h46) h46 λ x47 h48 => vK (aX x36 (.bool true) x47) λ x49 => bK x49 (some ((.bool false), h48)) (vK (aF 0 x3) λ x50 => vK (aG h48.get x50) λ x51 => wK (aSO .int r3 x51 (.bool true) h48) λ x52 h53 => aOW E i2 r11 h53))) (aOX E h)
def aFj (r0 r3 r10 : DV) (n : Nat) : DV → H → aU := Nat.rec (motive := λ _ => DV → H → aU) (λ _ _ => none) (λ _ i => bQB E r0 r3 r10 i) n
def aYR : DC := (.loop (zs 12 [zX (.bin .lss gE (zk 256))] (zq (.cond fV .skip (.exit 0)) (zq (.block 1 (zs 13 [zM 11,zX (.ixA 256 2 true fS gE),zY 5 (.alc 2 2 (.list [(.int .i64 (.ofNat 0)),.nili])),zT 4 13,zW (.st 2 o5 iU)] (zq (zs 15 [zX (.fa 1 o5),zX (.ld jO),zX (.eqv .nilI false iC (.c .nili))] (.cond iT (.exit 1) .skip)) (zq (zq (zd 18 [yA 0 (zX (.fa 0 o5)),yA 1 (zX (.ld iH)),yA 2 (zX (.bin .lss iQ (zk 0))),yA 3 (zM 20),yA 4 (zG 21 false (.fa 0 o5)),yA 5 (zG 21 false (.ld kD)),yA 6 (zL 21 false 0),yA 7 (zG 21 false (.nilchk iP)),yA 8 (zG 21 false (.fa 512 kU)),yA 9 (zG 21 false (.ld lY)),yA 10 (zG 21 false (.bin .gtr iD lD)),yA 11 (zX (.pick iG (.c (.bool true)) lW)),yA 12 (zM 29),yA 13 (zL 30 false 3),yA 14 (zG 30 false (.fa 0 o5)),yA 15 (zG 30 false (.ld lC)),yA 16 (zG 30 false (.lkp .int (.bool false) false oD mX)),yA 17 (zX (.pick mD (.c (.bool true)) mR)),yA 18 (zM 35),yA 19 (zL 36 false 4),yA 20 (zG 36 false (.bin .eql pA (zk 1))),yA 21 (zG 36 false (.fa 0 o5)),yA 22 (zG 36 false (.ld rN)),yA 23 (zG 36 false (.bin .eql qZ (zk 0))),yA 24 (zG 36 false (.eqv .bool true tF wO)),yA 25 (zX (.pick mW (.c (.bool true)) uC))]) (.cond uB (zs 2 [zX (.mv (.c (.bool false)))] .ret) .skip)) (zr 44 [zM 3,zX (.fa 0 o5),zX (.ld zV),zW (.mup .int tZ xY (.c (.bool true)))]))))) aYQ))))
def aXo (r0 : DV) (h : H) : aU := aPW h λ x1 h2 => vK (aL r0) λ x3 => vK (aF 0 x3) λ x4 => vK (aK 512 h2.get x4) λ x5 => aFj E r0 x1 x5 aR (ii 0) h2
def aYT : DC := (zs 2 [zX (.mv (.c (.bool false)))] (zs 3 [zY 6 .mkm,zM 6] (zq (zs 7 [zM 0,zX (.nilchk o7),zX (.fa 0 o8),zX (.ldN 512 o9),zX (.mv (zk 0))] (.block 0 aYR)) aYS)))
theorem bML : Is E aYS (bN bEq) (λ σ h => aOX E h) := λ σ h => by kernel_rfl
abbrev aWD : gS (DV × H) := (bL 0 (cF (λ σ h => aOX E h) (bN bEq)))
abbrev bLe (n2 : Nat) : gS (DV × H) := (cF (λ σ h => (aFj E (σ p0) (σ p3) (σ p10) n2) (σ p11) h) (aWD E))
theorem bMJ (n2 : Nat) : Is E aYQ (bLe E n2) (λ σ h => aOW E (aFj E (σ p0) (σ p3) (σ p10) n2) (σ p11) h) := λ σ h => by kernel_rfl
theorem bMK : Is E aYR (aWD E) (λ σ h => aFj E (σ p0) (σ p3) (σ p10) aR (σ p11) h) := Is.loop (λ n2 σ h => aFj E (σ p0) (σ p3) (σ p10) n2 (σ p11) h) (by kernel_rfl) λ n2 => Is.as (Is.seq (Is.seq (Is.seq (bMJ E n2) (Is.leaf _)) (Is.leaf _)) (Is.leaf _)) λ σ h => by kernel_rfl
theorem bMM : oE E aYT bEq (aXo E) := Is.as (Is.seq (Is.seq (Is.seq (bML E) (Is.seq (Is.block (bMK E)) (Is.leaf _))) (Is.leaf _)) (Is.leaf _)) λ σ h => by kernel_rfl
def bPt : DF := ⟨1, 48, aYT, bEq⟩
def bKG : cE := oF (aXo E)
theorem bDj : SQ bPt bKG := λ E => oJ (d := bPt) (bMM E) rfl
def bEp : List RV := [(.r p4)]
def aOV (E : bO) (r6 : DV) (h : H) : aU := some (r6, h)
def aYO : DC := (zs 4 [zT 37 6,zM 37] .ret)
def aOU (E : bO) (i2 : DV → DV → H → aU) (r6 r17 : DV) (h : H) : aU := vK (bJ r17 (ii 1)) λ x1 => i2 r6 x1 h
def aYM : DC := (zr 17 [zY 36 (.bin .add iT (zk 1)),zM 36])
def bQA (r0 r5 r15 r16 : DV) (i2 : DV → DV → H → aU) (r6 r17 : DV) (h : H) : aU := vK (cT r17 r16) λ x1 => bK x1 (vK (bR 1 r15 r17) λ x2 => vK (aG h.get x2) λ x3 => wK (aD E 145 [r5, x3] h) λ x4 h5 => vK (aI 0 x4) λ x6 => vK (aI 1 x4) λ x7 => wK (aD E 87 [r0, x6] h5) λ x8 h9 => vK (dT .ptr true h9.get x8 .nilp) λ x10 => bK x10 (wK (aD E 160 [r0, x6] h9) λ x11 h12 => vK (bJ r6 x11) λ x13 => aOU E i2 x13 r17 h12) (aOU E i2 r6 r17 h9)) (aOV E r6 h)
def aFi (r0 r5 r15 r16 : DV) (n : Nat) : DV → DV → H → aU := Nat.rec (motive := λ _ => DV → DV → H → aU) (λ _ _ _ => none) (λ _ i => bQA E r0 r5 r15 r16 i) n
def aYN : DC := (.loop (zs 18 [zX (.bin .lss iT iC)] (zq (.cond iH .skip (.exit 0)) (zq (.block 1 (zs 19 [zX (.iaS 1 jO iT),zX (.ld iQ),zT 8 20] (zs 22 [zM 5,zM 8,zF 145 [kD,iD],zT 21 24,zX (.ext 0 iG),zX (.ext 1 iG),zT 9 25,zT 10 26] (zs 27 [zM 0,zM 9,zF 87 [lD,lW],zX (.eqv .ptr true mN (.c .nilp))] (.cond mD (zr 31 [zM 6,zM 0,zM 9,zF 160 [lC,mX],zX (.bin .add oD mR),zT 6 35]) .skip))))) aYM))))
def aXn (r0 r1 : DV) (h : H) : aU := wK (aD E 87 [r0, r1] h) λ x1 h2 => wK (aD E 88 [x1] h2) λ x3 h4 => vK (bX x3) λ x5 => aFi E r0 x1 x3 x5 aR (ii 1) (ii 0) h4
def aYP : DC := (zs 4 [zX (.mv (zk 0))] (zs 11 [zM 0,zM 1,zF 87 [gE,fV],zT 5 13,zY 6 (.mv (zk 1))] (zq (zs 14 [zM 5,zF 88 [iU],zX (.lenL jO),zX (.mv (zk 0))] (.block 0 aYN)) aYO)))
theorem bMH : Is E aYO (bN bEp) (λ σ h => aOV E (σ p6) h) := λ σ h => by kernel_rfl
abbrev aWC : gS (DV × H) := (cF (λ σ h => aOV E (σ p6) h) (bN bEp))
abbrev bLd (n2 : Nat) : gS (DV × H) := (cF (λ σ h => (aFi E (σ p0) (σ p5) (σ p15) (σ p16) n2) (σ p6) (σ p17) h) (bL 0 (aWC E)))
theorem bMF (n2 : Nat) : Is E aYM (bLd E n2) (λ σ h => aOU E (aFi E (σ p0) (σ p5) (σ p15) (σ p16) n2) (σ p6) (σ p17) h) := λ σ h => by kernel_rfl
theorem bMG : Is E aYN (bL 0 (aWC E)) (λ σ h => aFi E (σ p0) (σ p5) (σ p15) (σ p16) aR (σ p6) (σ p17) h) := Is.loop (λ n2 σ h => aFi E (σ p0) (σ p5) (σ p15) (σ p16) n2 (σ p6) (σ p17) h) (by kernel_rfl) λ n2 => Is.as (Is.seq (Is.seq (Is.seq (bMF E n2) (Is.leaf _)) (Is.leaf _)) (Is.leaf _)) λ σ h => by kernel_rfl
theorem bMI : nK E aYP bEp (aXn E) := Is.as (Is.seq (Is.seq (Is.seq (bMH E) (Is.seq (Is.block (bMG E)) (Is.leaf _))) (Is.leaf _)) (Is.leaf _)) λ σ h => by kernel_rfl
def bPs : DF := ⟨2, 38, aYP, bEp⟩
def bKF : cE := nL (aXn E)
theorem bDi : SQ bPs bKF := λ E => nY (d := bPs) (bMI E) rfl
def R161 : List RV := [(.r p4)]
def aJg (r0 r1 : DV) (h : H) : aU := wK (aD E 172 [r0, r1, (ii 0), (.int .i64 (.negSucc 0))] h) λ x1 h2 => some (x1, h2)
def aYL : DC := (zs 4 [zX (.mv (.c .nils))] (zs 5 [zM 0,zM 1,zF 172 [o5,o6,(zk 0),(.c (.int .i64 (.negSucc 0)))],zT 4 7] .ret))
theorem bME : nK E aYL R161 (aJg E) := λ σ h => by kernel_rfl
def bPr : DF := ⟨2, 8, aYL, R161⟩
def aVO : cE := nL (aJg E)
theorem bDh : SQ bPr aVO := λ E => nY (d := bPr) (bME E) rfl
def bEo : List RV := [(.r p6),(.r p7)]
def aJe (r0 r1 r2 r8 : DV) (h : H) : aU := vK (bX r0) λ x1 => vK (cT r8 x1) λ x2 => bE x2 true (λ kk => kk r2 h) h λ x3 h4 => bE x2 true (λ kk => kk r0 h4) h4 λ x5 h6 => bE x2 true (λ kk => kk r8 h6) h6 λ x7 h8 => bE x2 true (λ kk => vK (bR 2 x5 x7) λ v => kk v h8) h8 λ x9 h10 => bE x2 true (λ kk => vK (aK 2 h10.get x9) λ v => kk v h10) h10 λ x11 h12 => bE x2 true (λ kk => wK (oN E x3 [x11] h12) kk) h12 λ x13 h14 => bE x2 true (λ kk => kk r1 h14) h14 λ x15 h16 => bE x2 true (λ kk => vK (bV x13 x15) λ v => kk v h16) h16 λ x17 h18 => vK (aX x2 x17 (.bool false)) λ x19 => some ((.tup [r8, x19]), h18)
def aYJ : DC := (zs 31 [zM 8,zM 8,zM 0,zX (.lenL mX),zX (.bin .lss lC mR),zM 35,zL 36 true 2,zL 36 true 0,zL 36 true 8,zG 36 true (.iaS 2 tF rN),zG 36 true (.ldN 2 qZ),zD ⟨(some p42),(some (p36,true)),(.c (.v pA [wO]))⟩,zD ⟨(some p43),(some (p36,true)),(.e (.mv o1))⟩,zD ⟨(some p44),(some (p36,true)),(.e (.bin .eql uC uB))⟩,zY 45 (.pick mW tZ (.c (.bool false))),zT 6 31,zT 7 45] .ret)
def aFC (r0 r1 r2 : DV) (i2 : DV → DV → H → aU) (r8 r9 : DV) (h : H) : aU := vK (cT r8 r9) λ x1 => bK x1 (vK (bJ r8 r9) λ x2 => vK (aPq x2 (ii 2)) λ x3 => vK (bR 2 r0 x3) λ x4 => vK (aK 2 h.get x4) λ x5 => wK (oN E r2 [x5] h) λ x6 h7 => vK (cT x6 r1) λ x8 => bK x8 (vK (bJ x3 (ii 1)) λ x9 => i2 x9 r9 h7) (i2 r8 x3 h7)) (aJe E r0 r1 r2 r8 h)
def aCc (r0 r1 r2 : DV) (n : Nat) : DV → DV → H → aU := Nat.rec (motive := λ _ => DV → DV → H → aU) (λ _ _ _ => none) (λ _ i => aFC E r0 r1 r2 i) n
def aYI : DC := (.loop (zq (zs 13 [zM 8,zM 9,zX (.bin .lss gN iU)] (.cond jO .skip (.exit 0))) (.block 1 (zs 16 [zM 8,zM 9,zX (.bin .add iC iT),zX (.bin .quo iH (zk 2)),zT 10 19] (zs 20 [zM 2,zM 0,zM 10,zX (.iaS 2 iG kD),zX (.ldN 2 iD),zD ⟨(some p25),none,(.c (.v jD [iP]))⟩,zT 26 1,zY 27 (.bin .lss kU lY)] (.cond lD (zr 28 [zM 10,zX (.bin .add lW (zk 1)),zT 8 29]) (zr 9 [zT 30 10,zM 30])))))))
def aJf (r0 r1 r2 : DV) (h : H) : aU := vK (bX r0) λ x1 => aCc E r0 r1 r2 aR (ii 0) x1 h
def aYK : DC := (zs 6 [zX (.mv (zk 0)),zX (.mv (.c (.bool false)))] (zs 11 [zM 0,zX (.lenL gE),zY 8 (.mv (zk 0)),zT 9 12] (zq (.block 0 aYI) aYJ)))
theorem bMC : Is E aYJ (bN bEo) (λ σ h => aJe E (σ p0) (σ p1) (σ p2) (σ p8) h) := λ σ h => by kernel_rfl
abbrev bLc : gS (DV × H) := (cF (λ σ h => aJe E (σ p0) (σ p1) (σ p2) (σ p8) h) (bN bEo))
theorem bMB : Is E aYI (bL 0 (bLc E)) (λ σ h => aCc E (σ p0) (σ p1) (σ p2) aR (σ p8) (σ p9) h) := Is.loop (λ n2 σ h => aCc E (σ p0) (σ p1) (σ p2) n2 (σ p8) (σ p9) h) (by kernel_rfl) λ n2 => Is.as (Is.leaf _) λ σ h => by kernel_rfl
theorem bMD : iA3 E aYK bEo (aJf E) := Is.as (Is.seq (Is.seq (Is.seq (bMC E) (Is.block (bMB E))) (Is.leaf _)) (Is.leaf _)) λ σ h => by kernel_rfl
def bPq : DF := ⟨3, 46, aYK, bEo⟩
def aVN : cE := fA3 (aJf E)
theorem bDg : SQ bPq aVN := λ E => eA3 (d := bPq) (bMD E) rfl
def R163 : List RV := [(.r p2)]
def aJd (E : bO) (r0 : DV) (h : H) : aU := eC r0 h λ x1 h2 => vK (aF 0 x1) λ x3 => vK (aG h2.get x3) λ x4 => some (x4, h2)
def aYH : DC := (zs 1 [zX (.box o0),zX (.mv (.c (.str [])))] (zs 3 [zX (.fa 0 o1),zX (.ld o3),zT 2 4] .ret))
theorem bMA : oE E aYH R163 (aJd E) := λ σ h => by kernel_rfl
def bPp : DF := ⟨1, 5, aYH, R163⟩
def aSU : cE := oF (aJd E)
theorem bDf : SQ bPp aSU := λ E => oJ (d := bPp) (bMA E) rfl
def R164 : List RV := [(.r p4)]
def aJc (r0 r1 : DV) (h : H) : aU := wK (aD E 173 [r0, r1] h) λ x1 h2 => some (x1, h2)
def aYG : DC := (zs 4 [zX (.mv (zk 0))] (zs 5 [zM 0,zM 1,zF 173 [o5,o6],zT 4 7] .ret))
theorem bMz : nK E aYG R164 (aJc E) := λ σ h => by kernel_rfl
def bPo : DF := ⟨2, 8, aYG, R164⟩
def aVM : cE := nL (aJc E)
theorem bDe : SQ bPo aVM := λ E => nY (d := bPo) (bMz E) rfl
def R166 : List RV := []
def aXm (r0 r1 : DV) (h : H) : aU := vK (bX r0) λ x1 => vK (fA x1 r1) λ x2 => wK (aD E 174 [r0, x2] h) λ x3 h4 => some ((.tup []), h4)
def aYF : DC := (zr 4 [zM 0,zM 0,zX (.lenL o5),zM 1,zX (.bin .sub o6 o7),zF 174 [o4,o8]])
theorem bMy : nK E aYF R166 (aXm E) := λ σ h => by kernel_rfl
def bPn : DF := ⟨2, 10, aYF, R166⟩
def bKE : cE := nL (aXm E)
theorem bDd : SQ bPn bKE := λ E => nY (d := bPn) (bMy E) rfl
def bEn : List RV := [(.r p4),(.r p5)]
def aFn (E : bO) (r0 r1 r6 : DV) (h : H) : aU := vK (bX r0) λ x1 => vK (cT r6 x1) λ x2 => bE x2 true (λ kk => kk r0 h) h λ x3 h4 => bE x2 true (λ kk => kk r6 h4) h4 λ x5 h6 => bE x2 true (λ kk => vK (bR 2 x3 x5) λ v => kk v h6) h6 λ x7 h8 => bE x2 true (λ kk => vK (aF 0 x7) λ v => kk v h8) h8 λ x9 h10 => bE x2 true (λ kk => vK (aG h10.get x9) λ v => kk v h10) h10 λ x11 h12 => bE x2 true (λ kk => kk r1 h12) h12 λ x13 h14 => bE x2 true (λ kk => vK (bV x11 x13) λ v => kk v h14) h14 λ x15 h16 => vK (aX x2 x15 (.bool false)) λ x17 => some ((.tup [r6, x17]), h16)
def aYD : DC := (zq (zd 22 [yA 0 (zM 6),yA 1 (zM 6),yA 2 (zM 0),yA 3 (zX (.lenL iP)),yA 4 (zX (.bin .lss iD kU)),yA 5 (zM 26),yA 6 (zL 27 true 0),yA 7 (zL 27 true 6),yA 8 (zG 27 true (.iaS 2 lW mN)),yA 9 (zG 27 true (.fa 0 mD)),yA 10 (zG 27 true (.ld oD)),yA 11 (zL 27 true 1),yA 12 (zG 27 true (.bin .eql lC mX)),yA 13 (zX (.pick lD mR (.c (.bool false)))),yA 14 (zT 4 22),yA 15 (zT 5 35)]) .ret)
def aFB (r0 r1 : DV) (i2 : DV → H → aU) (r6 : DV) (h : H) : aU := vK (bX r0) λ x1 => vK (cT r6 x1) λ x2 => bE x2 true (λ kk => kk r0 h) h λ x3 h4 => bE x2 true (λ kk => kk r6 h4) h4 λ x5 h6 => bE x2 true (λ kk => vK (bR 2 x3 x5) λ v => kk v h6) h6 λ x7 h8 => bE x2 true (λ kk => vK (aF 0 x7) λ v => kk v h8) h8 λ x9 h10 => bE x2 true (λ kk => vK (aG h10.get x9) λ v => kk v h10) h10 λ x11 h12 => bE x2 true (λ kk => kk r1 h12) h12 λ x13 h14 => bE x2 true (λ kk => vK (cT x11 x13) λ v => kk v h14) h14 λ x15 h16 => vK (aX x2 x15 (.bool false)) λ x17 => bK x17 (vK (bJ r6 (ii 1)) λ x18 => i2 x18 h16) (aFn E r0 r1 r6 h16)
def aCb (r0 r1 : DV) (n : Nat) : DV → H → aU := Nat.rec (motive := λ _ => DV → H → aU) (λ _ _ => none) (λ _ i => aFB E r0 r1 i) n
def aYC : DC := (.loop (zq (zs 7 [zM 6,zM 0,zX (.lenL o8),zX (.bin .lss o7 o9),zM 10,zL 11 true 0,zL 11 true 6,zG 11 true (.iaS 2 fV gN),zG 11 true (.fa 0 iU),zG 11 true (.ld jO),zL 11 true 1,zG 11 true (.bin .lss iC iT),zX (.pick gE iH (.c (.bool false)))] (.cond iQ .skip (.exit 0))) (.block 1 (zr 20 [zM 6,zX (.bin .add jD (zk 1)),zT 6 21]))))
def aXl (r0 r1 : DV) (h : H) : aU := aCb E r0 r1 aR (ii 0) h
def aYE : DC := (zs 4 [zX (.mv (zk 0)),zX (.mv (.c (.bool false)))] (zs 6 [zX (.mv (zk 0))] (zq (.block 0 aYC) aYD)))
theorem bMw : Is E aYD (bN bEn) (λ σ h => aFn E (σ p0) (σ p1) (σ p6) h) := λ σ h => by kernel_rfl
abbrev bLb : gS (DV × H) := (cF (λ σ h => aFn E (σ p0) (σ p1) (σ p6) h) (bN bEn))
theorem bMv : Is E aYC (bL 0 (bLb E)) (λ σ h => aCb E (σ p0) (σ p1) aR (σ p6) h) := Is.loop (λ n2 σ h => aCb E (σ p0) (σ p1) n2 (σ p6) h) (by kernel_rfl) λ n2 => Is.as (Is.leaf _) λ σ h => by kernel_rfl
theorem bMx : nK E aYE bEn (aXl E) := Is.as (Is.seq (Is.seq (Is.seq (bMw E) (Is.block (bMv E))) (Is.leaf _)) (Is.leaf _)) λ σ h => by kernel_rfl
def bPm : DF := ⟨2, 36, aYE, bEn⟩
def aVL : cE := nL (aXl E)
theorem bDc : SQ bPm aVL := λ E => nY (d := bPm) (bMx E) rfl
def fs1 : List FD := [⟨90, D90, S90⟩, ⟨92, D92, S92⟩, ⟨94, D94, S94⟩, ⟨95, D95, S95⟩, ⟨96, D96, S96⟩, ⟨97, D97, S97⟩, ⟨98, D98, S98⟩, ⟨99, D99, S99⟩, ⟨100, bQp, aWt⟩, ⟨101, bQo, aSZ⟩, ⟨102, bQn, aWs⟩, ⟨103, bQm, aOw⟩, ⟨104, bQl, bEe⟩, ⟨105, bQk, bEc⟩, ⟨106, bQj, aWr⟩, ⟨107, bQi, bDZ⟩, ⟨108, bQh, aWq⟩, ⟨109, bQg, bKN⟩, ⟨110, bQf, bKM⟩, ⟨111, bQe, bKL⟩, ⟨120, bQd, aWp⟩, ⟨121, bQc, aWo⟩, ⟨122, bQb, aWn⟩, ⟨123, bQa, aWm⟩, ⟨124, bPZ, aWl⟩, ⟨125, bPY, aWk⟩, ⟨126, bPX, aWj⟩, ⟨127, bPW, aWi⟩, ⟨128, bPV, aWh⟩, ⟨129, bPU, aWg⟩, ⟨130, bPT, aWf⟩, ⟨131, bPS, aSY⟩, ⟨132, bPR, aWe⟩, ⟨134, bPQ, bKK⟩, ⟨135, bPP, bKJ⟩, ⟨137, bPO, aWd⟩, ⟨138, bPN, aWc⟩, ⟨139, bPM, aSX⟩, ⟨140, bPL, aSW⟩, ⟨141, bPK, aWb⟩, ⟨142, bPJ, aWa⟩, ⟨143, bPI, aVZ⟩, ⟨144, bPH, aVY⟩, ⟨145, bPG, aVX⟩, ⟨146, bPF, aVW⟩, ⟨147, bPE, aIP⟩, ⟨148, bPD, aSV⟩, ⟨150, bPC, aVV⟩, ⟨151, bPB, aVU⟩, ⟨152, bPA, aVT⟩, ⟨153, bPz, aVS⟩, ⟨154, bPy, aVR⟩, ⟨155, bPx, aVQ⟩, ⟨156, bPw, aVP⟩, ⟨157, bPv, bKI⟩, ⟨158, bPu, bKH⟩, ⟨159, bPt, bKG⟩, ⟨160, bPs, bKF⟩, ⟨161, bPr, aVO⟩, ⟨162, bPq, aVN⟩, ⟨163, bPp, aSU⟩, ⟨164, bPo, aVM⟩, ⟨166, bPn, bKE⟩, ⟨169, bPm, aVL⟩]
theorem bIF : sK fs1 := ⟨bJr, ⟨bJq, ⟨bJp, ⟨bJo, ⟨bJn, ⟨bJm, ⟨bJl, ⟨bJk, ⟨bEi, ⟨bEh, ⟨bEg, ⟨bEf, ⟨bEd, ⟨bEb, ⟨bEa, ⟨bDY, ⟨bDX, ⟨bDW, ⟨bDV, ⟨bDU, ⟨bDT, ⟨bDS, ⟨bDR, ⟨bDQ, ⟨bDP, ⟨bDO, ⟨bDN, ⟨bDM, ⟨bDL, ⟨bDK, ⟨bDJ, ⟨bDI, ⟨bDH, ⟨bDG, ⟨bDF, ⟨bDE, ⟨bDD, ⟨bDC, ⟨bDB, ⟨bDA, ⟨bDz, ⟨bDy, ⟨bDx, ⟨bDw, ⟨bDv, ⟨bDu, ⟨bDt, ⟨bDs, ⟨bDr, ⟨bDq, ⟨bDp, ⟨bDo, ⟨bDn, ⟨bDm, ⟨bDl, ⟨bDk, ⟨bDj, ⟨bDi, ⟨bDh, ⟨bDg, ⟨bDf, ⟨bDe, ⟨bDd, ⟨bDc, trivial⟩⟩⟩⟩⟩⟩⟩⟩⟩⟩⟩⟩⟩⟩⟩⟩⟩⟩⟩⟩⟩⟩⟩⟩⟩⟩⟩⟩⟩⟩⟩⟩⟩⟩⟩⟩⟩⟩⟩⟩⟩⟩⟩⟩⟩⟩⟩⟩⟩⟩⟩⟩⟩⟩⟩⟩⟩⟩⟩⟩⟩⟩⟩⟩
end Go.Proofs.YtmafhiogonejfaaGreatDoor
end
