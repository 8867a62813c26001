/- More of the program's functions. No condition. -/
import Derived.Test.YtmafhiogonejfaaGreatDoorC1
set_option linter.unusedVariables false
noncomputable section
namespace Go.Proofs.YtmafhiogonejfaaGreatDoor
open Go.DI
variable (E : bO)
def bES : List RV := [(.r p2)]
def aPy (E : bO) (h : H) : aU := some ((.bool true), h)
def aZE : DC := (zs 2 [zX (.mv (.c (.bool true)))] .ret)
def aPx (E : bO) (i2 : DV → H → aU) (r11 : DV) (h : H) : aU := vK (bJ r11 (ii 1)) λ x1 => i2 x1 h
def aZC : DC := (zr 11 [zY 47 (.bin .add fZ (zk 1)),zM 47])
def bRQ (r0 r3 r10 : DV) (i2 : DV → H → aU) (r11 : DV) (h : H) : aU := vK (cJ r11 (ii 256)) λ x1 => bK x1 (vK (yM 256 2 true r10 r11) λ x2 => dZ 2 2 (.list [(ii 0), .nili]) h λ x3 h4 => wK (bQ 2 x3 x2 h4) λ x5 h6 => vK (aF 1 x3) λ x7 => vK (aI h6.get x7) λ x8 => vK (dS .nilI false h6.get x8 .nili) λ x9 => bK x9 (aPx E i2 r11 h6) (vK (aF 0 x3) λ x10 => vK (aI h6.get x10) λ x11 => vK (cJ x11 (ii 0)) λ x12 => bA x12 false (λ kk => vK (aF 0 x3) λ v => kk v h6) h6 λ x13 h14 => bA x12 false (λ kk => vK (aI h14.get x13) λ v => kk v h14) h14 λ x15 h16 => bA x12 false (λ kk => kk r0 h16) h16 λ x17 h18 => bA x12 false (λ kk => vK (aL x17) λ v => kk v h18) h18 λ x19 h20 => bA x12 false (λ kk => vK (aF 512 x19) λ v => kk v h20) h20 λ x21 h22 => bA x12 false (λ kk => vK (aI h22.get x21) λ v => kk v h22) h22 λ x23 h24 => bA x12 false (λ kk => vK (eH x15 x23) λ v => kk v h24) h24 λ x25 h26 => vK (aQ x12 (.bool true) x25) λ x27 => bA x27 false (λ kk => kk r3 h26) h26 λ x28 h29 => bA x27 false (λ kk => vK (aF 0 x3) λ v => kk v h29) h29 λ x30 h31 => bA x27 false (λ kk => vK (aI h31.get x30) λ v => kk v h31) h31 λ x32 h33 => bA x27 false (λ kk => vK (aKT .int (.bool false) false h33.get x28 x32) λ v => kk v h33) h33 λ x34 h35 => vK (aQ x27 (.bool true) x34) λ x36 => bA x36 false (λ kk => kk r11 h35) h35 λ x37 h38 => bA x36 false (λ kk => vK (bP x37 (ii 1)) λ v => kk v h38) h38 λ x39 h40 => bA x36 false (λ kk => vK (aF 0 x3) λ v => kk v h40) h40 λ x41 h42 => bA x36 false (λ kk => vK (aI h42.get x41) λ v => kk v h42) h42 λ x43 h44 => bA x36 false (λ kk => vK (bP x43 (ii 0)) λ v => kk v h44) h44 λ x45 h46 => bA x36 false (λ kk => vK (dS .bool true h46.get x39 x45) λ v => kk v h46) h46 λ x47 h48 => vK (aQ x36 (.bool true) x47) λ x49 => bK x49 (some ((.bool false), h48)) (vK (aF 0 x3) λ x50 => vK (aI h48.get x50) λ x51 => wK (aTt .int r3 x51 (.bool true) h48) λ x52 h53 => aPx E i2 r11 h53))) (aPy E h)
def aFz (r0 r3 r10 : DV) (n : Nat) : DV → H → aU := Nat.rec (motive := λ _ => DV → H → aU) (λ _ _ => none) (λ _ i => bRQ E r0 r3 r10 i) n
def aZD : DC := (.loop (zs 12 [zX (.bin .lss fZ (zk 256))] (zq (.cond fL .skip (.exit 0)) (zq (.block 1 (zs 13 [zM 11,zX (.ixA 256 2 true fR fZ),zY 5 (.alc 2 2 (.list [(.int .i64 (.ofNat 0)),.nili])),zT 4 13,zW (.st 2 o5 iO)] (zq (zs 15 [zX (.fa 1 o5),zX (.ld iW),zX (.eqv .nilI false iG (.c .nili))] (.cond iL (.exit 1) .skip)) (zq (zq (zd 18 [yA 0 (zX (.fa 0 o5)),yA 1 (zX (.ld iC)),yA 2 (zX (.bin .lss iN (zk 0))),yA 3 (zM 20),yA 4 (zG 21 false (.fa 0 o5)),yA 5 (zG 21 false (.ld jV)),yA 6 (zL 21 false 0),yA 7 (zG 21 false (.nilchk iP)),yA 8 (zG 21 false (.fa 512 kJ)),yA 9 (zG 21 false (.ld mA)),yA 10 (zG 21 false (.bin .gtr iB lB)),yA 11 (zX (.pick gZ (.c (.bool true)) lK)),yA 12 (zM 29),yA 13 (zL 30 false 3),yA 14 (zG 30 false (.fa 0 o5)),yA 15 (zG 30 false (.ld lF)),yA 16 (zG 30 false (.lkp .int (.bool false) false nH mX)),yA 17 (zX (.pick lY (.c (.bool true)) mW)),yA 18 (zM 35),yA 19 (zL 36 false 4),yA 20 (zG 36 false (.bin .eql pR (zk 1))),yA 21 (zG 36 false (.fa 0 o5)),yA 22 (zG 36 false (.ld rT)),yA 23 (zG 36 false (.bin .eql rE (zk 0))),yA 24 (zG 36 false (.eqv .bool true uD vG)),yA 25 (zX (.pick mZ (.c (.bool true)) uN))]) (.cond uM (zs 2 [zX (.mv (.c (.bool false)))] .ret) .skip)) (zr 44 [zM 3,zX (.fa 0 o5),zX (.ld o45),zW (.mup .int uJ zJ (.c (.bool true)))]))))) aZC))))
def aYa (r0 : DV) (h : H) : aU := aQs h λ x1 h2 => vK (aL r0) λ x3 => vK (aF 0 x3) λ x4 => vK (aK 512 h2.get x4) λ x5 => aFz E r0 x1 x5 aR (ii 0) h2
def aZF : DC := (zs 2 [zX (.mv (.c (.bool false)))] (zs 3 [zY 6 .mkm,zM 6] (zq (zs 7 [zM 0,zX (.nilchk o7),zX (.fa 0 o8),zX (.ldN 512 o9),zX (.mv (zk 0))] (.block 0 aZD)) aZE)))
theorem bOa : Is E aZE (bN bES) (λ σ h => aPy E h) := λ σ h => by kernel_rfl
abbrev aXp : gW (DV × H) := (bL 0 (cH (λ σ h => aPy E h) (bN bES)))
abbrev bMt (n2 : Nat) : gW (DV × H) := (cH (λ σ h => (aFz E (σ p0) (σ p3) (σ p10) n2) (σ p11) h) (aXp E))
theorem bNY (n2 : Nat) : Is E aZC (bMt E n2) (λ σ h => aPx E (aFz E (σ p0) (σ p3) (σ p10) n2) (σ p11) h) := λ σ h => by kernel_rfl
theorem bNZ : Is E aZD (aXp E) (λ σ h => aFz E (σ p0) (σ p3) (σ p10) aR (σ p11) h) := Is.loop (λ n2 σ h => aFz E (σ p0) (σ p3) (σ p10) n2 (σ p11) h) (by kernel_rfl) λ n2 => Is.as (Is.seq (Is.seq (Is.seq (bNY E n2) (Is.leaf _)) (Is.leaf _)) (Is.leaf _)) λ σ h => by kernel_rfl
theorem bOb : oQ E aZF bES (aYa E) := Is.as (Is.seq (Is.seq (Is.seq (bOa E) (Is.seq (Is.block (bNZ E)) (Is.leaf _))) (Is.leaf _)) (Is.leaf _)) λ σ h => by kernel_rfl
def bQI : DF := ⟨1, 48, aZF, bES⟩
def bLU : cE := oR (aYa E)
theorem bDL : SQ bQI bLU := λ E => oV (d := bQI) (bOb E) rfl
def bER : List RV := [(.r p4)]
def aPw (E : bO) (r6 : DV) (h : H) : aU := some (r6, h)
def aZA : DC := (zs 4 [zT 37 6,zM 37] .ret)
def aPv (E : bO) (i2 : DV → DV → H → aU) (r6 r17 : DV) (h : H) : aU := vK (bJ r17 (ii 1)) λ x1 => i2 r6 x1 h
def aZy : DC := (zr 17 [zY 36 (.bin .add iL (zk 1)),zM 36])
def bRP (r0 r5 r15 r16 : DV) (i2 : DV → DV → H → aU) (r6 r17 : DV) (h : H) : aU := vK (cJ r17 r16) λ x1 => bK x1 (vK (cC 1 r15 r17) λ x2 => vK (aI h.get x2) λ x3 => wK (aD E 145 [r5, x3] h) λ x4 h5 => vK (aG 0 x4) λ x6 => vK (aG 1 x4) λ x7 => wK (aD E 87 [r0, x6] h5) λ x8 h9 => vK (dS .ptr true h9.get x8 .nilp) λ x10 => bK x10 (wK (aD E 160 [r0, x6] h9) λ x11 h12 => vK (bJ r6 x11) λ x13 => aPv E i2 x13 r17 h12) (aPv E i2 r6 r17 h9)) (aPw E r6 h)
def aFy (r0 r5 r15 r16 : DV) (n : Nat) : DV → DV → H → aU := Nat.rec (motive := λ _ => DV → DV → H → aU) (λ _ _ _ => none) (λ _ i => bRP E r0 r5 r15 r16 i) n
def aZz : DC := (.loop (zs 18 [zX (.bin .lss iL iG)] (zq (.cond iC .skip (.exit 0)) (zq (.block 1 (zs 19 [zX (.iaS 1 iW iL),zX (.ld iN),zT 8 20] (zs 22 [zM 5,zM 8,zF 145 [jV,iB],zT 21 24,zX (.ext 0 gZ),zX (.ext 1 gZ),zT 9 25,zT 10 26] (zs 27 [zM 0,zM 9,zF 87 [lB,lK],zX (.eqv .ptr true lZ (.c .nilp))] (.cond lY (zr 31 [zM 6,zM 0,zM 9,zF 160 [lF,mX],zX (.bin .add nH mW),zT 6 35]) .skip))))) aZy))))
def aXZ (r0 r1 : DV) (h : H) : aU := wK (aD E 87 [r0, r1] h) λ x1 h2 => wK (aD E 88 [x1] h2) λ x3 h4 => vK (cB x3) λ x5 => aFy E r0 x1 x3 x5 aR (ii 1) (ii 0) h4
def aZB : DC := (zs 4 [zX (.mv (zk 0))] (zs 11 [zM 0,zM 1,zF 87 [fZ,fL],zT 5 13,zY 6 (.mv (zk 1))] (zq (zs 14 [zM 5,zF 88 [iO],zX (.lenL iW),zX (.mv (zk 0))] (.block 0 aZz)) aZA)))
theorem bNW : Is E aZA (bN bER) (λ σ h => aPw E (σ p6) h) := λ σ h => by kernel_rfl
abbrev aXo : gW (DV × H) := (cH (λ σ h => aPw E (σ p6) h) (bN bER))
abbrev bMs (n2 : Nat) : gW (DV × H) := (cH (λ σ h => (aFy E (σ p0) (σ p5) (σ p15) (σ p16) n2) (σ p6) (σ p17) h) (bL 0 (aXo E)))
theorem bNU (n2 : Nat) : Is E aZy (bMs E n2) (λ σ h => aPv E (aFy E (σ p0) (σ p5) (σ p15) (σ p16) n2) (σ p6) (σ p17) h) := λ σ h => by kernel_rfl
theorem bNV : Is E aZz (bL 0 (aXo E)) (λ σ h => aFy E (σ p0) (σ p5) (σ p15) (σ p16) aR (σ p6) (σ p17) h) := Is.loop (λ n2 σ h => aFy E (σ p0) (σ p5) (σ p15) (σ p16) n2 (σ p6) (σ p17) h) (by kernel_rfl) λ n2 => Is.as (Is.seq (Is.seq (Is.seq (bNU E n2) (Is.leaf _)) (Is.leaf _)) (Is.leaf _)) λ σ h => by kernel_rfl
theorem bNX : nA E aZB bER (aXZ E) := Is.as (Is.seq (Is.seq (Is.seq (bNW E) (Is.seq (Is.block (bNV E)) (Is.leaf _))) (Is.leaf _)) (Is.leaf _)) λ σ h => by kernel_rfl
def bQH : DF := ⟨2, 38, aZB, bER⟩
def bLT : cE := nB (aXZ E)
theorem bDK : SQ bQH bLT := λ E => nL (d := bQH) (bNX E) rfl
def R161 : List RV := [(.r p4)]
def aJK (r0 r1 : DV) (h : H) : aU := wK (aD E 172 [r0, r1, (ii 0), (.int .i64 (.negSucc 0))] h) λ x1 h2 => some (x1, h2)
def aZx : DC := (zs 4 [zX (.mv (.c .nils))] (zs 5 [zM 0,zM 1,zF 172 [o5,o6,(zk 0),(.c (.int .i64 (.negSucc 0)))],zT 4 7] .ret))
theorem bNT : nA E aZx R161 (aJK E) := λ σ h => by kernel_rfl
def bQG : DF := ⟨2, 8, aZx, R161⟩
def aWz : cE := nB (aJK E)
theorem bDJ : SQ bQG aWz := λ E => nL (d := bQG) (bNT E) rfl
def bEQ : List RV := [(.r p6),(.r p7)]
def aJI (r0 r1 r2 r8 : DV) (h : H) : aU := vK (cB r0) λ x1 => vK (cJ r8 x1) λ x2 => bA x2 true (λ kk => kk r2 h) h λ x3 h4 => bA x2 true (λ kk => kk r0 h4) h4 λ x5 h6 => bA x2 true (λ kk => kk r8 h6) h6 λ x7 h8 => bA x2 true (λ kk => vK (cC 2 x5 x7) λ v => kk v h8) h8 λ x9 h10 => bA x2 true (λ kk => vK (aK 2 h10.get x9) λ v => kk v h10) h10 λ x11 h12 => bA x2 true (λ kk => wK (oW E x3 [x11] h12) kk) h12 λ x13 h14 => bA x2 true (λ kk => kk r1 h14) h14 λ x15 h16 => bA x2 true (λ kk => vK (bP x13 x15) λ v => kk v h16) h16 λ x17 h18 => vK (aQ x2 x17 (.bool false)) λ x19 => some ((.tup [r8, x19]), h18)
def aZv : DC := (zs 31 [zM 8,zM 8,zM 0,zX (.lenL mX),zX (.bin .lss lF mW),zM 35,zL 36 true 2,zL 36 true 0,zL 36 true 8,zG 36 true (.iaS 2 uD rT),zG 36 true (.ldN 2 rE),zD ⟨(some p42),(some (p36,true)),(.c (.v pR [vG]))⟩,zD ⟨(some p43),(some (p36,true)),(.e (.mv o1))⟩,zD ⟨(some p44),(some (p36,true)),(.e (.bin .eql uN uM))⟩,zY 45 (.pick mZ uJ (.c (.bool false))),zT 6 31,zT 7 45] .ret)
def aFS (r0 r1 r2 : DV) (i2 : DV → DV → H → aU) (r8 r9 : DV) (h : H) : aU := vK (cJ r8 r9) λ x1 => bK x1 (vK (bJ r8 r9) λ x2 => vK (aGW x2 (ii 2)) λ x3 => vK (cC 2 r0 x3) λ x4 => vK (aK 2 h.get x4) λ x5 => wK (oW E r2 [x5] h) λ x6 h7 => vK (cJ x6 r1) λ x8 => bK x8 (vK (bJ x3 (ii 1)) λ x9 => i2 x9 r9 h7) (i2 r8 x3 h7)) (aJI E r0 r1 r2 r8 h)
def aCt (r0 r1 r2 : DV) (n : Nat) : DV → DV → H → aU := Nat.rec (motive := λ _ => DV → DV → H → aU) (λ _ _ _ => none) (λ _ i => aFS E r0 r1 r2 i) n
def aZu : DC := (.loop (zq (zs 13 [zM 8,zM 9,zX (.bin .lss fX iO)] (.cond iW .skip (.exit 0))) (.block 1 (zs 16 [zM 8,zM 9,zX (.bin .add iG iL),zX (.bin .quo iC (zk 2)),zT 10 19] (zs 20 [zM 2,zM 0,zM 10,zX (.iaS 2 gZ jV),zX (.ldN 2 iB),zD ⟨(some p25),none,(.c (.v iV [iP]))⟩,zT 26 1,zY 27 (.bin .lss kJ mA)] (.cond lB (zr 28 [zM 10,zX (.bin .add lK (zk 1)),zT 8 29]) (zr 9 [zT 30 10,zM 30])))))))
def aJJ (r0 r1 r2 : DV) (h : H) : aU := vK (cB r0) λ x1 => aCt E r0 r1 r2 aR (ii 0) x1 h
def aZw : DC := (zs 6 [zX (.mv (zk 0)),zX (.mv (.c (.bool false)))] (zs 11 [zM 0,zX (.lenL fZ),zY 8 (.mv (zk 0)),zT 9 12] (zq (.block 0 aZu) aZv)))
theorem bNR : Is E aZv (bN bEQ) (λ σ h => aJI E (σ p0) (σ p1) (σ p2) (σ p8) h) := λ σ h => by kernel_rfl
abbrev bMr : gW (DV × H) := (cH (λ σ h => aJI E (σ p0) (σ p1) (σ p2) (σ p8) h) (bN bEQ))
theorem bNQ : Is E aZu (bL 0 (bMr E)) (λ σ h => aCt E (σ p0) (σ p1) (σ p2) aR (σ p8) (σ p9) h) := Is.loop (λ n2 σ h => aCt E (σ p0) (σ p1) (σ p2) n2 (σ p8) (σ p9) h) (by kernel_rfl) λ n2 => Is.as (Is.leaf _) λ σ h => by kernel_rfl
theorem bNS : iA3 E aZw bEQ (aJJ E) := Is.as (Is.seq (Is.seq (Is.seq (bNR E) (Is.block (bNQ E))) (Is.leaf _)) (Is.leaf _)) λ σ h => by kernel_rfl
def bQF : DF := ⟨3, 46, aZw, bEQ⟩
def aWy : cE := fA3 (aJJ E)
theorem bDI : SQ bQF aWy := λ E => eA3 (d := bQF) (bNS E) rfl
def R163 : List RV := [(.r p2)]
def aJH (E : bO) (r0 : DV) (h : H) : aU := dN r0 h λ x1 h2 => vK (aF 0 x1) λ x3 => vK (aI h2.get x3) λ x4 => some (x4, h2)
def aZt : DC := (zs 1 [zX (.box o0),zX (.mv (.c (.str [])))] (zs 3 [zX (.fa 0 o1),zX (.ld o3),zT 2 4] .ret))
theorem bNP : oQ E aZt R163 (aJH E) := λ σ h => by kernel_rfl
def bQE : DF := ⟨1, 5, aZt, R163⟩
def aTz : cE := oR (aJH E)
theorem bDH : SQ bQE aTz := λ E => oV (d := bQE) (bNP E) rfl
def R164 : List RV := [(.r p4)]
def aJG (r0 r1 : DV) (h : H) : aU := wK (aD E 173 [r0, r1] h) λ x1 h2 => some (x1, h2)
def aZs : DC := (zs 4 [zX (.mv (zk 0))] (zs 5 [zM 0,zM 1,zF 173 [o5,o6],zT 4 7] .ret))
theorem bNO : nA E aZs R164 (aJG E) := λ σ h => by kernel_rfl
def bQD : DF := ⟨2, 8, aZs, R164⟩
def aWx : cE := nB (aJG E)
theorem bDG : SQ bQD aWx := λ E => nL (d := bQD) (bNO E) rfl
def R166 : List RV := []
def aXY (r0 r1 : DV) (h : H) : aU := vK (cB r0) λ x1 => vK (fC x1 r1) λ x2 => wK (aD E 174 [r0, x2] h) λ x3 h4 => some ((.tup []), h4)
def aZr : DC := (zr 4 [zM 0,zM 0,zX (.lenL o5),zM 1,zX (.bin .sub o6 o7),zF 174 [o4,o8]])
theorem bNN : nA E aZr R166 (aXY E) := λ σ h => by kernel_rfl
def bQC : DF := ⟨2, 10, aZr, R166⟩
def bLS : cE := nB (aXY E)
theorem bDF : SQ bQC bLS := λ E => nL (d := bQC) (bNN E) rfl
def bEP : List RV := [(.r p4),(.r p5)]
def aFD (E : bO) (r0 r1 r6 : DV) (h : H) : aU := vK (cB r0) λ x1 => vK (cJ r6 x1) λ x2 => bA x2 true (λ kk => kk r0 h) h λ x3 h4 => bA x2 true (λ kk => kk r6 h4) h4 λ x5 h6 => bA x2 true (λ kk => vK (cC 2 x3 x5) λ v => kk v h6) h6 λ x7 h8 => bA x2 true (λ kk => vK (aF 0 x7) λ v => kk v h8) h8 λ x9 h10 => bA x2 true (λ kk => vK (aI h10.get x9) λ v => kk v h10) h10 λ x11 h12 => bA x2 true (λ kk => kk r1 h12) h12 λ x13 h14 => bA x2 true (λ kk => vK (bP x11 x13) λ v => kk v h14) h14 λ x15 h16 => vK (aQ x2 x15 (.bool false)) λ x17 => some ((.tup [r6, x17]), h16)
def aZp : DC := (zq (zd 22 [yA 0 (zM 6),yA 1 (zM 6),yA 2 (zM 0),yA 3 (zX (.lenL iP)),yA 4 (zX (.bin .lss iB kJ)),yA 5 (zM 26),yA 6 (zL 27 true 0),yA 7 (zL 27 true 6),yA 8 (zG 27 true (.iaS 2 lK lZ)),yA 9 (zG 27 true (.fa 0 lY)),yA 10 (zG 27 true (.ld nH)),yA 11 (zL 27 true 1),yA 12 (zG 27 true (.bin .eql lF mX)),yA 13 (zX (.pick lB mW (.c (.bool false)))),yA 14 (zT 4 22),yA 15 (zT 5 35)]) .ret)
def aFR (r0 r1 : DV) (i2 : DV → H → aU) (r6 : DV) (h : H) : aU := vK (cB r0) λ x1 => vK (cJ r6 x1) λ x2 => bA x2 true (λ kk => kk r0 h) h λ x3 h4 => bA x2 true (λ kk => kk r6 h4) h4 λ x5 h6 => bA x2 true (λ kk => vK (cC 2 x3 x5) λ v => kk v h6) h6 λ x7 h8 => bA x2 true (λ kk => vK (aF 0 x7) λ v => kk v h8) h8 λ x9 h10 => bA x2 true (λ kk => vK (aI h10.get x9) λ v => kk v h10) h10 λ x11 h12 => bA x2 true (λ kk => kk r1 h12) h12 λ x13 h14 => bA x2 true (λ kk => vK (cJ x11 x13) λ v => kk v h14) h14 λ x15 h16 => vK (aQ x2 x15 (.bool false)) λ x17 => bK x17 (vK (bJ r6 (ii 1)) λ x18 => i2 x18 h16) (aFD E r0 r1 r6 h16)
def aCs (r0 r1 : DV) (n : Nat) : DV → H → aU := Nat.rec (motive := λ _ => DV → H → aU) (λ _ _ => none) (λ _ i => aFR E r0 r1 i) n
def aZo : DC := (.loop (zq (zs 7 [zM 6,zM 0,zX (.lenL o8),zX (.bin .lss o7 o9),zM 10,zL 11 true 0,zL 11 true 6,zG 11 true (.iaS 2 fL fX),zG 11 true (.fa 0 iO),zG 11 true (.ld iW),zL 11 true 1,zG 11 true (.bin .lss iG iL),zX (.pick fZ iC (.c (.bool false)))] (.cond iN .skip (.exit 0))) (.block 1 (zr 20 [zM 6,zX (.bin .add iV (zk 1)),zT 6 21]))))
def aXX (r0 r1 : DV) (h : H) : aU := aCs E r0 r1 aR (ii 0) h
def aZq : DC := (zs 4 [zX (.mv (zk 0)),zX (.mv (.c (.bool false)))] (zs 6 [zX (.mv (zk 0))] (zq (.block 0 aZo) aZp)))
theorem bNL : Is E aZp (bN bEP) (λ σ h => aFD E (σ p0) (σ p1) (σ p6) h) := λ σ h => by kernel_rfl
abbrev bMq : gW (DV × H) := (cH (λ σ h => aFD E (σ p0) (σ p1) (σ p6) h) (bN bEP))
theorem bNK : Is E aZo (bL 0 (bMq E)) (λ σ h => aCs E (σ p0) (σ p1) aR (σ p6) h) := Is.loop (λ n2 σ h => aCs E (σ p0) (σ p1) n2 (σ p6) h) (by kernel_rfl) λ n2 => Is.as (Is.leaf _) λ σ h => by kernel_rfl
theorem bNM : nA E aZq bEP (aXX E) := Is.as (Is.seq (Is.seq (Is.seq (bNL E) (Is.block (bNK E))) (Is.leaf _)) (Is.leaf _)) λ σ h => by kernel_rfl
def bQB : DF := ⟨2, 36, aZq, bEP⟩
def aWw : cE := nB (aXX E)
theorem bDE : SQ bQB aWw := λ E => nL (d := bQB) (bNM E) rfl
def bEO : List RV := [(.r p2)]
def aFC (E : bO) (r0 : DV) (h : H) : aU := vK (dA r0 (.str [])) λ x1 => bA x1 true (λ kk => kk r0 h) h λ x2 h3 => bA x1 true (λ kk => vK (bZ x2) λ v => kk v h3) h3 λ x4 h5 => bA x1 true (λ kk => vK (yL x4 (ii 28)) λ v => kk v h5) h5 λ x6 h7 => vK (aQ x1 x6 (.bool false)) λ x8 => bA x8 true (λ kk => kk r0 h7) h7 λ x9 h10 => bA x8 true (λ kk => vK (dA x9 (.str [46])) λ v => kk v h10) h10 λ x11 h12 => vK (aQ x8 x11 (.bool false)) λ x13 => bA x13 true (λ kk => kk r0 h12) h12 λ x14 h15 => bA x13 true (λ kk => vK (dA x14 (.str [46, 46])) λ v => kk v h15) h15 λ x16 h17 => vK (aQ x13 x16 (.bool false)) λ x18 => some (x18, h17)
def aZm : DC := (zs 20 [zM 0,zX (.bin .neq iV (.c (.str []))),zM 21,zL 22 true 0,zG 22 true (.lenS iB),zG 22 true (.bin .leq iP (zk 28)),zX (.pick jV kJ (.c (.bool false))),zM 26,zL 27 true 0,zG 27 true (.bin .neq lK (.c (.str [46]))),zX (.pick lB lZ (.c (.bool false))),zM 30,zL 31 true 0,zG 31 true (.bin .neq lF (.c (.str [46,46]))),zX (.pick nH mX (.c (.bool false))),zT 2 34] .ret)
def aFQ (r0 : DV) (i2 : DV → H → aU) (r3 : DV) (h : H) : aU := vK (bZ r0) λ x1 => vK (cJ r3 x1) λ x2 => bK x2 (vK (gQ r0 r3) λ x3 => vK (bP x3 (.int .u8 (.ofNat 0))) λ x4 => bA x4 false (λ kk => kk r0 h) h λ x5 h6 => bA x4 false (λ kk => kk r3 h6) h6 λ x7 h8 => bA x4 false (λ kk => vK (gQ x5 x7) λ v => kk v h8) h8 λ x9 h10 => bA x4 false (λ kk => vK (bP x9 (.int .u8 (.ofNat 47))) λ v => kk v h10) h10 λ x11 h12 => vK (aQ x4 (.bool true) x11) λ x13 => bK x13 (some ((.bool false), h12)) (vK (bJ r3 (ii 1)) λ x14 => i2 x14 h12)) (aFC E r0 h)
def aCr (r0 : DV) (n : Nat) : DV → H → aU := Nat.rec (motive := λ _ => DV → H → aU) (λ _ _ => none) (λ _ i => aFQ E r0 i) n
def aZl : DC := (.loop (zq (zs 4 [zM 3,zM 0,zX (.lenS o5),zX (.bin .lss o4 o6)] (.cond o7 .skip (.exit 0))) (zq (.block 1 (zs 10 [zM 0,zM 3,zX (.ixS fR fZ),zX (.bin .eql fL (.c (.int .u8 (.ofNat 0)))),zM 13,zL 14 false 0,zL 14 false 3,zG 14 false (.ixS iW iG),zG 14 false (.bin .eql iL (.c (.int .u8 (.ofNat 47)))),zX (.pick iO (.c (.bool true)) iC)] (.cond iN (zs 2 [zX (.mv (.c (.bool false)))] .ret) .skip))) (zr 8 [zM 3,zX (.bin .add o8 (zk 1)),zT 3 9]))))
def aXW (r0 : DV) (h : H) : aU := aCr E r0 aR (ii 0) h
def aZn : DC := (zs 2 [zX (.mv (.c (.bool false)))] (zq (zs 3 [zX (.mv (zk 0))] (.block 0 aZl)) aZm))
theorem bNI : Is E aZm (bN bEO) (λ σ h => aFC E (σ p0) h) := λ σ h => by kernel_rfl
abbrev bMp : gW (DV × H) := (cH (λ σ h => aFC E (σ p0) h) (bN bEO))
theorem bNH : Is E aZl (bL 0 (bMp E)) (λ σ h => aCr E (σ p0) aR (σ p3) h) := Is.loop (λ n2 σ h => aCr E (σ p0) n2 (σ p3) h) (by kernel_rfl) λ n2 => Is.as (Is.leaf _) λ σ h => by kernel_rfl
theorem bNJ : oQ E aZn bEO (aXW E) := Is.as (Is.seq (Is.seq (bNI E) (Is.seq (Is.block (bNH E)) (Is.leaf _))) (Is.leaf _)) λ σ h => by kernel_rfl
def bQA : DF := ⟨1, 35, aZn, bEO⟩
def aWv : cE := oR (aXW E)
theorem bDD : SQ bQA aWv := λ E => oV (d := bQA) (bNJ E) rfl
def R171 : List RV := [(.r p2)]
def aXV (E : bO) (r0 : DV) (h : H) : aU := vK (dS .ptr false h.get r0 .nilp) λ x1 => bK x1 (some ((ii 0), h)) (vK (aL r0) λ x2 => vK (aF 0 x2) λ x3 => vK (aI h.get x3) λ x4 => vK (bZ x4) λ x5 => some (x5, h))
def aZk : DC := (zs 2 [zX (.mv (zk 0))] (zq (zs 3 [zM 0,zX (.eqv .ptr false o3 (.c .nilp))] (.cond o4 (zs 2 [zX (.mv (zk 0))] .ret) .skip)) (zs 5 [zM 0,zX (.nilchk o5),zX (.fa 0 o6),zX (.ld o7),zX (.lenS o8),zT 2 9] .ret)))
theorem bNG : oQ E aZk R171 (aXV E) := λ σ h => by kernel_rfl
def bQz : DF := ⟨1, 10, aZk, R171⟩
def bLR : cE := oR (aXV E)
theorem bDC : SQ bQz bLR := λ E => oV (d := bQz) (bNG E) rfl
def aXg : List RV := [(.r p8)]
def aFB (E : bO) (r0 r9 r10 : DV) (h : H) : aU := vK (cC 1 r9 r10) λ x1 => wK (bQ 1 x1 r0 h) λ x2 h3 => vK (bJ r10 (ii 1)) λ x4 => vK (dK 1 r9 none (some x4)) λ x5 => some (x5, h3)
def aZh : DC := (zs 58 [zM 9,zM 10,zM 0,zX (.iaS 1 o58 o59),zW (.st 1 o61 o60)] (zs 62 [zM 9,zM 10,zX (.bin .add o63 (zk 1)),zX (.slL 1 o62 none (some o64)),zT 8 65] .ret))
def aFP (r1 r2 r3 r9 : DV) (i3 : DV → DV → H → aU) (r0 r10 : DV) (h : H) : aU := vK (cJ r10 r3) λ x1 => bK x1 (wK (aD E 183 [r0, r1] h) λ x2 h3 => vK (cJ x2 (ii 0)) λ x4 => bK x4 (aFB E r0 r9 r10 h3) (vK (bJ x2 r2) λ x5 => vK (gY r0 none (some x5)) λ x6 => vK (cC 1 r9 r10) λ x7 => wK (bQ 1 x7 x6 h3) λ x8 h9 => vK (bZ r1) λ x10 => vK (bJ x2 x10) λ x11 => vK (gY r0 (some x11) none) λ x12 => vK (bJ r10 (ii 1)) λ x13 => i3 x12 x13 h9)) (aFB E r0 r9 r10 h)
def aCq (r1 r2 r3 r9 : DV) (n : Nat) : DV → DV → H → aU := Nat.rec (motive := λ _ => DV → DV → H → aU) (λ _ _ _ => none) (λ _ i => aFP E r1 r2 r3 r9 i) n
def aZg : DC := (.loop (zq (zs 34 [zM 10,zM 3,zX (.bin .lss mW qG)] (.cond mZ .skip (.exit 0))) (.block 1 (zs 37 [zM 0,zM 1,zF 183 [pR,uD],zT 11 39] (zq (zs 40 [zM 11,zX (.bin .lss rE (zk 0))] (.cond vG (.exit 0) .skip)) (zs 42 [zM 9,zM 10,zM 0,zM 11,zM 2,zX (.bin .add o45 zJ),zX (.slS uJ none (some o47)),zX (.iaS 1 uN uM),zW (.st 1 o49 o48)] (zs 50 [zM 0,zM 11,zM 1,zX (.lenS o52),zX (.bin .add o51 o53),zX (.slS o50 (some o54) none),zT 0 55] (zr 56 [zM 10,zX (.bin .add o56 (zk 1)),zT 10 57]))))))))
def aJE (r0 r1 r2 r3 : DV) (h : H) : aU := vK (bZ r0) λ x1 => vK (bJ x1 (ii 1)) λ x2 => vK (aAv r3 x2) λ x3 => uE 1 16 (.str []) x3 x3 h λ x4 h5 => vK (fC x3 (ii 1)) λ x6 => aCq E r1 r2 x6 x4 aR r0 (ii 0) h5
def aZi : DC := (zs 25 [zM 3,zM 0,zX (.lenS mA),zX (.bin .add lB (zk 1)),zX (.mn kJ lK),zT 3 29] (zs 30 [zM 3,zX (.mks 1 16 (.str []) lY lY),zT 9 31] (zs 32 [zM 3,zX (.bin .sub lF (zk 1)),zT 3 33] (zs 10 [zX (.mv (zk 0))] (zq (.block 0 aZg) aZh)))))
def aJF (r0 r1 r2 r3 : DV) (h : H) : aU := vK (bP r3 (ii 0)) λ x1 => bK x1 (some (.nils, h)) (vK (bP r1 (.str [])) λ x2 => bK x2 (wK (aD E 181 [r0, r3] h) λ x3 h4 => some (x3, h4)) (vK (cJ r3 (ii 0)) λ x5 => bK x5 (wK (aD E 182 [r0, r1] h) λ x6 h7 => vK (bJ x6 (ii 1)) λ x8 => aJE E r0 r1 r2 x8 h7) (aJE E r0 r1 r2 r3 h)))
def aZj : DC := (zs 8 [zX (.mv (.c .nils))] (zq (zs 12 [zM 3,zX (.bin .eql fL (zk 0))] (.cond fX (zs 8 [zX (.mv (.c .nils))] .ret) .skip)) (zq (zs 14 [zM 1,zX (.bin .eql iO (.c (.str [])))] (.cond iW (zs 16 [zM 0,zM 3,zF 181 [iG,iL],zT 8 18] .ret) .skip)) (zq (zs 19 [zM 3,zX (.bin .lss iN (zk 0))] (.cond iV (zr 21 [zM 0,zM 1,zF 182 [gZ,jV],zX (.bin .add iB (zk 1)),zT 3 24]) .skip)) aZi))))
theorem bND : Is E aZh (bN aXg) (λ σ h => aFB E (σ p0) (σ p9) (σ p10) h) := λ σ h => by kernel_rfl
abbrev bMo : gW (DV × H) := (cH (λ σ h => aFB E (σ p0) (σ p9) (σ p10) h) (bN aXg))
theorem bNC : Is E aZg (bL 0 (bMo E)) (λ σ h => aCq E (σ p1) (σ p2) (σ p3) (σ p9) aR (σ p0) (σ p10) h) := Is.loop (λ n3 σ h => aCq E (σ p1) (σ p2) (σ p3) (σ p9) n3 (σ p0) (σ p10) h) (by kernel_rfl) λ n3 => Is.as (Is.leaf _) λ σ h => by kernel_rfl
theorem bNE : Is E aZi (bN aXg) (λ σ h => aJE E (σ p0) (σ p1) (σ p2) (σ p3) h) := Is.as (Is.seq (Is.seq (Is.seq (Is.seq (Is.seq (bND E) (Is.block (bNC E))) (Is.leaf _)) (Is.leaf _)) (Is.leaf _)) (Is.leaf _)) λ σ h => by kernel_rfl
theorem bNF : iA4 E aZj aXg (aJF E) := Is.as (Is.seq (Is.seq (Is.seq (Is.seq (bNE E) (Is.leaf _)) (Is.leaf _)) (Is.leaf _)) (Is.leaf _)) λ σ h => by kernel_rfl
def bQy : DF := ⟨4, 66, aZj, aXg⟩
def aWu : cE := fA4 (aJF E)
theorem bDB : SQ bQy aWu := λ E => eA4 (d := bQy) (bNF E) rfl
def R173 : List RV := [(.r p4)]
def aCD (E : bO) (r0 r1 : DV) (h : H) : aU := vK (aIb r0 r1) λ x1 => some (x1, h)
def aZf : DC := (zs 4 [zX (.mv (zk 0))] (zs 5 [zM 0,zM 1,zX (.prm .idx o5 o6),zT 4 7] .ret))
theorem bNB : nA E aZf R173 (aCD E) := λ σ h => by kernel_rfl
def bQx : DF := ⟨2, 8, aZf, R173⟩
def aJp : cE := nB (aCD E)
theorem bDA : SQ bQx aJp := λ E => nL (d := bQx) (bNB E) rfl
def R174 : List RV := []
def aXU (r0 r1 : DV) (h : H) : aU := vK (dK 2 r0 none (some r1)) λ x1 => wK (aD E 185 [x1] h) λ x2 h3 => vK (dK 2 r0 (some r1) none) λ x4 => wK (aD E 185 [x4] h3) λ x5 h6 => wK (aD E 185 [r0] h6) λ x7 h8 => some ((.tup []), h8)
def aZe : DC := (zs 4 [zM 0,zM 1,zX (.slL 2 o4 none (some o5)),zF 185 [o6]] (zs 8 [zM 0,zM 1,zX (.slL 2 o8 (some o9) none),zF 185 [fR]] (zr 12 [zM 0,zF 185 [fL]])))
theorem bNA : nA E aZe R174 (aXU E) := λ σ h => by kernel_rfl
def bQw : DF := ⟨2, 14, aZe, R174⟩
def bLQ : cE := nB (aXU E)
theorem bDz : SQ bQw bLQ := λ E => nL (d := bQw) (bNA E) rfl
def aTH : List RV := [(.r p4)]
def aPs (E : bO) (r6 : DV) (h : H) : aU := some (r6, h)
def aYZ : DC := (zs 4 [zT 49 6,zM 49] .ret)
def aPt (r0 r1 r6 : DV) (h : H) : aU := vK (eH r1 (ii 0)) λ x1 => bK x1 (vK (fC r1 (ii 1)) λ x2 => vK (cC 1 r6 x2) λ x3 => wK (bQ 1 x3 r0 h) λ x4 h5 => aPs E r6 h5) (aPs E r6 h)
def aZb : DC := (zq (zs 42 [zM 1,zX (.bin .gtr uN (zk 0))] (.cond uM (zr 44 [zM 6,zM 1,zX (.bin .sub o45 (zk 1)),zM 0,zX (.iaS 1 uJ zJ),zW (.st 1 o48 o47)]) .skip)) aYZ)
def bRO (r1 r6 : DV) (i3 : DV → DV → H → aU) (r0 r7 : DV) (h : H) : aU := vK (fC r1 (ii 1)) λ x1 => vK (cJ r7 x1) λ x2 => bK x2 (wK (aD E 192 [r0] h) λ x3 h4 => vK (aG 0 x3) λ x5 => vK (aG 1 x3) λ x6 => vK (gY r0 none (some x6)) λ x7 => vK (cC 1 r6 r7) λ x8 => wK (bQ 1 x8 x7 h4) λ x9 h10 => vK (gY r0 (some x6) none) λ x11 => vK (bJ r7 (ii 1)) λ x12 => i3 x11 x12 h10) (aPt E r0 r1 r6 h)
def aPg (r1 r6 : DV) (n : Nat) : DV → DV → H → aU := Nat.rec (motive := λ _ => DV → DV → H → aU) (λ _ _ _ => none) (λ _ i => bRO E r1 r6 i) n
def aZa : DC := (.loop (zq (zs 22 [zM 7,zM 1,zX (.bin .sub iB (zk 1)),zX (.bin .lss jV iP)] (.cond kJ .skip (.exit 0))) (zq (.block 1 (zs 29 [zM 0,zF 192 [lZ],zT 28 30,zX (.ext 0 lK),zX (.ext 1 lK),zT 8 31,zT 9 32] (zs 33 [zM 6,zM 7,zM 0,zM 9,zX (.slS qG none (some mZ)),zX (.iaS 1 mX mW),zW (.st 1 uD pR)] (zr 39 [zM 0,zM 9,zX (.slS rT (some rE) none),zT 0 41])))) (zr 26 [zM 7,zX (.bin .add mA (zk 1)),zT 7 27]))))
def aPu (r0 r1 : DV) (h : H) : aU := uE 1 16 (.str []) r1 r1 h λ x1 h2 => aPg E r1 x1 aR r0 (ii 0) h2
def aZc : DC := (zs 20 [zM 1,zX (.mks 1 16 (.str []) iV iV),zT 6 21] (zq (zs 7 [zX (.mv (zk 0))] (.block 0 aZa)) aZb))
def aXT (r0 r1 : DV) (h : H) : aU := wK (aD E 191 [r0] h) λ x1 h2 => vK (cJ r1 (ii 0)) λ x3 => bA x3 false (λ kk => kk r1 h2) h2 λ x4 h5 => bA x3 false (λ kk => kk x1 h5) h5 λ x6 h7 => bA x3 false (λ kk => vK (eH x4 x6) λ v => kk v h7) h7 λ x8 h9 => vK (aQ x3 (.bool true) x8) λ x10 => bK x10 (aPu E r0 x1 h9) (aPu E r0 r1 h9)
def aZd : DC := (zs 4 [zX (.mv (.c .nils))] (zs 10 [zM 0,zF 191 [fR],zT 5 11] (zq (zs 12 [zM 1,zX (.bin .lss fL (zk 0)),zM 13,zL 14 false 1,zL 14 false 5,zG 14 false (.bin .gtr iW iG),zX (.pick iO (.c (.bool true)) iL)] (.cond iC (zr 1 [zT 19 5,zM 19]) .skip)) aZc)))
theorem bNv : Is E aYZ (bN aTH) (λ σ h => aPs E (σ p6) h) := λ σ h => by kernel_rfl
theorem bNx : Is E aZb (bN aTH) (λ σ h => aPt E (σ p0) (σ p1) (σ p6) h) := Is.as (Is.seq (bNv E) (Is.leaf _)) λ σ h => by kernel_rfl
abbrev bMn : gW (DV × H) := (cH (λ σ h => aPt E (σ p0) (σ p1) (σ p6) h) (bN aTH))
theorem bNw : Is E aZa (bL 0 (bMn E)) (λ σ h => aPg E (σ p1) (σ p6) aR (σ p0) (σ p7) h) := Is.loop (λ n3 σ h => aPg E (σ p1) (σ p6) n3 (σ p0) (σ p7) h) (by kernel_rfl) λ n3 => Is.as (Is.leaf _) λ σ h => by kernel_rfl
theorem bNy : Is E aZc (bN aTH) (λ σ h => aPu E (σ p0) (σ p1) h) := Is.as (Is.seq (Is.seq (bNx E) (Is.seq (Is.block (bNw E)) (Is.leaf _))) (Is.leaf _)) λ σ h => by kernel_rfl
theorem bNz : nA E aZd aTH (aXT E) := Is.as (Is.seq (Is.seq (Is.seq (bNy E) (Is.leaf _)) (Is.leaf _)) (Is.leaf _)) λ σ h => by kernel_rfl
def bQv : DF := ⟨2, 50, aZd, aTH⟩
def bLP : cE := nB (aXT E)
theorem bDy : SQ bQv bLP := λ E => nL (d := bQv) (bNz E) rfl
def bMe : List RV := [(.r p4)]
def bRN (r1 : DV) (i1 : DV → DV → H → aU) (r0 r5 : DV) (h : H) : aU := wK (aD E 183 [r0, r1] h) λ x1 h2 => vK (bP x1 (.int .i64 (.negSucc 0))) λ x3 => bK x3 (some (r5, h2)) (vK (bJ r5 (ii 1)) λ x4 => vK (bZ r1) λ x5 => vK (bJ x1 x5) λ x6 => vK (gY r0 (some x6) none) λ x7 => i1 x7 x4 h2)
def aPf (r1 : DV) (n : Nat) : DV → DV → H → aU := Nat.rec (motive := λ _ => DV → DV → H → aU) (λ _ _ _ => none) (λ _ i => bRN E r1 i) n
def aYX : DC := (.loop (.block 1 (zs 20 [zM 0,zM 1,zF 183 [iV,gZ],zT 6 22] (zq (zs 23 [zM 6,zX (.bin .eql iB (.c (.int .i64 (.negSucc 0))))] (.cond iP (zs 4 [zT 25 5,zM 25] .ret) .skip)) (zs 26 [zM 5,zX (.bin .add mA (zk 1)),zT 5 27] (zr 28 [zM 0,zM 6,zM 1,zX (.lenS lY),zX (.bin .add lZ nH),zX (.slS lK (some lF) none),zT 0 33]))))))
def aJD (r0 r1 : DV) (h : H) : aU := vK (bZ r1) λ x1 => vK (bP x1 (ii 0)) λ x2 => bK x2 (wK (aD E 191 [r0] h) λ x3 h4 => vK (bJ x3 (ii 1)) λ x5 => some (x5, h4)) (vK (bZ r1) λ x6 => vK (bP x6 (ii 1)) λ x7 => bK x7 (vK (gQ r1 (ii 0)) λ x8 => vK (aNC r0 x8) λ x9 => some (x9, h)) (aPf E r1 aR r0 (ii 0) h))
def aYY : DC := (zs 4 [zX (.mv (zk 0))] (zq (zs 7 [zM 1,zX (.lenS o7),zX (.bin .eql o8 (zk 0))] (.cond o9 (zs 10 [zM 0,zF 191 [fR],zX (.bin .add fZ (zk 1)),zT 4 12] .ret) .skip)) (zq (zs 13 [zM 1,zX (.lenS fX),zX (.bin .eql iO (zk 1))] (.cond iW (zs 16 [zM 0,zM 1,zX (.ixS iL (zk 0)),zX (.prm .cnt iG iC),zT 4 19] .ret) .skip)) (zs 5 [zX (.mv (zk 0))] (.block 0 aYX)))))
theorem bNt : Is E aYX (bL 0 (bN bMe)) (λ σ h => aPf E (σ p1) aR (σ p0) (σ p5) h) := Is.loop (λ n1 σ h => aPf E (σ p1) n1 (σ p0) (σ p5) h) (by kernel_rfl) λ n1 => Is.as (Is.leaf _) λ σ h => by kernel_rfl
theorem bNu : nA E aYY bMe (aJD E) := Is.as (Is.seq (Is.seq (Is.seq (Is.seq (Is.block (bNt E)) (Is.leaf _)) (Is.leaf _)) (Is.leaf _)) (Is.leaf _)) λ σ h => by kernel_rfl
def bQu : DF := ⟨2, 34, aYY, bMe⟩
def aWt : cE := nB (aJD E)
theorem bDx : SQ bQu aWt := λ E => nL (d := bQu) (bNu E) rfl
def R183 : List RV := [(.r p4)]
def aJC (r0 r1 : DV) (h : H) : aU := wK (aD E 194 [r0, r1] h) λ x1 h2 => some (x1, h2)
def aYW : DC := (zs 4 [zX (.mv (zk 0))] (zs 5 [zM 0,zM 1,zF 194 [o5,o6],zT 4 7] .ret))
theorem bNs : nA E aYW R183 (aJC E) := λ σ h => by kernel_rfl
def bQt : DF := ⟨2, 8, aYW, R183⟩
def aWs : cE := nB (aJC E)
theorem bDw : SQ bQt aWs := λ E => nL (d := bQt) (bNs E) rfl
def bMd : List RV := []
def bRM (E : bO) (r0 : DV) (i1 : DV → DV → H → aU) (r2 r3 : DV) (h : H) : aU := vK (cJ r2 r3) λ x1 => bK x1 (vK (cC 2 r0 r3) λ x2 => vK (aK 2 h.get x2) λ x3 => vK (cC 2 r0 r2) λ x4 => vK (aK 2 h.get x4) λ x5 => vK (cC 2 r0 r2) λ x6 => wK (bQ 2 x6 x3 h) λ x7 h8 => vK (cC 2 r0 r3) λ x9 => wK (bQ 2 x9 x5 h8) λ x10 h11 => vK (bJ r2 (ii 1)) λ x12 => vK (fC r3 (ii 1)) λ x13 => i1 x12 x13 h11) (some ((.tup []), h))
def aPe (r0 : DV) (n : Nat) : DV → DV → H → aU := Nat.rec (motive := λ _ => DV → DV → H → aU) (λ _ _ _ => none) (λ _ i => bRM E r0 i) n
def aYU : DC := (.loop (zq (zs 7 [zM 2,zM 3,zX (.bin .lss o7 o8)] (.cond o9 .skip (.exit 0))) (zq (.block 1 (zd 14 [yA 0 (zM 0),yA 1 (zM 2),yA 2 (zM 0),yA 3 (zM 3),yA 4 (zM 0),yA 5 (zM 3),yA 6 (zX (.iaS 2 iC iN)),yA 7 (zX (.ldN 2 iV)),yA 8 (zM 0),yA 9 (zM 2),yA 10 (zX (.iaS 2 jV iB)),yA 11 (zX (.ldN 2 iP)),yA 12 (zX (.iaS 2 iO iW)),yA 13 (zW (.st 2 mA gZ)),yA 14 (zX (.iaS 2 iG iL)),yA 15 (zW (.st 2 lB kJ))])) (zr 10 [zM 2,zX (.bin .add fR (zk 1)),zM 3,zX (.bin .sub fL (zk 1)),zT 2 11,zT 3 13]))))
def aXS (r0 : DV) (h : H) : aU := vK (cB r0) λ x1 => vK (fC x1 (ii 1)) λ x2 => aPe E r0 aR (ii 0) x2 h
def aYV : DC := (zs 4 [zM 0,zX (.lenL o4),zX (.bin .sub o5 (zk 1)),zY 2 (.mv (zk 0)),zT 3 6] (.block 0 aYU))
theorem bNq : Is E aYU (bL 0 (bN bMd)) (λ σ h => aPe E (σ p0) aR (σ p2) (σ p3) h) := Is.loop (λ n1 σ h => aPe E (σ p0) n1 (σ p2) (σ p3) h) (by kernel_rfl) λ n1 => Is.as (Is.leaf _) λ σ h => by kernel_rfl
theorem bNr : oQ E aYV bMd (aXS E) := Is.as (Is.seq (Is.block (bNq E)) (Is.leaf _)) λ σ h => by kernel_rfl
def bQs : DF := ⟨1, 28, aYV, bMd⟩
def bLO : cE := oR (aXS E)
theorem bDv : SQ bQs bLO := λ E => oV (d := bQs) (bNr E) rfl
def bEN : List RV := [(.r p2)]
def aXQ (E : bO) (r2 : DV) (h : H) : aU := some (r2, h)
def aYS : DC := (zs 2 [zT 9 2,zM 9] .ret)
def bRL (E : bO) (i2 : H → aU) (h : H) : aU := none
def aXk (n : Nat) : H → aU := Nat.rec (motive := λ _ => H → aU) (λ _ => none) (λ _ i => bRL E i) n
def aYR : DC := (.loop (zs 5 [zX .bad,zX (.ext 0 o5)] (zq (.cond o6 .skip (.exit 0)) (.block 1 (zr 7 [zM 2,zX (.bin .add o7 (zk 1)),zT 2 8])))))
def aXR (E : bO) (h : H) : aU := none
def aYT : DC := (zs 2 [zX (.mv (zk 0))] (zq (zs 3 [zM 0,zX .bad] (.block 0 aYR)) aYS))
theorem bNo : Is E aYS (bN bEN) (λ σ h => aXQ E (σ p2) h) := λ σ h => by kernel_rfl
abbrev bMm : gW (DV × H) := (cH (λ σ h => aXQ E (σ p2) h) (bN bEN))
theorem bNn : Is E aYR (bL 0 (bMm E)) (λ σ h => aXk E aR h) := Is.loop (λ n2 σ h => aXk E n2 h) (by kernel_rfl) λ n2 => Is.as (Is.leaf _) λ σ h => by kernel_rfl
theorem bNp : oQ E aYT bEN (λ _ h => aXR E h) := Is.as (Is.seq (Is.seq (bNo E) (Is.seq (Is.block (bNn E)) (Is.leaf _))) (Is.leaf _)) λ σ h => by kernel_rfl
def bQr : DF := ⟨1, 10, aYT, bEN⟩
def bLN : cE := oR (λ _ h => aXR E h)
theorem bDu : SQ bQr bLN := λ E => oV (d := bQr) (bNp E) rfl
def R192 : List RV := [(.r p2),(.r p3)]
def aXP (r0 : DV) (h : H) : aU := vK (dA r0 (.str [])) λ x1 => bA x1 true (λ kk => kk r0 h) h λ x2 h3 => bA x1 true (λ kk => vK (gQ x2 (ii 0)) λ v => kk v h3) h3 λ x4 h5 => bA x1 true (λ kk => vK (cJ x4 (.int .u8 (.ofNat 128))) λ v => kk v h5) h5 λ x6 h7 => vK (aQ x1 x6 (.bool false)) λ x8 => bK x8 (vK (gQ r0 (ii 0)) λ x9 => vK (fF .i32 x9) λ x10 => some ((.tup [x10, (ii 1)]), h7)) (wK (aD E 197 [r0] h7) λ x11 h12 => vK (aG 0 x11) λ x13 => vK (aG 1 x11) λ x14 => some ((.tup [x13, x14]), h12))
def aYQ : DC := (zs 2 [zX (.mv (.c (.int .i32 (.ofNat 0)))),zX (.mv (zk 0))] (zq (zs 4 [zM 0,zX (.bin .neq o4 (.c (.str []))),zM 5,zL 6 true 0,zG 6 true (.ixS o7 (zk 0)),zG 6 true (.bin .lss o8 (.c (.int .u8 (.ofNat 128)))),zX (.pick o6 o9 (.c (.bool false)))] (.cond fR (zs 11 [zM 0,zX (.ixS fZ (zk 0)),zX (.conv .i32 fL),zT 2 13,zY 3 (.mv (zk 1))] .ret) (zr 15 [zM 0,zF 197 [iW],zT 14 16,zX (.ext 0 iO),zX (.ext 1 iO),zT 2 17,zT 3 18]))) .ret))
theorem bNm : oQ E aYQ R192 (aXP E) := λ σ h => by kernel_rfl
def bQq : DF := ⟨1, 19, aYQ, R192⟩
def bLM : cE := oR (aXP E)
theorem bDt : SQ bQq bLM := λ E => oV (d := bQq) (bNm E) rfl
def bEM : List RV := [(.r p4)]
def aPr (E : bO) (h : H) : aU := some ((.int .i64 (.negSucc 0)), h)
def aYO : DC := (zs 4 [zX (.mv (.c (.int .i64 (.negSucc 0))))] .ret)
def aPq (E : bO) (r0 r1 r5 r7 r8 r10 : DV) (h : H) : aU := vK (bJ r8 (ii 1)) λ x1 => vK (gQ r0 x1) λ x2 => vK (bP x2 r7) λ x3 => bA x3 true (λ kk => kk r0 h) h λ x4 h5 => bA x3 true (λ kk => kk r8 h5) h5 λ x6 h7 => bA x3 true (λ kk => kk r8 h7) h7 λ x8 h9 => bA x3 true (λ kk => kk r5 h9) h9 λ x10 h11 => bA x3 true (λ kk => vK (bJ x8 x10) λ v => kk v h11) h11 λ x12 h13 => bA x3 true (λ kk => vK (gY x4 (some x6) (some x12)) λ v => kk v h13) h13 λ x14 h15 => bA x3 true (λ kk => kk r1 h15) h15 λ x16 h17 => bA x3 true (λ kk => vK (bP x14 x16) λ v => kk v h17) h17 λ x18 h19 => vK (aQ x3 x18 (.bool false)) λ x20 => bK x20 (some (r8, h19)) (vK (bJ r8 (ii 1)) λ x21 => vK (bJ r10 (ii 1)) λ x22 => none)
def aYM : DC := (zq (zs 78 [zM 0,zM 8,zX (.bin .add o79 (zk 1)),zX (.ixS o78 o80),zM 7,zX (.bin .eql o81 o82),zM 83,zL 84 true 0,zL 84 true 8,zL 84 true 8,zL 84 true 5,zG 84 true (.bin .add o87 o88),zG 84 true (.slS o85 (some o86) (some o89)),zL 84 true 1,zG 84 true (.bin .eql o90 o91),zX (.pick o84 o92 (.c (.bool false)))] (.cond o93 (zs 4 [zT 94 8,zM 94] .ret) .skip)) (zs 95 [zM 8,zX (.bin .add o95 (zk 1)),zT 8 96] (zs 97 [zM 10,zX (.bin .add o97 (zk 1)),zT 10 98] (zs 99 [zM 5,zX .bad,zX (.bin .leq o99 aUZ),zM 101,zL 102 true 10,zL 102 true 8,zD ⟨(some bIT),(some (bCd,true)),(.c (.f 199 [aUW]))⟩,zD ⟨(some bIS),(some (bCd,true)),(.e (.bin .gtr aUX aUV))⟩,zY 107 (.pick aUY bCp (.c (.bool false)))] (.cond bCo (zs 108 [zM 0,zM 8,zX (.slS bJD (some aSV) none),zM 1,zF 198 [bCn,aUU],zT 12 112] (zq (zs 113 [zM 12,zX (.bin .geq bJC (zk 0))] (.cond bCm (zs 115 [zM 12,zM 8,zX (.bin .add aUT bJB),zT 4 117] .ret) .skip)) (zs 4 [zX (.mv (.c (.int .i64 (.negSucc 0))))] .ret))) (zs 118 [zM 5,zX .bad,zX (.bin .gtr bJz bJy),zM 120,zL 121 true 10,zL 121 true 8,zG 121 true (.bin .shr bJw (.c (.int .u64 (.ofNat 4)))),zG 121 true (.bin .add (zk 4) bJv),zG 121 true (.bin .geq o122 bJu),zX (.pick bJx bJt (.c (.bool false))),zM 127,zL 128 true 8,zL 128 true 9,zG 128 true (.bin .lss o129 bJs),zX (.pick o128 o131 (.c (.bool false)))] (.cond bJr (zs 133 [zM 0,zM 8,zX (.slS o133 (some bJq) none),zM 1,zF 200 [bJp,bJo],zT 13 137] (zq (zs 138 [zM 13,zX (.bin .lss aUS (zk 0))] (.cond bJn (zs 4 [zX (.mv (.c (.int .i64 (.negSucc 0))))] .ret) .skip)) (zs 140 [zM 8,zM 13,zX (.bin .add o140 o141),zT 4 142] .ret))) .skip)))))))
def bRK (r0 r1 r5 r6 r7 r9 : DV) (i2 : DV → DV → H → aU) (r8 r10 : DV) (h : H) : aU := vK (cJ r8 r9) λ x1 => bK x1 (vK (gQ r0 r8) λ x2 => vK (dA x2 r6) λ x3 => bK x3 (vK (bJ r8 (ii 1)) λ x4 => vK (gY r0 (some x4) (some r9)) λ x5 => wK (aD E 173 [x5, r6] h) λ x6 h7 => vK (cJ x6 (ii 0)) λ x8 => bK x8 (some ((.int .i64 (.negSucc 0)), h7)) (vK (bJ x6 (ii 1)) λ x9 => vK (bJ r8 x9) λ x10 => aPq E r0 r1 r5 r7 x10 r10 h7)) (aPq E r0 r1 r5 r7 r8 r10 h)) (aPr E h)
def aPd (r0 r1 r5 r6 r7 r9 : DV) (n : Nat) : DV → DV → H → aU := Nat.rec (motive := λ _ => DV → DV → H → aU) (λ _ _ _ => none) (λ _ i => bRK E r0 r1 r5 r6 r7 r9 i) n
def aYN : DC := (.loop (zq (zs 57 [zM 8,zM 9,zX (.bin .lss o57 o58)] (.cond o59 .skip (.exit 1))) (.block 2 (zq (zs 60 [zM 0,zM 8,zX (.ixS o60 o61),zM 6,zX (.bin .neq o62 o63)] (.cond o64 (zs 65 [zM 0,zM 8,zX (.bin .add o66 (zk 1)),zM 9,zX (.slS o65 (some o67) (some o68)),zM 6,zF 173 [o69,o70],zT 11 71] (zq (zs 72 [zM 11,zX (.bin .lss o72 (zk 0))] (.cond o73 (zs 4 [zX (.mv (.c (.int .i64 (.negSucc 0))))] .ret) .skip)) (zr 74 [zM 8,zM 11,zX (.bin .add o75 (zk 1)),zX (.bin .add o74 o76),zT 8 77]))) .skip)) aYM))))
def aJB (r0 r1 : DV) (h : H) : aU := vK (bZ r1) λ x1 => vK (bP x1 (ii 0)) λ x2 => bA x2 false (λ kk => kk r1 h) h λ x3 h4 => bA x2 false (λ kk => kk r0 h4) h4 λ x5 h6 => bA x2 false (λ kk => vK (bP x3 x5) λ v => kk v h6) h6 λ x7 h8 => vK (aQ x2 (.bool true) x7) λ x9 => bK x9 (some ((ii 0), h8)) (vK (bP x1 (ii 1)) λ x10 => bK x10 (vK (gQ r1 (ii 0)) λ x11 => wK (aD E 173 [r0, x11] h8) λ x12 h13 => some (x12, h13)) (vK (bZ r0) λ x14 => vK (mI x1 x14) λ x15 => bK x15 (some ((.int .i64 (.negSucc 0)), h8)) (none)))
def aYP : DC := (zs 4 [zX (.mv (zk 0))] (zs 14 [zM 1,zX (.lenS iO),zT 5 15] (zq (.block 0 (zs 17 [zM 5,zX (.bin .eql iL (zk 0)),zM 18,zL 19 false 1,zL 19 false 0,zG 19 false (.bin .eql iV gZ),zX (.pick iN (.c (.bool true)) jV),zT 16 23] (.cond iG (zs 4 [zX (.mv (zk 0))] .ret) (zs 25 [zM 5,zX (.bin .eql kJ (zk 1)),zT 24 26] (.cond iP (zs 27 [zM 0,zM 1,zX (.ixS lK (zk 0)),zF 173 [lB,lZ],zT 4 30] .ret) (zs 32 [zM 5,zM 0,zX (.lenS mX),zX (.bin .geq lF mW),zT 31 35] (.cond nH (zs 4 [zX (.mv (.c (.int .i64 (.negSucc 0))))] .ret) (zs 37 [zM 5,zX .bad,zX (.bin .leq pR uD),zM 39,zL 40 true 0,zG 40 true (.lenS vG),zG 40 true (.bin .leq uN (zk 64)),zX (.pick rE uM (.c (.bool false))),zT 36 44] (.cond mZ (zs 45 [zM 0,zM 1,zF 198 [o45,zJ],zT 4 47] .ret) .skip))))))))) (zs 48 [zM 1,zX (.ixS o48 (zk 0)),zT 6 49] (zs 50 [zM 1,zX (.ixS o50 (zk 1)),zT 7 51] (zs 8 [zX (.mv (zk 0))] (zs 52 [zM 0,zX (.lenS o52),zM 5,zX (.bin .sub o53 o54),zX (.bin .add o55 (zk 1)),zT 9 56] (zs 10 [zX (.mv (zk 0))] (zq (.block 1 aYN) aYO)))))))))
theorem bNk : Is E aYO (bN bEM) (λ σ h => aPr E h) := λ σ h => by kernel_rfl
abbrev aXn : gW (DV × H) := (bL 1 (cH (λ σ h => aPr E h) (bN bEM)))
abbrev bMl (n2 : Nat) : gW (DV × H) := (cH (λ σ h => (aPd E (σ p0) (σ p1) (σ p5) (σ p6) (σ p7) (σ p9) n2) (σ p8) (σ p10) h) (aXn E))
theorem bNi (n2 : Nat) : Is E aYM (bL 2 (bMl E n2)) (λ σ h => aPq E (σ p0) (σ p1) (σ p5) (σ p7) (σ p8) (σ p10) h) := λ σ h => by kernel_rfl
theorem bNj : Is E aYN (aXn E) (λ σ h => aPd E (σ p0) (σ p1) (σ p5) (σ p6) (σ p7) (σ p9) aR (σ p8) (σ p10) h) := Is.loop (λ n2 σ h => aPd E (σ p0) (σ p1) (σ p5) (σ p6) (σ p7) (σ p9) n2 (σ p8) (σ p10) h) (by kernel_rfl) λ n2 => Is.as (Is.seq (Is.block (Is.seq (bNi E n2) (Is.leaf _))) (Is.leaf _)) λ σ h => by kernel_rfl
theorem bNl : nA E aYP bEM (aJB E) := Is.as (Is.seq (Is.seq (Is.seq (Is.seq (Is.seq (Is.seq (Is.seq (Is.seq (Is.seq (bNk E) (Is.block (bNj E))) (Is.leaf _)) (Is.leaf _)) (Is.leaf _)) (Is.leaf _)) (Is.leaf _)) (Is.leaf _)) (Is.leaf _)) (Is.leaf _)) λ σ h => by kernel_rfl
def bQp : DF := ⟨2, 143, aYP, bEM⟩
def aTy : cE := nB (aJB E)
theorem bDs : SQ bQp aTy := λ E => nL (d := bQp) (bNl E) rfl
def R197 : List RV := [(.r p2),(.r p3)]
def aXO (E : bO) (r0 : DV) (h : H) : aU := vK (bZ r0) λ x1 => vK (cJ x1 (ii 1)) λ x2 => bK x2 (some ((.tup [(.int .i32 (.ofNat 65533)), (ii 0)]), h)) (vK (gQ r0 (ii 0)) λ x3 => none)
def aYL : DC := (zs 2 [zX (.mv (.c (.int .i32 (.ofNat 0)))),zX (.mv (zk 0))] (zs 13 [zM 0,zX (.lenS fX),zT 4 14] (zq (zs 15 [zM 4,zX (.bin .lss iW (zk 1))] (.cond iG (zs 2 [zX (.mv (.c (.int .i32 (.ofNat 65533)))),zX (.mv (zk 0))] .ret) .skip)) (zs 17 [zM 0,zX (.ixS iL (zk 0)),zT 5 18] (zs 19 [zM 5,zX .bad,zX (.ld iV),zT 6 21] (zq (zs 22 [zM 6,zX (.bin .geq jV (.c (.int .u8 (.ofNat 240))))] (.cond iB (zs 24 [zM 6,zX (.conv .i32 iP),zX (.bin .shl kJ (.c (.int .u64 (.ofNat 31)))),zX (.bin .shr mA (.c (.int .u64 (.ofNat 31)))),zT 7 27] (zs 28 [zM 0,zX (.ixS lK (zk 0)),zX (.conv .i32 lZ),zM 7,zX (.bin .andNot lY nH),zM 7,zX (.bin .and (.c (.int .i32 (.ofNat 65533))) mX),zX (.bin .or lF mW),zT 2 35,zY 3 (.mv (zk 1))] .ret)) .skip)) (zs 36 [zM 6,zX (.bin .and mZ (.c (.int .u8 (.ofNat 7)))),zX (.conv .i64 pR),zT 8 38] (zs 39 [zM 6,zX (.bin .shr rT (.c (.int .u64 (.ofNat 4)))),zX .bad,zX (.ldN 2 vG),zY 9 (.alc 2 2 (.list [(.int .u8 (.ofNat 0)),(.int .u8 (.ofNat 0))])),zW (.st 2 o9 uN)] (zq (zs 43 [zM 4,zM 8,zX (.bin .lss uM uJ)] (.cond o45 (zs 2 [zX (.mv (.c (.int .i32 (.ofNat 65533)))),zX (.mv (zk 1))] .ret) .skip)) (zs 46 [zM 0,zX (.ixS zJ (zk 1)),zT 10 47] (zq (zs 48 [zM 10,zX (.fa 0 o9),zX (.ld o49),zX (.bin .lss o48 o50),zM 51,zG 52 false (.fa 1 o9),zG 52 false (.ld o53),zL 52 false 10,zG 52 false (.bin .lss o54 o55),zX (.pick o52 (.c (.bool true)) o56)] (.cond o57 (zs 2 [zX (.mv (.c (.int .i32 (.ofNat 65533)))),zX (.mv (zk 1))] .ret) .skip)) (zq (zs 58 [zM 8,zX (.bin .leq o58 (zk 2))] (.cond o59 (zs 60 [zM 5,zX (.bin .and o60 (.c (.int .u8 (.ofNat 31)))),zX (.conv .i32 o61),zX (.bin .shl o62 (.c (.int .u64 (.ofNat 6)))),zM 10,zX (.bin .and o64 (.c (.int .u8 (.ofNat 63)))),zX (.conv .i32 o65),zX (.bin .or o63 o66),zT 2 67,zY 3 (.mv (zk 2))] .ret) .skip)) (zs 68 [zM 0,zX (.ixS o68 (zk 2)),zT 11 69] (zq (zs 70 [zM 11,zX (.bin .lss o70 (.c (.int .u8 (.ofNat 128)))),zM 71,zL 72 false 11,zG 72 false (.bin .lss (.c (.int .u8 (.ofNat 191))) o73),zX (.pick o72 (.c (.bool true)) o74)] (.cond o75 (zs 2 [zX (.mv (.c (.int .i32 (.ofNat 65533)))),zX (.mv (zk 1))] .ret) .skip)) (zq (zs 76 [zM 8,zX (.bin .leq o76 (zk 3))] (.cond o77 (zs 78 [zM 5,zX (.bin .and o78 (.c (.int .u8 (.ofNat 15)))),zX (.conv .i32 o79),zX (.bin .shl o80 (.c (.int .u64 (.ofNat 12)))),zM 10,zX (.bin .and o82 (.c (.int .u8 (.ofNat 63)))),zX (.conv .i32 o83),zX (.bin .shl o84 (.c (.int .u64 (.ofNat 6)))),zX (.bin .or o81 o85),zM 11,zX (.bin .and o87 (.c (.int .u8 (.ofNat 63)))),zX (.conv .i32 o88),zX (.bin .or o86 o89),zT 2 90,zY 3 (.mv (zk 3))] .ret) .skip)) (zs 91 [zM 0,zX (.ixS o91 (zk 3)),zT 12 92] (zq (zs 93 [zM 12,zX (.bin .lss o93 (.c (.int .u8 (.ofNat 128)))),zM 94,zL 95 false 12,zG 95 false (.bin .lss (.c (.int .u8 (.ofNat 191))) o96),zX (.pick o95 (.c (.bool true)) o97)] (.cond o98 (zs 2 [zX (.mv (.c (.int .i32 (.ofNat 65533)))),zX (.mv (zk 1))] .ret) .skip)) (zs 99 [zM 5,zX (.bin .and o99 (.c (.int .u8 (.ofNat 7)))),zX (.conv .i32 aUZ),zX (.bin .shl bJE (.c (.int .u64 (.ofNat 18)))),zM 10,zX (.bin .and aUX (.c (.int .u8 (.ofNat 63)))),zX (.conv .i32 aUW),zX (.bin .shl aUV (.c (.int .u64 (.ofNat 12)))),zX (.bin .or aUY bCp),zM 11,zX (.bin .and bJD (.c (.int .u8 (.ofNat 63)))),zX (.conv .i32 aSV),zX (.bin .shl bCn (.c (.int .u64 (.ofNat 6)))),zX (.bin .or bCo aUU),zM 12,zX (.bin .and bJC (.c (.int .u8 (.ofNat 63)))),zX (.conv .i32 bCm),zX (.bin .or o112 aUT),zT 2 116,zY 3 (.mv (zk 4))] .ret))))))))))))))))))
theorem bNh : oQ E aYL R197 (aXO E) := λ σ h => by kernel_rfl
def bQo : DF := ⟨1, 117, aYL, R197⟩
def bLL : cE := oR (aXO E)
theorem bDr : SQ bQo bLL := λ E => oV (d := bQo) (bNh E) rfl
def R199 : List RV := [(.r p2)]
def aXN (E : bO) (r0 : DV) (h : H) : aU := vK (bJ r0 (ii 16)) λ x1 => vK (aGW x1 (ii 8)) λ x2 => some (x2, h)
def aYK : DC := (zs 2 [zX (.mv (zk 0))] (zs 3 [zM 0,zX (.bin .add o3 (zk 16)),zX (.bin .quo o4 (zk 8)),zT 2 5] .ret))
theorem bNg : oQ E aYK R199 (aXN E) := λ σ h => by kernel_rfl
def bQn : DF := ⟨1, 6, aYK, R199⟩
def bLK : cE := oR (aXN E)
theorem bDq : SQ bQn bLK := λ E => oV (d := bQn) (bNg E) rfl
def aTG : List RV := [(.r p4)]
def aPo (E : bO) (h : H) : aU := some ((.int .i64 (.negSucc 0)), h)
def aYG : DC := (zs 4 [zX (.mv (.c (.int .i64 (.negSucc 0))))] .ret)
def bRI (r0 r1 r5 r6 r7 : DV) (i4 : DV → DV → H → aU) (r8 r10 : DV) (h : H) : aU := vK (bZ r0) λ x1 => vK (cJ r10 x1) λ x2 => bK x2 (vK (aCL r8 (.int .u32 (.ofNat 16777619))) λ x3 => vK (gQ r0 r10) λ x4 => vK (fF .u32 x4) λ x5 => vK (bJ x3 x5) λ x6 => vK (fC r10 r7) λ x7 => vK (gQ r0 x7) λ x8 => vK (fF .u32 x8) λ x9 => vK (aCL r6 x9) λ x10 => vK (fC x6 x10) λ x11 => vK (bJ r10 (ii 1)) λ x12 => vK (bP x11 r5) λ x13 => bA x13 true (λ kk => kk r0 h) h λ x14 h15 => bA x13 true (λ kk => kk x12 h15) h15 λ x16 h17 => bA x13 true (λ kk => kk r7 h17) h17 λ x18 h19 => bA x13 true (λ kk => vK (fC x16 x18) λ v => kk v h19) h19 λ x20 h21 => bA x13 true (λ kk => kk x12 h21) h21 λ x22 h23 => bA x13 true (λ kk => vK (gY x14 (some x20) (some x22)) λ v => kk v h23) h23 λ x24 h25 => bA x13 true (λ kk => kk r1 h25) h25 λ x26 h27 => bA x13 true (λ kk => vK (bP x24 x26) λ v => kk v h27) h27 λ x28 h29 => vK (aQ x13 x28 (.bool false)) λ x30 => bK x30 (vK (fC x12 r7) λ x31 => some (x31, h29)) (i4 x11 x12 h29)) (aPo E h)
def aPb (r0 r1 r5 r6 r7 : DV) (n : Nat) : DV → DV → H → aU := Nat.rec (motive := λ _ => DV → DV → H → aU) (λ _ _ _ => none) (λ _ i => bRI E r0 r1 r5 r6 r7 i) n
def aYF : DC := (.loop (zq (zs 41 [zM 10,zM 0,zX (.lenS uN),zX (.bin .lss vG uM)] (.cond uJ .skip (.exit 2))) (.block 3 (zs 45 [zM 8,zX (.bin .mul o45 (.c (.int .u32 (.ofNat 16777619)))),zT 8 46] (zs 47 [zM 8,zM 0,zM 10,zX (.ixS o48 o49),zX (.conv .u32 o50),zX (.bin .add o47 o51),zT 8 52] (zs 53 [zM 8,zM 6,zM 0,zM 10,zM 7,zX (.bin .sub o56 o57),zX (.ixS o55 o58),zX (.conv .u32 o59),zX (.bin .mul o54 o60),zX (.bin .sub o53 o61),zT 8 62] (zs 63 [zM 10,zX (.bin .add o63 (zk 1)),zT 10 64] (zs 65 [zM 8,zM 5,zX (.bin .eql o65 o66),zM 67,zL 68 true 0,zL 68 true 10,zL 68 true 7,zG 68 true (.bin .sub o70 o71),zL 68 true 10,zG 68 true (.slS o69 (some o72) (some o73)),zL 68 true 1,zG 68 true (.bin .eql o74 o75),zX (.pick o68 o76 (.c (.bool false)))] (.cond o77 (zs 78 [zM 10,zM 7,zX (.bin .sub o78 o79),zT 4 80] .ret) .skip)))))))))
def aPp (r0 r1 r5 r6 r7 r8 : DV) (h : H) : aU := vK (bP r8 r5) λ x1 => bA x1 true (λ kk => kk r0 h) h λ x2 h3 => bA x1 true (λ kk => kk r7 h3) h3 λ x4 h5 => bA x1 true (λ kk => vK (gY x2 none (some x4)) λ v => kk v h5) h5 λ x6 h7 => bA x1 true (λ kk => kk r1 h7) h7 λ x8 h9 => bA x1 true (λ kk => vK (bP x6 x8) λ v => kk v h9) h9 λ x10 h11 => vK (aQ x1 x10 (.bool false)) λ x12 => bK x12 (some ((ii 0), h11)) (aPb E r0 r1 r5 r6 r7 aR r8 r7 h11)
def aYI : DC := (zq (zs 30 [zM 8,zM 5,zX (.bin .eql lY nH),zM 32,zL 33 true 0,zL 33 true 7,zG 33 true (.slS mW none (some qG)),zL 33 true 1,zG 33 true (.bin .eql mZ pR),zX (.pick mX uD (.c (.bool false)))] (.cond rT (zs 4 [zX (.mv (zk 0))] .ret) .skip)) (zq (zs 10 [zT 40 7,zM 40] (.block 2 aYF)) aYG))
def bRJ (r0 r1 r5 r6 r7 : DV) (i2 : DV → DV → H → aU) (r8 r9 : DV) (h : H) : aU := vK (cJ r9 r7) λ x1 => bK x1 (vK (aCL r8 (.int .u32 (.ofNat 16777619))) λ x2 => vK (gQ r0 r9) λ x3 => vK (fF .u32 x3) λ x4 => vK (bJ x2 x4) λ x5 => vK (bJ r9 (ii 1)) λ x6 => i2 x5 x6 h) (aPp E r0 r1 r5 r6 r7 r8 h)
def aPc (r0 r1 r5 r6 r7 : DV) (n : Nat) : DV → DV → H → aU := Nat.rec (motive := λ _ => DV → DV → H → aU) (λ _ _ _ => none) (λ _ i => bRJ E r0 r1 r5 r6 r7 i) n
def aYH : DC := (.loop (zq (zs 18 [zM 9,zM 7,zX (.bin .lss iC iN)] (.cond iV .skip (.exit 0))) (zq (.block 1 (zr 23 [zM 8,zX (.bin .mul iB (.c (.int .u32 (.ofNat 16777619)))),zM 0,zM 9,zX (.ixS kJ mA),zX (.conv .u32 lB),zX (.bin .add iP lK),zT 8 29])) (zr 21 [zM 9,zX (.bin .add gZ (zk 1)),zT 9 22]))))
def aXM (r0 r1 : DV) (h : H) : aU := wK (aD E 201 [r1] h) λ x1 h2 => vK (aG 0 x1) λ x3 => vK (aG 1 x1) λ x4 => vK (bZ r1) λ x5 => aPc E r0 r1 x3 x4 x5 aR (.int .u32 (.ofNat 0)) (ii 0) h2
def aYJ : DC := (zs 4 [zX (.mv (zk 0))] (zs 12 [zM 1,zF 201 [fL],zT 11 13,zX (.ext 0 fZ),zX (.ext 1 fZ),zT 5 14,zT 6 15] (zs 16 [zM 1,zX (.lenS iG),zT 7 17] (zs 8 [zX (.mv (.c (.int .u32 (.ofNat 0))))] (zq (zs 9 [zX (.mv (zk 0))] (.block 0 aYH)) aYI)))))
theorem bNc : Is E aYG (bN aTG) (λ σ h => aPo E h) := λ σ h => by kernel_rfl
abbrev bMk : gW (DV × H) := (bL 2 (cH (λ σ h => aPo E h) (bN aTG)))
theorem bNb : Is E aYF (bMk E) (λ σ h => aPb E (σ p0) (σ p1) (σ p5) (σ p6) (σ p7) aR (σ p8) (σ p10) h) := Is.loop (λ n4 σ h => aPb E (σ p0) (σ p1) (σ p5) (σ p6) (σ p7) n4 (σ p8) (σ p10) h) (by kernel_rfl) λ n4 => Is.as (Is.leaf _) λ σ h => by kernel_rfl
theorem bNe : Is E aYI (bN aTG) (λ σ h => aPp E (σ p0) (σ p1) (σ p5) (σ p6) (σ p7) (σ p8) h) := Is.as (Is.seq (Is.seq (bNc E) (Is.seq (Is.block (bNb E)) (Is.leaf _))) (Is.leaf _)) λ σ h => by kernel_rfl
abbrev bMj : gW (DV × H) := (cH (λ σ h => aPp E (σ p0) (σ p1) (σ p5) (σ p6) (σ p7) (σ p8) h) (bN aTG))
theorem bNd : Is E aYH (bL 0 (bMj E)) (λ σ h => aPc E (σ p0) (σ p1) (σ p5) (σ p6) (σ p7) aR (σ p8) (σ p9) h) := Is.loop (λ n2 σ h => aPc E (σ p0) (σ p1) (σ p5) (σ p6) (σ p7) n2 (σ p8) (σ p9) h) (by kernel_rfl) λ n2 => Is.as (Is.leaf _) λ σ h => by kernel_rfl
theorem bNf : nA E aYJ aTG (aXM E) := Is.as (Is.seq (Is.seq (Is.seq (Is.seq (Is.seq (bNe E) (Is.seq (Is.block (bNd E)) (Is.leaf _))) (Is.leaf _)) (Is.leaf _)) (Is.leaf _)) (Is.leaf _)) λ σ h => by kernel_rfl
def bQm : DF := ⟨2, 81, aYJ, aTG⟩
def bLJ : cE := nB (aXM E)
theorem bDp : SQ bQm bLJ := λ E => nL (d := bQm) (bNf E) rfl
def aTF : List RV := [(.r p2),(.r p3)]
def aPm (E : bO) (r4 r6 : DV) (h : H) : aU := some ((.tup [r4, r6]), h)
def aYB : DC := (zs 37 [zM 4,zM 6,zT 2 37,zT 3 38] .ret)
def aPl (E : bO) (i4 : DV → DV → DV → H → aU) (r6 r7 r8 : DV) (h : H) : aU := vK (yK r8 (.int .u64 (.ofNat 1))) λ x1 => i4 r6 r7 x1 h
def aYz : DC := (zr 26 [zM 8,zX (.bin .shr mA (.c (.int .u64 (.ofNat 1)))),zT 8 27])
def aPk (i4 : DV → DV → DV → H → aU) (r6 r7 r8 : DV) (h : H) : aU := vK (aCL r7 r7) λ x1 => aPl E i4 r6 x1 r8 h
def aYy : DC := (zr 34 [zM 7,zM 7,zX (.bin .mul mW qG),zT 7 36])
def bRG (r4 : DV) (i4 : DV → DV → DV → H → aU) (r6 r7 r8 : DV) (h : H) : aU := vK (eH r8 (ii 0)) λ x1 => bK x1 (vK (aEc r8 (ii 1)) λ x2 => vK (dA x2 (ii 0)) λ x3 => bK x3 (vK (aCL r6 r7) λ x4 => aPk E i4 x4 r7 r8 h) (aPk E i4 r6 r7 r8 h)) (aPm E r4 r6 h)
def aAh (r4 : DV) (n : Nat) : DV → DV → DV → H → aU := Nat.rec (motive := λ _ => DV → DV → DV → H → aU) (λ _ _ _ _ => none) (λ _ i => bRG E r4 i) n
def aYA : DC := (.loop (zq (zs 24 [zM 8,zX (.bin .gtr iP (zk 0))] (.cond kJ .skip (.exit 2))) (zq (.block 3 (zq (zs 28 [zM 8,zX (.bin .and lK (zk 1)),zX (.bin .neq lZ (zk 0))] (.cond lY (zr 31 [zM 6,zM 7,zX (.bin .mul nH lF),zT 6 33]) .skip)) aYy)) aYz)))
def aPn (r0 r4 : DV) (h : H) : aU := vK (bZ r0) λ x1 => aAh E r4 aR (.int .u32 (.ofNat 1)) (.int .u32 (.ofNat 16777619)) x1 h
def aYD : DC := (zs 6 [zX (.mv (.c (.int .u32 (.ofNat 1)))),zX (.mv (.c (.int .u32 (.ofNat 16777619))))] (zq (zs 22 [zM 0,zX (.lenS jV),zT 8 23] (.block 2 aYA)) aYB))
def bRH (r0 : DV) (i2 : DV → DV → H → aU) (r4 r5 : DV) (h : H) : aU := vK (bZ r0) λ x1 => vK (cJ r5 x1) λ x2 => bK x2 (vK (aCL r4 (.int .u32 (.ofNat 16777619))) λ x3 => vK (gQ r0 r5) λ x4 => vK (fF .u32 x4) λ x5 => vK (bJ x3 x5) λ x6 => vK (bJ r5 (ii 1)) λ x7 => i2 x6 x7 h) (aPn E r0 r4 h)
def aPa (r0 : DV) (n : Nat) : DV → DV → H → aU := Nat.rec (motive := λ _ => DV → DV → H → aU) (λ _ _ _ => none) (λ _ i => bRH E r0 i) n
def aYC : DC := (.loop (zq (zs 9 [zM 5,zM 0,zX (.lenS fR),zX (.bin .lss o9 fZ)] (.cond fL .skip (.exit 0))) (zq (.block 1 (zr 15 [zM 4,zX (.bin .mul iW (.c (.int .u32 (.ofNat 16777619)))),zM 0,zM 5,zX (.ixS iL iC),zX (.conv .u32 iN),zX (.bin .add iG iV),zT 4 21])) (zr 13 [zM 5,zX (.bin .add fX (zk 1)),zT 5 14]))))
def aXL (r0 : DV) (h : H) : aU := aPa E r0 aR (.int .u32 (.ofNat 0)) (ii 0) h
def aYE : DC := (zs 2 [zX (.mv (.c (.int .u32 (.ofNat 0)))),zX (.mv (.c (.int .u32 (.ofNat 0))))] (zs 4 [zX (.mv (.c (.int .u32 (.ofNat 0))))] (zq (zs 5 [zX (.mv (zk 0))] (.block 0 aYC)) aYD)))
theorem bMX : Is E aYB (bN aTF) (λ σ h => aPm E (σ p4) (σ p6) h) := λ σ h => by kernel_rfl
abbrev aXm : gW (DV × H) := (cH (λ σ h => aPm E (σ p4) (σ p6) h) (bN aTF))
abbrev aXl (n4 : Nat) : gW (DV × H) := (cH (λ σ h => (aAh E (σ p4) n4) (σ p6) (σ p7) (σ p8) h) (bL 2 (aXm E)))
theorem bMV (n4 : Nat) : Is E aYz (aXl E n4) (λ σ h => aPl E (aAh E (σ p4) n4) (σ p6) (σ p7) (σ p8) h) := λ σ h => by kernel_rfl
abbrev bMi (n4 : Nat) : gW (DV × H) := (cH (λ σ h => aPl E (aAh E (σ p4) n4) (σ p6) (σ p7) (σ p8) h) (aXl E n4))
theorem bMU (n4 : Nat) : Is E aYy (bL 3 (bMi E n4)) (λ σ h => aPk E (aAh E (σ p4) n4) (σ p6) (σ p7) (σ p8) h) := λ σ h => by kernel_rfl
theorem bMW : Is E aYA (bL 2 (aXm E)) (λ σ h => aAh E (σ p4) aR (σ p6) (σ p7) (σ p8) h) := Is.loop (λ n4 σ h => aAh E (σ p4) n4 (σ p6) (σ p7) (σ p8) h) (by kernel_rfl) λ n4 => Is.as (Is.seq (Is.seq (bMV E n4) (Is.block (Is.seq (bMU E n4) (Is.leaf _)))) (Is.leaf _)) λ σ h => by kernel_rfl
theorem bMZ : Is E aYD (bN aTF) (λ σ h => aPn E (σ p0) (σ p4) h) := Is.as (Is.seq (Is.seq (bMX E) (Is.seq (Is.block (bMW E)) (Is.leaf _))) (Is.leaf _)) λ σ h => by kernel_rfl
abbrev bFi : gW (DV × H) := (cH (λ σ h => aPn E (σ p0) (σ p4) h) (bN aTF))
theorem bMY : Is E aYC (bL 0 (bFi E)) (λ σ h => aPa E (σ p0) aR (σ p4) (σ p5) h) := Is.loop (λ n2 σ h => aPa E (σ p0) n2 (σ p4) (σ p5) h) (by kernel_rfl) λ n2 => Is.as (Is.leaf _) λ σ h => by kernel_rfl
theorem bNa : oQ E aYE aTF (aXL E) := Is.as (Is.seq (Is.seq (Is.seq (bMZ E) (Is.seq (Is.block (bMY E)) (Is.leaf _))) (Is.leaf _)) (Is.leaf _)) λ σ h => by kernel_rfl
def bQl : DF := ⟨1, 39, aYE, aTF⟩
def bLI : cE := oR (aXL E)
theorem bDo : SQ bQl bLI := λ E => oV (d := bQl) (bNa E) rfl
def R217 : List RV := [(.r p2)]
def aJA (E : bO) (r0 : DV) (h : H) : aU := dN r0 h λ x1 h2 => some ((ii 2), h2)
def aYx : DC := (zs 1 [zX (.box o0),zX (.mv (zk 0))] (zs 2 [zX (.mv (zk 2))] .ret))
theorem bMT : oQ E aYx R217 (aJA E) := λ σ h => by kernel_rfl
def bQk : DF := ⟨1, 3, aYx, R217⟩
def aWr : cE := oR (aJA E)
theorem bDn : SQ bQk aWr := λ E => oV (d := bQk) (bMT E) rfl
def R218 : List RV := [(.r p2)]
def aJz (r0 : DV) (h : H) : aU := dN r0 h λ x1 h2 => vK (aF 0 x1) λ x3 => vK (aI h2.get x3) λ x4 => wK (aD E 97 [x4] h2) λ x5 h6 => some (x5, h6)
def aYw : DC := (zs 1 [zX (.box o0),zX (.mv (zk 0))] (zs 3 [zX (.fa 0 o1),zX (.ld o3),zF 97 [o4],zT 2 5] .ret))
theorem bMS : oQ E aYw R218 (aJz E) := λ σ h => by kernel_rfl
def bQj : DF := ⟨1, 6, aYw, R218⟩
def aWq : cE := oR (aJz E)
theorem bDm : SQ bQj aWq := λ E => oV (d := bQj) (bMS E) rfl
def R219 : List RV := [(.r p2)]
def aJy (r0 : DV) (h : H) : aU := dN r0 h λ x1 h2 => vK (aF 0 x1) λ x3 => vK (aI h2.get x3) λ x4 => wK (aD E 220 [x4] h2) λ x5 h6 => some (x5, h6)
def aYv : DC := (zs 1 [zX (.box o0),zX (.mv (.c (.str [])))] (zs 3 [zX (.fa 0 o1),zX (.ld o3),zF 220 [o4],zT 2 5] .ret))
theorem bMR : oQ E aYv R219 (aJy E) := λ σ h => by kernel_rfl
def bQi : DF := ⟨1, 6, aYv, R219⟩
def aWp : cE := oR (aJy E)
theorem bDl : SQ bQi aWp := λ E => oV (d := bQi) (bMR E) rfl
def bEL : List RV := [(.r p2)]
def aJw (r3 : DV) (h : H) : aU := wK (aD E 52 [r3] h) λ x1 h2 => vK (aG 0 x1) λ x3 => vK (aG 1 x1) λ x4 => some (x3, h2)
def aYt : DC := (zs 37 [zM 3,zF 52 [pR],zT 36 38,zX (.ext 0 mZ),zX (.ext 1 mZ),zT 6 39,zT 7 40] (zs 2 [zT 41 6,zM 41] .ret))
def aFO (r3 r21 r22 : DV) (i2 : DV → H → aU) (r23 : DV) (h : H) : aU := vK (cJ r23 r22) λ x1 => bK x1 (vK (cC 2 r21 r23) λ x2 => vK (aK 2 h.get x2) λ x3 => dZ 2 2 (.list [(.str []), (ii 0)]) h λ x4 h5 => wK (bQ 2 x4 x3 h5) λ x6 h7 => vK (aF 0 x4) λ x8 => vK (aI h7.get x8) λ x9 => wK (aD E 51 [r3, x9] h7) λ x10 h11 => vK (aF 1 x4) λ x12 => vK (aI h11.get x12) λ x13 => wK (aD E 50 [r3, x13] h11) λ x14 h15 => vK (bJ r23 (ii 1)) λ x16 => i2 x16 h15) (aJw E r3 h)
def aCp (r3 r21 r22 : DV) (n : Nat) : DV → H → aU := Nat.rec (motive := λ _ => DV → H → aU) (λ _ _ => none) (λ _ i => aFO E r3 r21 r22 i) n
def aYs : DC := (.loop (zs 24 [zX (.bin .lss iB jV)] (zq (.cond iP .skip (.exit 0)) (zq (.block 1 (zs 25 [zX (.iaS 2 gZ iB),zX (.ldN 2 kJ),zY 5 (.alc 2 2 (.list [(.str []),(.int .i64 (.ofNat 0))])),zW (.st 2 o5 mA)] (zs 27 [zM 3,zX (.fa 0 o5),zX (.ld lK),zF 51 [lB,lZ]] (zr 31 [zM 3,zX (.fa 1 o5),zX (.ld lF),zF 50 [nH,mX]])))) (zr 23 [zY 35 (.bin .add iB (zk 1)),zM 35])))))
def aJx (r0 : DV) (h : H) : aU := vK (dS .ptr false h.get r0 .nilp) λ x1 => bK x1 (some ((.str []), h)) (wK (aD E 48 [(ii 65536)] h) λ x2 h3 => vK (aL r0) λ x4 => vK (aF 0 x4) λ x5 => vK (aI h3.get x5) λ x6 => vK (cB x6) λ x7 => wK (aD E 50 [x2, x7] h3) λ x8 h9 => vK (aL r0) λ x10 => vK (aF 0 x10) λ x11 => vK (aI h9.get x11) λ x12 => vK (cB x12) λ x13 => aCp E x2 x12 x13 aR (ii 0) h9)
def aYu : DC := (zs 2 [zX (.mv (.c (.str [])))] (zq (zs 8 [zM 0,zX (.eqv .ptr false o8 (.c .nilp))] (.cond o9 (zs 2 [zX (.mv (.c (.str [])))] .ret) .skip)) (zs 10 [zF 48 [(zk 65536)],zT 3 10] (zs 11 [zM 3,zM 0,zX (.nilchk fL),zX (.fa 0 fX),zX (.ld iO),zX (.lenL iW),zF 50 [fZ,iG]] (zq (zs 18 [zM 0,zX (.nilchk iC),zX (.fa 0 iN),zX (.ld iV),zX (.lenL gZ),zX (.mv (zk 0))] (.block 0 aYs)) aYt)))))
theorem bMP : Is E aYt (bN bEL) (λ σ h => aJw E (σ p3) h) := λ σ h => by kernel_rfl
abbrev bMh : gW (DV × H) := (cH (λ σ h => aJw E (σ p3) h) (bN bEL))
theorem bMO : Is E aYs (bL 0 (bMh E)) (λ σ h => aCp E (σ p3) (σ p21) (σ p22) aR (σ p23) h) := Is.loop (λ n2 σ h => aCp E (σ p3) (σ p21) (σ p22) n2 (σ p23) h) (by kernel_rfl) λ n2 => Is.as (Is.leaf _) λ σ h => by kernel_rfl
theorem bMQ : oQ E aYu bEL (aJx E) := Is.as (Is.seq (Is.seq (Is.seq (Is.seq (Is.seq (bMP E) (Is.seq (Is.block (bMO E)) (Is.leaf _))) (Is.leaf _)) (Is.leaf _)) (Is.leaf _)) (Is.leaf _)) λ σ h => by kernel_rfl
def bQh : DF := ⟨1, 42, aYu, bEL⟩
def aWo : cE := oR (aJx E)
theorem bDk : SQ bQh aWo := λ E => oV (d := bQh) (bMQ E) rfl
def R221 : List RV := [(.r p2)]
def aXJ (E : bO) (h : H) : aU := some ((ii 1), h)
def aYr : DC := (zs 2 [zX (.mv (zk 0))] (zs 2 [zX (.mv (zk 1))] .ret))
theorem bMN : oQ E aYr R221 (λ _ h => aXJ E h) := λ σ h => by kernel_rfl
def bQg : DF := ⟨1, 3, aYr, R221⟩
def bDj : cE := oR (λ _ h => aXJ E h)
theorem bDi : SQ bQg bDj := λ E => oV (d := bQg) (bMN E) rfl
def R222 : List RV := [(.r p2)]
def aJv (E : bO) (r0 : DV) (h : H) : aU := vK (aL r0) λ x1 => vK (aF 0 x1) λ x2 => vK (aI h.get x2) λ x3 => vK (bZ x3) λ x4 => some (x4, h)
def aYq : DC := (zs 2 [zX (.mv (zk 0))] (zs 3 [zM 0,zX (.nilchk o3),zX (.fa 0 o4),zX (.ld o5),zX (.lenS o6),zT 2 7] .ret))
theorem bMM : oQ E aYq R222 (aJv E) := λ σ h => by kernel_rfl
def bQf : DF := ⟨1, 8, aYq, R222⟩
def aWn : cE := oR (aJv E)
theorem bDh : SQ bQf aWn := λ E => oV (d := bQf) (bMM E) rfl
def R223 : List RV := [(.r p2)]
def aJu (E : bO) (r0 : DV) (h : H) : aU := vK (aL r0) λ x1 => vK (aF 0 x1) λ x2 => vK (aI h.get x2) λ x3 => some (x3, h)
def aYp : DC := (zs 2 [zX (.mv (.c (.str [])))] (zs 3 [zM 0,zX (.nilchk o3),zX (.fa 0 o4),zX (.ld o5),zT 2 6] .ret))
theorem bML : oQ E aYp R223 (aJu E) := λ σ h => by kernel_rfl
def bQe : DF := ⟨1, 7, aYp, R223⟩
def aWm : cE := oR (aJu E)
theorem bDg : SQ bQe aWm := λ E => oV (d := bQe) (bML E) rfl
def fs2 : List FD := [⟨159, bQI, bLU⟩, ⟨160, bQH, bLT⟩, ⟨161, bQG, aWz⟩, ⟨162, bQF, aWy⟩, ⟨163, bQE, aTz⟩, ⟨164, bQD, aWx⟩, ⟨166, bQC, bLS⟩, ⟨169, bQB, aWw⟩, ⟨170, bQA, aWv⟩, ⟨171, bQz, bLR⟩, ⟨172, bQy, aWu⟩, ⟨173, bQx, aJp⟩, ⟨174, bQw, bLQ⟩, ⟨181, bQv, bLP⟩, ⟨182, bQu, aWt⟩, ⟨183, bQt, aWs⟩, ⟨185, bQs, bLO⟩, ⟨191, bQr, bLN⟩, ⟨192, bQq, bLM⟩, ⟨194, bQp, aTy⟩, ⟨197, bQo, bLL⟩, ⟨199, bQn, bLK⟩, ⟨200, bQm, bLJ⟩, ⟨201, bQl, bLI⟩, ⟨217, bQk, aWr⟩, ⟨218, bQj, aWq⟩, ⟨219, bQi, aWp⟩, ⟨220, bQh, aWo⟩, ⟨221, bQg, bDj⟩, ⟨222, bQf, aWn⟩, ⟨223, bQe, aWm⟩]
theorem bJM : sR fs2 := ⟨bDL, ⟨bDK, ⟨bDJ, ⟨bDI, ⟨bDH, ⟨bDG, ⟨bDF, ⟨bDE, ⟨bDD, ⟨bDC, ⟨bDB, ⟨bDA, ⟨bDz, ⟨bDy, ⟨bDx, ⟨bDw, ⟨bDv, ⟨bDu, ⟨bDt, ⟨bDs, ⟨bDr, ⟨bDq, ⟨bDp, ⟨bDo, ⟨bDn, ⟨bDm, ⟨bDl, ⟨bDk, ⟨bDi, ⟨bDh, ⟨bDg, trivial⟩⟩⟩⟩⟩⟩⟩⟩⟩⟩⟩⟩⟩⟩⟩⟩⟩⟩⟩⟩⟩⟩⟩⟩⟩⟩⟩⟩⟩⟩⟩
end Go.Proofs.YtmafhiogonejfaaGreatDoor
end
