/- More of the program's functions. No condition. -/
import Derived.Test.YtmafhiogonejfaaGreatDoorC1
set_option linter.unusedVariables false
noncomputable section
namespace Go.Proofs.YtmafhiogonejfaaGreatDoor
open Go.DI
variable (E : bN)
def bFn : List RV := [(.r p2)]
def aPC (E : bN) (h : H) : aV := some ((.bool true), h)
def aZK : DC := (zs 2 [zX (.mv (.c (.bool true)))] .ret)
def aPB (E : bN) (i2 : DV → H → aV) (r11 : DV) (h : H) : aV := vK (bL r11 (ii 1)) λ x1 => i2 x1 h
def aZI : DC := (zr 11 [zY 47 (.bin .add fY (zk 1)),zM 47])
def bRP (r0 r3 r10 : DV) (i2 : DV → H → aV) (r11 : DV) (h : H) : aV := vK (cR r11 (ii 256)) λ x1 => bK x1 (vK (yG 256 2 true r10 r11) λ x2 => dZ 2 2 (.list [(ii 0), .nili]) h λ x3 h4 => wK (bR 2 x3 x2 h4) λ x5 h6 => vK (aF 1 x3) λ x7 => vK (aG h6.get x7) λ x8 => vK (dX .nilI false h6.get x8 .nili) λ x9 => bK x9 (aPB E i2 r11 h6) (vK (aF 0 x3) λ x10 => vK (aG h6.get x10) λ x11 => vK (cR x11 (ii 0)) λ x12 => bA x12 false (λ kk => vK (aF 0 x3) λ v => kk v h6) h6 λ x13 h14 => bA x12 false (λ kk => vK (aG h14.get x13) λ v => kk v h14) h14 λ x15 h16 => bA x12 false (λ kk => kk r0 h16) h16 λ x17 h18 => bA x12 false (λ kk => vK (aM x17) λ v => kk v h18) h18 λ x19 h20 => bA x12 false (λ kk => vK (aF 512 x19) λ v => kk v h20) h20 λ x21 h22 => bA x12 false (λ kk => vK (aG h22.get x21) λ v => kk v h22) h22 λ x23 h24 => bA x12 false (λ kk => vK (eJ x15 x23) λ v => kk v h24) h24 λ x25 h26 => vK (aW x12 (.bool true) x25) λ x27 => bA x27 false (λ kk => kk r3 h26) h26 λ x28 h29 => bA x27 false (λ kk => vK (aF 0 x3) λ v => kk v h29) h29 λ x30 h31 => bA x27 false (λ kk => vK (aG h31.get x30) λ v => kk v h31) h31 λ x32 h33 => bA x27 false (λ kk => vK (aKR .int (.bool false) false h33.get x28 x32) λ v => kk v h33) h33 λ x34 h35 => vK (aW x27 (.bool true) x34) λ x36 => bA x36 false (λ kk => kk r11 h35) h35 λ x37 h38 => bA x36 false (λ kk => vK (bS x37 (ii 1)) λ v => kk v h38) h38 λ x39 h40 => bA x36 false (λ kk => vK (aF 0 x3) λ v => kk v h40) h40 λ x41 h42 => bA x36 false (λ kk => vK (aG h42.get x41) λ v => kk v h42) h42 λ x43 h44 => bA x36 false (λ kk => vK (bS x43 (ii 0)) λ v => kk v h44) h44 λ x45 h46 => bA x36 false (λ kk => vK (dX .bool true h46.get x39 x45) λ v => kk v h46) h46 λ x47 h48 => vK (aW x36 (.bool true) x47) λ x49 => bK x49 (some ((.bool false), h48)) (vK (aF 0 x3) λ x50 => vK (aG h48.get x50) λ x51 => wK (aTE .int r3 x51 (.bool true) h48) λ x52 h53 => aPB E i2 r11 h53))) (aPC E h)
def aFv (r0 r3 r10 : DV) (n : Nat) : DV → H → aV := Nat.rec (motive := λ _ => DV → H → aV) (λ _ _ => none) (λ _ i => bRP E r0 r3 r10 i) n
def aZJ : DC := (.loop (zs 12 [zX (.bin .lss fY (zk 256))] (zq (.cond fV .skip (.exit 0)) (zq (.block 1 (zs 13 [zM 11,zX (.ixA 256 2 true fS fY),zY 5 (.alc 2 2 (.list [(.int .i64 (.ofNat 0)),.nili])),zT 4 13,zW (.st 2 o5 iP)] (zq (zs 15 [zX (.fa 1 o5),zX (.ld jH),zX (.eqv .nilI false hU (.c .nili))] (.cond iI (.exit 1) .skip)) (zq (zq (zd 18 [yA 0 (zX (.fa 0 o5)),yA 1 (zX (.ld iD)),yA 2 (zX (.bin .lss iO (zk 0))),yA 3 (zM 20),yA 4 (zG 21 false (.fa 0 o5)),yA 5 (zG 21 false (.ld iX)),yA 6 (zL 21 false 0),yA 7 (zG 21 false (.nilchk iN)),yA 8 (zG 21 false (.fa 512 jY)),yA 9 (zG 21 false (.ld lM)),yA 10 (zG 21 false (.bin .gtr gW lG)),yA 11 (zX (.pick hM (.c (.bool true)) lL)),yA 12 (zM 29),yA 13 (zL 30 false 3),yA 14 (zG 30 false (.fa 0 o5)),yA 15 (zG 30 false (.ld lF)),yA 16 (zG 30 false (.lkp .int (.bool false) false mV mF)),yA 17 (zX (.pick lR (.c (.bool true)) mE)),yA 18 (zM 35),yA 19 (zL 36 false 4),yA 20 (zG 36 false (.bin .eql oP (zk 1))),yA 21 (zG 36 false (.fa 0 o5)),yA 22 (zG 36 false (.ld rN)),yA 23 (zG 36 false (.bin .eql qT (zk 0))),yA 24 (zG 36 false (.eqv .bool true sU uE)),yA 25 (zX (.pick mD (.c (.bool true)) uJ))]) (.cond uD (zs 2 [zX (.mv (.c (.bool false)))] .ret) .skip)) (zr 44 [zM 3,zX (.fa 0 o5),zX (.ld xY),zW (.mup .int rT uL (.c (.bool true)))]))))) aZI))))
def aYf (r0 : DV) (h : H) : aV := aQA h λ x1 h2 => vK (aM r0) λ x3 => vK (aF 0 x3) λ x4 => vK (aK 512 h2.get x4) λ x5 => aFv E r0 x1 x5 aT (ii 0) h2
def aZL : DC := (zs 2 [zX (.mv (.c (.bool false)))] (zs 3 [zY 6 .mkm,zM 6] (zq (zs 7 [zM 0,zX (.nilchk o7),zX (.fa 0 o8),zX (.ldN 512 o9),zX (.mv (zk 0))] (.block 0 aZJ)) aZK)))
theorem bNV : Is E aZK (bO bFn) (λ σ h => aPC E h) := λ σ h => by kernel_rfl
abbrev aXu : gT (DV × H) := (bM 0 (cG (λ σ h => aPC E h) (bO bFn)))
abbrev bMn (n2 : Nat) : gT (DV × H) := (cG (λ σ h => (aFv E (σ p0) (σ p3) (σ p10) n2) (σ p11) h) (aXu E))
theorem bNT (n2 : Nat) : Is E aZI (bMn E n2) (λ σ h => aPB E (aFv E (σ p0) (σ p3) (σ p10) n2) (σ p11) h) := λ σ h => by kernel_rfl
theorem bNU : Is E aZJ (aXu E) (λ σ h => aFv E (σ p0) (σ p3) (σ p10) aT (σ p11) h) := Is.loop (λ n2 σ h => aFv E (σ p0) (σ p3) (σ p10) n2 (σ p11) h) (by kernel_rfl) λ n2 => Is.as (Is.seq (Is.seq (Is.seq (bNT E n2) (Is.leaf _)) (Is.leaf _)) (Is.leaf _)) λ σ h => by kernel_rfl
theorem bNW : oA E aZL bFn (aYf E) := Is.as (Is.seq (Is.seq (Is.seq (bNV E) (Is.seq (Is.block (bNU E)) (Is.leaf _))) (Is.leaf _)) (Is.leaf _)) λ σ h => by kernel_rfl
def bQG : DF := ⟨1, 48, aZL, bFn⟩
def bLP : cD := oD (aYf E)
theorem bEf : SQ bQG bLP := λ E => oI (d := bQG) (bNW E) rfl
def bFm : List RV := [(.r p4)]
def aPA (E : bN) (r6 : DV) (h : H) : aV := some (r6, h)
def aZG : DC := (zs 4 [zT 37 6,zM 37] .ret)
def aPz (E : bN) (i2 : DV → DV → H → aV) (r6 r17 : DV) (h : H) : aV := vK (bL r17 (ii 1)) λ x1 => i2 r6 x1 h
def aZE : DC := (zr 17 [zY 36 (.bin .add iI (zk 1)),zM 36])
def bRO (r0 r5 r15 r16 : DV) (i2 : DV → DV → H → aV) (r6 r17 : DV) (h : H) : aV := vK (cR r17 r16) λ x1 => bK x1 (vK (bZ 1 r15 r17) λ x2 => vK (aG h.get x2) λ x3 => wK (aD E 145 [r5, x3] h) λ x4 h5 => vK (aH 0 x4) λ x6 => vK (aH 1 x4) λ x7 => wK (aD E 87 [r0, x6] h5) λ x8 h9 => vK (dX .ptr true h9.get x8 .nilp) λ x10 => bK x10 (wK (aD E 160 [r0, x6] h9) λ x11 h12 => vK (bL r6 x11) λ x13 => aPz E i2 x13 r17 h12) (aPz E i2 r6 r17 h9)) (aPA E r6 h)
def aFu (r0 r5 r15 r16 : DV) (n : Nat) : DV → DV → H → aV := Nat.rec (motive := λ _ => DV → DV → H → aV) (λ _ _ _ => none) (λ _ i => bRO E r0 r5 r15 r16 i) n
def aZF : DC := (.loop (zs 18 [zX (.bin .lss iI hU)] (zq (.cond iD .skip (.exit 0)) (zq (.block 1 (zs 19 [zX (.iaS 1 jH iI),zX (.ld iO),zT 8 20] (zs 22 [zM 5,zM 8,zF 145 [iX,gW],zT 21 24,zX (.ext 0 hM),zX (.ext 1 hM),zT 9 25,zT 10 26] (zs 27 [zM 0,zM 9,zF 87 [lG,lL],zX (.eqv .ptr true mK (.c .nilp))] (.cond lR (zr 31 [zM 6,zM 0,zM 9,zF 160 [lF,mF],zX (.bin .add mV mE),zT 6 35]) .skip))))) aZE))))
def aYe (r0 r1 : DV) (h : H) : aV := wK (aD E 87 [r0, r1] h) λ x1 h2 => wK (aD E 88 [x1] h2) λ x3 h4 => vK (cB x3) λ x5 => aFu E r0 x1 x3 x5 aT (ii 1) (ii 0) h4
def aZH : DC := (zs 4 [zX (.mv (zk 0))] (zs 11 [zM 0,zM 1,zF 87 [fY,fV],zT 5 13,zY 6 (.mv (zk 1))] (zq (zs 14 [zM 5,zF 88 [iP],zX (.lenL jH),zX (.mv (zk 0))] (.block 0 aZF)) aZG)))
theorem bNR : Is E aZG (bO bFm) (λ σ h => aPA E (σ p6) h) := λ σ h => by kernel_rfl
abbrev aXt : gT (DV × H) := (cG (λ σ h => aPA E (σ p6) h) (bO bFm))
abbrev bMm (n2 : Nat) : gT (DV × H) := (cG (λ σ h => (aFu E (σ p0) (σ p5) (σ p15) (σ p16) n2) (σ p6) (σ p17) h) (bM 0 (aXt E)))
theorem bNP (n2 : Nat) : Is E aZE (bMm E n2) (λ σ h => aPz E (aFu E (σ p0) (σ p5) (σ p15) (σ p16) n2) (σ p6) (σ p17) h) := λ σ h => by kernel_rfl
theorem bNQ : Is E aZF (bM 0 (aXt E)) (λ σ h => aFu E (σ p0) (σ p5) (σ p15) (σ p16) aT (σ p6) (σ p17) h) := Is.loop (λ n2 σ h => aFu E (σ p0) (σ p5) (σ p15) (σ p16) n2 (σ p6) (σ p17) h) (by kernel_rfl) λ n2 => Is.as (Is.seq (Is.seq (Is.seq (bNP E n2) (Is.leaf _)) (Is.leaf _)) (Is.leaf _)) λ σ h => by kernel_rfl
theorem bNS : mW E aZH bFm (aYe E) := Is.as (Is.seq (Is.seq (Is.seq (bNR E) (Is.seq (Is.block (bNQ E)) (Is.leaf _))) (Is.leaf _)) (Is.leaf _)) λ σ h => by kernel_rfl
def bQF : DF := ⟨2, 38, aZH, bFm⟩
def bLO : cD := mX (aYe E)
theorem bEe : SQ bQF bLO := λ E => nF (d := bQF) (bNS E) rfl
def R161 : List RV := [(.r p4)]
def aJI (r0 r1 : DV) (h : H) : aV := wK (aD E 172 [r0, r1, (ii 0), (.int .i64 (.negSucc 0))] h) λ x1 h2 => some (x1, h2)
def aZD : DC := (zs 4 [zX (.mv (.c .nils))] (zs 5 [zM 0,zM 1,zF 172 [o5,o6,(zk 0),(.c (.int .i64 (.negSucc 0)))],zT 4 7] .ret))
theorem bNO : mW E aZD R161 (aJI E) := λ σ h => by kernel_rfl
def bQE : DF := ⟨2, 8, aZD, R161⟩
def aWF : cD := mX (aJI E)
theorem bEd : SQ bQE aWF := λ E => nF (d := bQE) (bNO E) rfl
def bFl : List RV := [(.r p6),(.r p7)]
def aJG (r0 r1 r2 r8 : DV) (h : H) : aV := vK (cB r0) λ x1 => vK (cR r8 x1) λ x2 => bA x2 true (λ kk => kk r2 h) h λ x3 h4 => bA x2 true (λ kk => kk r0 h4) h4 λ x5 h6 => bA x2 true (λ kk => kk r8 h6) h6 λ x7 h8 => bA x2 true (λ kk => vK (bZ 2 x5 x7) λ v => kk v h8) h8 λ x9 h10 => bA x2 true (λ kk => vK (aK 2 h10.get x9) λ v => kk v h10) h10 λ x11 h12 => bA x2 true (λ kk => wK (oQ E x3 [x11] h12) kk) h12 λ x13 h14 => bA x2 true (λ kk => kk r1 h14) h14 λ x15 h16 => bA x2 true (λ kk => vK (bS x13 x15) λ v => kk v h16) h16 λ x17 h18 => vK (aW x2 x17 (.bool false)) λ x19 => some ((.tup [r8, x19]), h18)
def aZB : DC := (zs 31 [zM 8,zM 8,zM 0,zX (.lenL mF),zX (.bin .lss lF mE),zM 35,zL 36 true 2,zL 36 true 0,zL 36 true 8,zG 36 true (.iaS 2 sU rN),zG 36 true (.ldN 2 qT),zD ⟨(some p42),(some (p36,true)),(.c (.v oP [uE]))⟩,zD ⟨(some p43),(some (p36,true)),(.e (.mv o1))⟩,zD ⟨(some p44),(some (p36,true)),(.e (.bin .eql uJ uD))⟩,zY 45 (.pick mD rT (.c (.bool false))),zT 6 31,zT 7 45] .ret)
def aFO (r0 r1 r2 : DV) (i2 : DV → DV → H → aV) (r8 r9 : DV) (h : H) : aV := vK (cR r8 r9) λ x1 => bK x1 (vK (bL r8 r9) λ x2 => vK (aPU x2 (ii 2)) λ x3 => vK (bZ 2 r0 x3) λ x4 => vK (aK 2 h.get x4) λ x5 => wK (oQ E r2 [x5] h) λ x6 h7 => vK (cR x6 r1) λ x8 => bK x8 (vK (bL x3 (ii 1)) λ x9 => i2 x9 r9 h7) (i2 r8 x3 h7)) (aJG E r0 r1 r2 r8 h)
def aCp (r0 r1 r2 : DV) (n : Nat) : DV → DV → H → aV := Nat.rec (motive := λ _ => DV → DV → H → aV) (λ _ _ _ => none) (λ _ i => aFO E r0 r1 r2 i) n
def aZA : DC := (.loop (zq (zs 13 [zM 8,zM 9,zX (.bin .lss gA iP)] (.cond jH .skip (.exit 0))) (.block 1 (zs 16 [zM 8,zM 9,zX (.bin .add hU iI),zX (.bin .quo iD (zk 2)),zT 10 19] (zs 20 [zM 2,zM 0,zM 10,zX (.iaS 2 hM iX),zX (.ldN 2 gW),zD ⟨(some p25),none,(.c (.v iS [iN]))⟩,zT 26 1,zY 27 (.bin .lss jY lM)] (.cond lG (zr 28 [zM 10,zX (.bin .add lL (zk 1)),zT 8 29]) (zr 9 [zT 30 10,zM 30])))))))
def aJH (r0 r1 r2 : DV) (h : H) : aV := vK (cB r0) λ x1 => aCp E r0 r1 r2 aT (ii 0) x1 h
def aZC : DC := (zs 6 [zX (.mv (zk 0)),zX (.mv (.c (.bool false)))] (zs 11 [zM 0,zX (.lenL fY),zY 8 (.mv (zk 0)),zT 9 12] (zq (.block 0 aZA) aZB)))
theorem bNM : Is E aZB (bO bFl) (λ σ h => aJG E (σ p0) (σ p1) (σ p2) (σ p8) h) := λ σ h => by kernel_rfl
abbrev bMl : gT (DV × H) := (cG (λ σ h => aJG E (σ p0) (σ p1) (σ p2) (σ p8) h) (bO bFl))
theorem bNL : Is E aZA (bM 0 (bMl E)) (λ σ h => aCp E (σ p0) (σ p1) (σ p2) aT (σ p8) (σ p9) h) := Is.loop (λ n2 σ h => aCp E (σ p0) (σ p1) (σ p2) n2 (σ p8) (σ p9) h) (by kernel_rfl) λ n2 => Is.as (Is.leaf _) λ σ h => by kernel_rfl
theorem bNN : iA3 E aZC bFl (aJH E) := Is.as (Is.seq (Is.seq (Is.seq (bNM E) (Is.block (bNL E))) (Is.leaf _)) (Is.leaf _)) λ σ h => by kernel_rfl
def bQD : DF := ⟨3, 46, aZC, bFl⟩
def aWE : cD := fA3 (aJH E)
theorem bEc : SQ bQD aWE := λ E => eA3 (d := bQD) (bNN E) rfl
def R163 : List RV := [(.r p2)]
def aJF (E : bN) (r0 : DV) (h : H) : aV := dT r0 h λ x1 h2 => vK (aF 0 x1) λ x3 => vK (aG h2.get x3) λ x4 => some (x4, h2)
def aZz : DC := (zs 1 [zX (.box o0),zX (.mv (.c (.str [])))] (zs 3 [zX (.fa 0 o1),zX (.ld o3),zT 2 4] .ret))
theorem bNK : oA E aZz R163 (aJF E) := λ σ h => by kernel_rfl
def bQC : DF := ⟨1, 5, aZz, R163⟩
def aTL : cD := oD (aJF E)
theorem bEb : SQ bQC aTL := λ E => oI (d := bQC) (bNK E) rfl
def R164 : List RV := [(.r p4)]
def aJE (r0 r1 : DV) (h : H) : aV := wK (aD E 173 [r0, r1] h) λ x1 h2 => some (x1, h2)
def aZy : DC := (zs 4 [zX (.mv (zk 0))] (zs 5 [zM 0,zM 1,zF 173 [o5,o6],zT 4 7] .ret))
theorem bNJ : mW E aZy R164 (aJE E) := λ σ h => by kernel_rfl
def bQB : DF := ⟨2, 8, aZy, R164⟩
def aWD : cD := mX (aJE E)
theorem bEa : SQ bQB aWD := λ E => nF (d := bQB) (bNJ E) rfl
def R166 : List RV := []
def aYd (r0 r1 : DV) (h : H) : aV := vK (cB r0) λ x1 => vK (fB x1 r1) λ x2 => wK (aD E 174 [r0, x2] h) λ x3 h4 => some ((.tup []), h4)
def aZx : DC := (zr 4 [zM 0,zM 0,zX (.lenL o5),zM 1,zX (.bin .sub o6 o7),zF 174 [o4,o8]])
theorem bNI : mW E aZx R166 (aYd E) := λ σ h => by kernel_rfl
def bQA : DF := ⟨2, 10, aZx, R166⟩
def bLN : cD := mX (aYd E)
theorem bDZ : SQ bQA bLN := λ E => nF (d := bQA) (bNI E) rfl
def bFk : List RV := [(.r p4),(.r p5)]
def aFz (E : bN) (r0 r1 r6 : DV) (h : H) : aV := vK (cB r0) λ x1 => vK (cR r6 x1) λ x2 => bA x2 true (λ kk => kk r0 h) h λ x3 h4 => bA x2 true (λ kk => kk r6 h4) h4 λ x5 h6 => bA x2 true (λ kk => vK (bZ 2 x3 x5) λ v => kk v h6) h6 λ x7 h8 => bA x2 true (λ kk => vK (aF 0 x7) λ v => kk v h8) h8 λ x9 h10 => bA x2 true (λ kk => vK (aG h10.get x9) λ v => kk v h10) h10 λ x11 h12 => bA x2 true (λ kk => kk r1 h12) h12 λ x13 h14 => bA x2 true (λ kk => vK (bS x11 x13) λ v => kk v h14) h14 λ x15 h16 => vK (aW x2 x15 (.bool false)) λ x17 => some ((.tup [r6, x17]), h16)
def aZv : DC := (zq (zd 22 [yA 0 (zM 6),yA 1 (zM 6),yA 2 (zM 0),yA 3 (zX (.lenL iN)),yA 4 (zX (.bin .lss gW jY)),yA 5 (zM 26),yA 6 (zL 27 true 0),yA 7 (zL 27 true 6),yA 8 (zG 27 true (.iaS 2 lL mK)),yA 9 (zG 27 true (.fa 0 lR)),yA 10 (zG 27 true (.ld mV)),yA 11 (zL 27 true 1),yA 12 (zG 27 true (.bin .eql lF mF)),yA 13 (zX (.pick lG mE (.c (.bool false)))),yA 14 (zT 4 22),yA 15 (zT 5 35)]) .ret)
def aFN (r0 r1 : DV) (i2 : DV → H → aV) (r6 : DV) (h : H) : aV := vK (cB r0) λ x1 => vK (cR r6 x1) λ x2 => bA x2 true (λ kk => kk r0 h) h λ x3 h4 => bA x2 true (λ kk => kk r6 h4) h4 λ x5 h6 => bA x2 true (λ kk => vK (bZ 2 x3 x5) λ v => kk v h6) h6 λ x7 h8 => bA x2 true (λ kk => vK (aF 0 x7) λ v => kk v h8) h8 λ x9 h10 => bA x2 true (λ kk => vK (aG h10.get x9) λ v => kk v h10) h10 λ x11 h12 => bA x2 true (λ kk => kk r1 h12) h12 λ x13 h14 => bA x2 true (λ kk => vK (cR x11 x13) λ v => kk v h14) h14 λ x15 h16 => vK (aW x2 x15 (.bool false)) λ x17 => bK x17 (vK (bL r6 (ii 1)) λ x18 => i2 x18 h16) (aFz E r0 r1 r6 h16)
def aCo (r0 r1 : DV) (n : Nat) : DV → H → aV := Nat.rec (motive := λ _ => DV → H → aV) (λ _ _ => none) (λ _ i => aFN E r0 r1 i) n
def aZu : DC := (.loop (zq (zs 7 [zM 6,zM 0,zX (.lenL o8),zX (.bin .lss o7 o9),zM 10,zL 11 true 0,zL 11 true 6,zG 11 true (.iaS 2 fV gA),zG 11 true (.fa 0 iP),zG 11 true (.ld jH),zL 11 true 1,zG 11 true (.bin .lss hU iI),zX (.pick fY iD (.c (.bool false)))] (.cond iO .skip (.exit 0))) (.block 1 (zr 20 [zM 6,zX (.bin .add iS (zk 1)),zT 6 21]))))
def aYc (r0 r1 : DV) (h : H) : aV := aCo E r0 r1 aT (ii 0) h
def aZw : DC := (zs 4 [zX (.mv (zk 0)),zX (.mv (.c (.bool false)))] (zs 6 [zX (.mv (zk 0))] (zq (.block 0 aZu) aZv)))
theorem bNG : Is E aZv (bO bFk) (λ σ h => aFz E (σ p0) (σ p1) (σ p6) h) := λ σ h => by kernel_rfl
abbrev bMk : gT (DV × H) := (cG (λ σ h => aFz E (σ p0) (σ p1) (σ p6) h) (bO bFk))
theorem bNF : Is E aZu (bM 0 (bMk E)) (λ σ h => aCo E (σ p0) (σ p1) aT (σ p6) h) := Is.loop (λ n2 σ h => aCo E (σ p0) (σ p1) n2 (σ p6) h) (by kernel_rfl) λ n2 => Is.as (Is.leaf _) λ σ h => by kernel_rfl
theorem bNH : mW E aZw bFk (aYc E) := Is.as (Is.seq (Is.seq (Is.seq (bNG E) (Is.block (bNF E))) (Is.leaf _)) (Is.leaf _)) λ σ h => by kernel_rfl
def bQz : DF := ⟨2, 36, aZw, bFk⟩
def aWC : cD := mX (aYc E)
theorem bDY : SQ bQz aWC := λ E => nF (d := bQz) (bNH E) rfl
def bFj : List RV := [(.r p2)]
def aFy (E : bN) (r0 : DV) (h : H) : aV := vK (dC r0 (.str [])) λ x1 => bA x1 true (λ kk => kk r0 h) h λ x2 h3 => bA x1 true (λ kk => vK (cA x2) λ v => kk v h3) h3 λ x4 h5 => bA x1 true (λ kk => vK (yF x4 (ii 28)) λ v => kk v h5) h5 λ x6 h7 => vK (aW x1 x6 (.bool false)) λ x8 => bA x8 true (λ kk => kk r0 h7) h7 λ x9 h10 => bA x8 true (λ kk => vK (dC x9 (.str [46])) λ v => kk v h10) h10 λ x11 h12 => vK (aW x8 x11 (.bool false)) λ x13 => bA x13 true (λ kk => kk r0 h12) h12 λ x14 h15 => bA x13 true (λ kk => vK (dC x14 (.str [46, 46])) λ v => kk v h15) h15 λ x16 h17 => vK (aW x13 x16 (.bool false)) λ x18 => some (x18, h17)
def aZs : DC := (zs 20 [zM 0,zX (.bin .neq iS (.c (.str []))),zM 21,zL 22 true 0,zG 22 true (.lenS gW),zG 22 true (.bin .leq iN (zk 28)),zX (.pick iX jY (.c (.bool false))),zM 26,zL 27 true 0,zG 27 true (.bin .neq lL (.c (.str [46]))),zX (.pick lG mK (.c (.bool false))),zM 30,zL 31 true 0,zG 31 true (.bin .neq lF (.c (.str [46,46]))),zX (.pick mV mF (.c (.bool false))),zT 2 34] .ret)
def aFM (r0 : DV) (i2 : DV → H → aV) (r3 : DV) (h : H) : aV := vK (cA r0) λ x1 => vK (cR r3 x1) λ x2 => bK x2 (vK (gO r0 r3) λ x3 => vK (bS x3 (.int .u8 (.ofNat 0))) λ x4 => bA x4 false (λ kk => kk r0 h) h λ x5 h6 => bA x4 false (λ kk => kk r3 h6) h6 λ x7 h8 => bA x4 false (λ kk => vK (gO x5 x7) λ v => kk v h8) h8 λ x9 h10 => bA x4 false (λ kk => vK (bS x9 (.int .u8 (.ofNat 47))) λ v => kk v h10) h10 λ x11 h12 => vK (aW x4 (.bool true) x11) λ x13 => bK x13 (some ((.bool false), h12)) (vK (bL r3 (ii 1)) λ x14 => i2 x14 h12)) (aFy E r0 h)
def aCn (r0 : DV) (n : Nat) : DV → H → aV := Nat.rec (motive := λ _ => DV → H → aV) (λ _ _ => none) (λ _ i => aFM E r0 i) n
def aZr : DC := (.loop (zq (zs 4 [zM 3,zM 0,zX (.lenS o5),zX (.bin .lss o4 o6)] (.cond o7 .skip (.exit 0))) (zq (.block 1 (zs 10 [zM 0,zM 3,zX (.ixS fS fY),zX (.bin .eql fV (.c (.int .u8 (.ofNat 0)))),zM 13,zL 14 false 0,zL 14 false 3,zG 14 false (.ixS jH hU),zG 14 false (.bin .eql iI (.c (.int .u8 (.ofNat 47)))),zX (.pick iP (.c (.bool true)) iD)] (.cond iO (zs 2 [zX (.mv (.c (.bool false)))] .ret) .skip))) (zr 8 [zM 3,zX (.bin .add o8 (zk 1)),zT 3 9]))))
def aYb (r0 : DV) (h : H) : aV := aCn E r0 aT (ii 0) h
def aZt : DC := (zs 2 [zX (.mv (.c (.bool false)))] (zq (zs 3 [zX (.mv (zk 0))] (.block 0 aZr)) aZs))
theorem bND : Is E aZs (bO bFj) (λ σ h => aFy E (σ p0) h) := λ σ h => by kernel_rfl
abbrev bMj : gT (DV × H) := (cG (λ σ h => aFy E (σ p0) h) (bO bFj))
theorem bNC : Is E aZr (bM 0 (bMj E)) (λ σ h => aCn E (σ p0) aT (σ p3) h) := Is.loop (λ n2 σ h => aCn E (σ p0) n2 (σ p3) h) (by kernel_rfl) λ n2 => Is.as (Is.leaf _) λ σ h => by kernel_rfl
theorem bNE : oA E aZt bFj (aYb E) := Is.as (Is.seq (Is.seq (bND E) (Is.seq (Is.block (bNC E)) (Is.leaf _))) (Is.leaf _)) λ σ h => by kernel_rfl
def bQy : DF := ⟨1, 35, aZt, bFj⟩
def aWB : cD := oD (aYb E)
theorem bDX : SQ bQy aWB := λ E => oI (d := bQy) (bNE E) rfl
def R171 : List RV := [(.r p2)]
def aYa (E : bN) (r0 : DV) (h : H) : aV := vK (dX .ptr false h.get r0 .nilp) λ x1 => bK x1 (some ((ii 0), h)) (vK (aM r0) λ x2 => vK (aF 0 x2) λ x3 => vK (aG h.get x3) λ x4 => vK (cA x4) λ x5 => some (x5, h))
def aZq : DC := (zs 2 [zX (.mv (zk 0))] (zq (zs 3 [zM 0,zX (.eqv .ptr false o3 (.c .nilp))] (.cond o4 (zs 2 [zX (.mv (zk 0))] .ret) .skip)) (zs 5 [zM 0,zX (.nilchk o5),zX (.fa 0 o6),zX (.ld o7),zX (.lenS o8),zT 2 9] .ret)))
theorem bNB : oA E aZq R171 (aYa E) := λ σ h => by kernel_rfl
def bQx : DF := ⟨1, 10, aZq, R171⟩
def bLM : cD := oD (aYa E)
theorem bDW : SQ bQx bLM := λ E => oI (d := bQx) (bNB E) rfl
def aXn : List RV := [(.r p8)]
def aFx (E : bN) (r0 r9 r10 : DV) (h : H) : aV := vK (bZ 1 r9 r10) λ x1 => wK (bR 1 x1 r0 h) λ x2 h3 => vK (bL r10 (ii 1)) λ x4 => vK (dM 1 r9 none (some x4)) λ x5 => some (x5, h3)
def aZn : DC := (zs 58 [zM 9,zM 10,zM 0,zX (.iaS 1 o58 o59),zW (.st 1 o61 o60)] (zs 62 [zM 9,zM 10,zX (.bin .add o63 (zk 1)),zX (.slL 1 o62 none (some o64)),zT 8 65] .ret))
def aFL (r1 r2 r3 r9 : DV) (i3 : DV → DV → H → aV) (r0 r10 : DV) (h : H) : aV := vK (cR r10 r3) λ x1 => bK x1 (wK (aD E 183 [r0, r1] h) λ x2 h3 => vK (cR x2 (ii 0)) λ x4 => bK x4 (aFx E r0 r9 r10 h3) (vK (bL x2 r2) λ x5 => vK (gV r0 none (some x5)) λ x6 => vK (bZ 1 r9 r10) λ x7 => wK (bR 1 x7 x6 h3) λ x8 h9 => vK (cA r1) λ x10 => vK (bL x2 x10) λ x11 => vK (gV r0 (some x11) none) λ x12 => vK (bL r10 (ii 1)) λ x13 => i3 x12 x13 h9)) (aFx E r0 r9 r10 h)
def aCm (r1 r2 r3 r9 : DV) (n : Nat) : DV → DV → H → aV := Nat.rec (motive := λ _ => DV → DV → H → aV) (λ _ _ _ => none) (λ _ i => aFL E r1 r2 r3 r9 i) n
def aZm : DC := (.loop (zq (zs 34 [zM 10,zM 3,zX (.bin .lss mE oW)] (.cond mD .skip (.exit 0))) (.block 1 (zs 37 [zM 0,zM 1,zF 183 [oP,sU],zT 11 39] (zq (zs 40 [zM 11,zX (.bin .lss qT (zk 0))] (.cond uE (.exit 0) .skip)) (zs 42 [zM 9,zM 10,zM 0,zM 11,zM 2,zX (.bin .add xY uL),zX (.slS rT none (some xX)),zX (.iaS 1 uJ uD),zW (.st 1 o49 o48)] (zs 50 [zM 0,zM 11,zM 1,zX (.lenS o52),zX (.bin .add o51 o53),zX (.slS o50 (some o54) none),zT 0 55] (zr 56 [zM 10,zX (.bin .add o56 (zk 1)),zT 10 57]))))))))
def aJC (r0 r1 r2 r3 : DV) (h : H) : aV := vK (cA r0) λ x1 => vK (bL x1 (ii 1)) λ x2 => vK (aAo r3 x2) λ x3 => uF 1 16 (.str []) x3 x3 h λ x4 h5 => vK (fB x3 (ii 1)) λ x6 => aCm E r1 r2 x6 x4 aT r0 (ii 0) h5
def aZo : DC := (zs 25 [zM 3,zM 0,zX (.lenS lM),zX (.bin .add lG (zk 1)),zX (.mn jY lL),zT 3 29] (zs 30 [zM 3,zX (.mks 1 16 (.str []) lR lR),zT 9 31] (zs 32 [zM 3,zX (.bin .sub lF (zk 1)),zT 3 33] (zs 10 [zX (.mv (zk 0))] (zq (.block 0 aZm) aZn)))))
def aJD (r0 r1 r2 r3 : DV) (h : H) : aV := vK (bS r3 (ii 0)) λ x1 => bK x1 (some (.nils, h)) (vK (bS r1 (.str [])) λ x2 => bK x2 (wK (aD E 181 [r0, r3] h) λ x3 h4 => some (x3, h4)) (vK (cR r3 (ii 0)) λ x5 => bK x5 (wK (aD E 182 [r0, r1] h) λ x6 h7 => vK (bL x6 (ii 1)) λ x8 => aJC E r0 r1 r2 x8 h7) (aJC E r0 r1 r2 r3 h)))
def aZp : DC := (zs 8 [zX (.mv (.c .nils))] (zq (zs 12 [zM 3,zX (.bin .eql fV (zk 0))] (.cond gA (zs 8 [zX (.mv (.c .nils))] .ret) .skip)) (zq (zs 14 [zM 1,zX (.bin .eql iP (.c (.str [])))] (.cond jH (zs 16 [zM 0,zM 3,zF 181 [hU,iI],zT 8 18] .ret) .skip)) (zq (zs 19 [zM 3,zX (.bin .lss iO (zk 0))] (.cond iS (zr 21 [zM 0,zM 1,zF 182 [hM,iX],zX (.bin .add gW (zk 1)),zT 3 24]) .skip)) aZo))))
theorem bNy : Is E aZn (bO aXn) (λ σ h => aFx E (σ p0) (σ p9) (σ p10) h) := λ σ h => by kernel_rfl
abbrev bMi : gT (DV × H) := (cG (λ σ h => aFx E (σ p0) (σ p9) (σ p10) h) (bO aXn))
theorem bNx : Is E aZm (bM 0 (bMi E)) (λ σ h => aCm E (σ p1) (σ p2) (σ p3) (σ p9) aT (σ p0) (σ p10) h) := Is.loop (λ n3 σ h => aCm E (σ p1) (σ p2) (σ p3) (σ p9) n3 (σ p0) (σ p10) h) (by kernel_rfl) λ n3 => Is.as (Is.leaf _) λ σ h => by kernel_rfl
theorem bNz : Is E aZo (bO aXn) (λ σ h => aJC E (σ p0) (σ p1) (σ p2) (σ p3) h) := Is.as (Is.seq (Is.seq (Is.seq (Is.seq (Is.seq (bNy E) (Is.block (bNx E))) (Is.leaf _)) (Is.leaf _)) (Is.leaf _)) (Is.leaf _)) λ σ h => by kernel_rfl
theorem bNA : iA4 E aZp aXn (aJD E) := Is.as (Is.seq (Is.seq (Is.seq (Is.seq (bNz E) (Is.leaf _)) (Is.leaf _)) (Is.leaf _)) (Is.leaf _)) λ σ h => by kernel_rfl
def bQw : DF := ⟨4, 66, aZp, aXn⟩
def aWA : cD := fA4 (aJD E)
theorem bDV : SQ bQw aWA := λ E => eA4 (d := bQw) (bNA E) rfl
def R173 : List RV := [(.r p4)]
def aCA (E : bN) (r0 r1 : DV) (h : H) : aV := vK (aHZ r0 r1) λ x1 => some (x1, h)
def aZl : DC := (zs 4 [zX (.mv (zk 0))] (zs 5 [zM 0,zM 1,zX (.prm .idx o5 o6),zT 4 7] .ret))
theorem bNw : mW E aZl R173 (aCA E) := λ σ h => by kernel_rfl
def bQv : DF := ⟨2, 8, aZl, R173⟩
def aJq : cD := mX (aCA E)
theorem bDU : SQ bQv aJq := λ E => nF (d := bQv) (bNw E) rfl
def R174 : List RV := []
def aXZ (r0 r1 : DV) (h : H) : aV := vK (dM 2 r0 none (some r1)) λ x1 => wK (aD E 185 [x1] h) λ x2 h3 => vK (dM 2 r0 (some r1) none) λ x4 => wK (aD E 185 [x4] h3) λ x5 h6 => wK (aD E 185 [r0] h6) λ x7 h8 => some ((.tup []), h8)
def aZk : DC := (zs 4 [zM 0,zM 1,zX (.slL 2 o4 none (some o5)),zF 185 [o6]] (zs 8 [zM 0,zM 1,zX (.slL 2 o8 (some o9) none),zF 185 [fS]] (zr 12 [zM 0,zF 185 [fV]])))
theorem bNv : mW E aZk R174 (aXZ E) := λ σ h => by kernel_rfl
def bQu : DF := ⟨2, 14, aZk, R174⟩
def bLL : cD := mX (aXZ E)
theorem bDT : SQ bQu bLL := λ E => nF (d := bQu) (bNv E) rfl
def aTT : List RV := [(.r p4)]
def aPw (E : bN) (r6 : DV) (h : H) : aV := some (r6, h)
def aZf : DC := (zs 4 [zT 49 6,zM 49] .ret)
def aPx (r0 r1 r6 : DV) (h : H) : aV := vK (eJ r1 (ii 0)) λ x1 => bK x1 (vK (fB r1 (ii 1)) λ x2 => vK (bZ 1 r6 x2) λ x3 => wK (bR 1 x3 r0 h) λ x4 h5 => aPw E r6 h5) (aPw E r6 h)
def aZh : DC := (zq (zs 42 [zM 1,zX (.bin .gtr uJ (zk 0))] (.cond uD (zr 44 [zM 6,zM 1,zX (.bin .sub xY (zk 1)),zM 0,zX (.iaS 1 rT uL),zW (.st 1 o48 xX)]) .skip)) aZf)
def bRN (r1 r6 : DV) (i3 : DV → DV → H → aV) (r0 r7 : DV) (h : H) : aV := vK (fB r1 (ii 1)) λ x1 => vK (cR r7 x1) λ x2 => bK x2 (wK (aD E 192 [r0] h) λ x3 h4 => vK (aH 0 x3) λ x5 => vK (aH 1 x3) λ x6 => vK (gV r0 none (some x6)) λ x7 => vK (bZ 1 r6 r7) λ x8 => wK (bR 1 x8 x7 h4) λ x9 h10 => vK (gV r0 (some x6) none) λ x11 => vK (bL r7 (ii 1)) λ x12 => i3 x11 x12 h10) (aPx E r0 r1 r6 h)
def aPk (r1 r6 : DV) (n : Nat) : DV → DV → H → aV := Nat.rec (motive := λ _ => DV → DV → H → aV) (λ _ _ _ => none) (λ _ i => bRN E r1 r6 i) n
def aZg : DC := (.loop (zq (zs 22 [zM 7,zM 1,zX (.bin .sub gW (zk 1)),zX (.bin .lss iX iN)] (.cond jY .skip (.exit 0))) (zq (.block 1 (zs 29 [zM 0,zF 192 [mK],zT 28 30,zX (.ext 0 lL),zX (.ext 1 lL),zT 8 31,zT 9 32] (zs 33 [zM 6,zM 7,zM 0,zM 9,zX (.slS oW none (some mD)),zX (.iaS 1 mF mE),zW (.st 1 sU oP)] (zr 39 [zM 0,zM 9,zX (.slS rN (some qT) none),zT 0 41])))) (zr 26 [zM 7,zX (.bin .add lM (zk 1)),zT 7 27]))))
def aPy (r0 r1 : DV) (h : H) : aV := uF 1 16 (.str []) r1 r1 h λ x1 h2 => aPk E r1 x1 aT r0 (ii 0) h2
def aZi : DC := (zs 20 [zM 1,zX (.mks 1 16 (.str []) iS iS),zT 6 21] (zq (zs 7 [zX (.mv (zk 0))] (.block 0 aZg)) aZh))
def aXY (r0 r1 : DV) (h : H) : aV := wK (aD E 191 [r0] h) λ x1 h2 => vK (cR r1 (ii 0)) λ x3 => bA x3 false (λ kk => kk r1 h2) h2 λ x4 h5 => bA x3 false (λ kk => kk x1 h5) h5 λ x6 h7 => bA x3 false (λ kk => vK (eJ x4 x6) λ v => kk v h7) h7 λ x8 h9 => vK (aW x3 (.bool true) x8) λ x10 => bK x10 (aPy E r0 x1 h9) (aPy E r0 r1 h9)
def aZj : DC := (zs 4 [zX (.mv (.c .nils))] (zs 10 [zM 0,zF 191 [fS],zT 5 11] (zq (zs 12 [zM 1,zX (.bin .lss fV (zk 0)),zM 13,zL 14 false 1,zL 14 false 5,zG 14 false (.bin .gtr jH hU),zX (.pick iP (.c (.bool true)) iI)] (.cond iD (zr 1 [zT 19 5,zM 19]) .skip)) aZi)))
theorem bNq : Is E aZf (bO aTT) (λ σ h => aPw E (σ p6) h) := λ σ h => by kernel_rfl
theorem bNs : Is E aZh (bO aTT) (λ σ h => aPx E (σ p0) (σ p1) (σ p6) h) := Is.as (Is.seq (bNq E) (Is.leaf _)) λ σ h => by kernel_rfl
abbrev bMh : gT (DV × H) := (cG (λ σ h => aPx E (σ p0) (σ p1) (σ p6) h) (bO aTT))
theorem bNr : Is E aZg (bM 0 (bMh E)) (λ σ h => aPk E (σ p1) (σ p6) aT (σ p0) (σ p7) h) := Is.loop (λ n3 σ h => aPk E (σ p1) (σ p6) n3 (σ p0) (σ p7) h) (by kernel_rfl) λ n3 => Is.as (Is.leaf _) λ σ h => by kernel_rfl
theorem bNt : Is E aZi (bO aTT) (λ σ h => aPy E (σ p0) (σ p1) h) := Is.as (Is.seq (Is.seq (bNs E) (Is.seq (Is.block (bNr E)) (Is.leaf _))) (Is.leaf _)) λ σ h => by kernel_rfl
theorem bNu : mW E aZj aTT (aXY E) := Is.as (Is.seq (Is.seq (Is.seq (bNt E) (Is.leaf _)) (Is.leaf _)) (Is.leaf _)) λ σ h => by kernel_rfl
def bQt : DF := ⟨2, 50, aZj, aTT⟩
def bLK : cD := mX (aXY E)
theorem bDS : SQ bQt bLK := λ E => nF (d := bQt) (bNu E) rfl
def bLY : List RV := [(.r p4)]
def bRM (r1 : DV) (i1 : DV → DV → H → aV) (r0 r5 : DV) (h : H) : aV := wK (aD E 183 [r0, r1] h) λ x1 h2 => vK (bS x1 (.int .i64 (.negSucc 0))) λ x3 => bK x3 (some (r5, h2)) (vK (bL r5 (ii 1)) λ x4 => vK (cA r1) λ x5 => vK (bL x1 x5) λ x6 => vK (gV r0 (some x6) none) λ x7 => i1 x7 x4 h2)
def aPj (r1 : DV) (n : Nat) : DV → DV → H → aV := Nat.rec (motive := λ _ => DV → DV → H → aV) (λ _ _ _ => none) (λ _ i => bRM E r1 i) n
def aZd : DC := (.loop (.block 1 (zs 20 [zM 0,zM 1,zF 183 [iS,hM],zT 6 22] (zq (zs 23 [zM 6,zX (.bin .eql gW (.c (.int .i64 (.negSucc 0))))] (.cond iN (zs 4 [zT 25 5,zM 25] .ret) .skip)) (zs 26 [zM 5,zX (.bin .add lM (zk 1)),zT 5 27] (zr 28 [zM 0,zM 6,zM 1,zX (.lenS lR),zX (.bin .add mK mV),zX (.slS lL (some lF) none),zT 0 33]))))))
def aJB (r0 r1 : DV) (h : H) : aV := vK (cA r1) λ x1 => vK (bS x1 (ii 0)) λ x2 => bK x2 (wK (aD E 191 [r0] h) λ x3 h4 => vK (bL x3 (ii 1)) λ x5 => some (x5, h4)) (vK (cA r1) λ x6 => vK (bS x6 (ii 1)) λ x7 => bK x7 (vK (gO r1 (ii 0)) λ x8 => vK (aNy r0 x8) λ x9 => some (x9, h)) (aPj E r1 aT r0 (ii 0) h))
def aZe : DC := (zs 4 [zX (.mv (zk 0))] (zq (zs 7 [zM 1,zX (.lenS o7),zX (.bin .eql o8 (zk 0))] (.cond o9 (zs 10 [zM 0,zF 191 [fS],zX (.bin .add fY (zk 1)),zT 4 12] .ret) .skip)) (zq (zs 13 [zM 1,zX (.lenS gA),zX (.bin .eql iP (zk 1))] (.cond jH (zs 16 [zM 0,zM 1,zX (.ixS iI (zk 0)),zX (.prm .cnt hU iD),zT 4 19] .ret) .skip)) (zs 5 [zX (.mv (zk 0))] (.block 0 aZd)))))
theorem bNo : Is E aZd (bM 0 (bO bLY)) (λ σ h => aPj E (σ p1) aT (σ p0) (σ p5) h) := Is.loop (λ n1 σ h => aPj E (σ p1) n1 (σ p0) (σ p5) h) (by kernel_rfl) λ n1 => Is.as (Is.leaf _) λ σ h => by kernel_rfl
theorem bNp : mW E aZe bLY (aJB E) := Is.as (Is.seq (Is.seq (Is.seq (Is.seq (Is.block (bNo E)) (Is.leaf _)) (Is.leaf _)) (Is.leaf _)) (Is.leaf _)) λ σ h => by kernel_rfl
def bQs : DF := ⟨2, 34, aZe, bLY⟩
def aWz : cD := mX (aJB E)
theorem bDR : SQ bQs aWz := λ E => nF (d := bQs) (bNp E) rfl
def R183 : List RV := [(.r p4)]
def aJA (r0 r1 : DV) (h : H) : aV := wK (aD E 194 [r0, r1] h) λ x1 h2 => some (x1, h2)
def aZc : DC := (zs 4 [zX (.mv (zk 0))] (zs 5 [zM 0,zM 1,zF 194 [o5,o6],zT 4 7] .ret))
theorem bNn : mW E aZc R183 (aJA E) := λ σ h => by kernel_rfl
def bQr : DF := ⟨2, 8, aZc, R183⟩
def aWy : cD := mX (aJA E)
theorem bDQ : SQ bQr aWy := λ E => nF (d := bQr) (bNn E) rfl
def bLX : List RV := []
def bRL (E : bN) (r0 : DV) (i1 : DV → DV → H → aV) (r2 r3 : DV) (h : H) : aV := vK (cR r2 r3) λ x1 => bK x1 (vK (bZ 2 r0 r3) λ x2 => vK (aK 2 h.get x2) λ x3 => vK (bZ 2 r0 r2) λ x4 => vK (aK 2 h.get x4) λ x5 => vK (bZ 2 r0 r2) λ x6 => wK (bR 2 x6 x3 h) λ x7 h8 => vK (bZ 2 r0 r3) λ x9 => wK (bR 2 x9 x5 h8) λ x10 h11 => vK (bL r2 (ii 1)) λ x12 => vK (fB r3 (ii 1)) λ x13 => i1 x12 x13 h11) (some ((.tup []), h))
def aPi (r0 : DV) (n : Nat) : DV → DV → H → aV := Nat.rec (motive := λ _ => DV → DV → H → aV) (λ _ _ _ => none) (λ _ i => bRL E r0 i) n
def aZa : DC := (.loop (zq (zs 7 [zM 2,zM 3,zX (.bin .lss o7 o8)] (.cond o9 .skip (.exit 0))) (zq (.block 1 (zd 14 [yA 0 (zM 0),yA 1 (zM 2),yA 2 (zM 0),yA 3 (zM 3),yA 4 (zM 0),yA 5 (zM 3),yA 6 (zX (.iaS 2 iD iO)),yA 7 (zX (.ldN 2 iS)),yA 8 (zM 0),yA 9 (zM 2),yA 10 (zX (.iaS 2 iX gW)),yA 11 (zX (.ldN 2 iN)),yA 12 (zX (.iaS 2 iP jH)),yA 13 (zW (.st 2 lM hM)),yA 14 (zX (.iaS 2 hU iI)),yA 15 (zW (.st 2 lG jY))])) (zr 10 [zM 2,zX (.bin .add fS (zk 1)),zM 3,zX (.bin .sub fV (zk 1)),zT 2 11,zT 3 13]))))
def aXX (r0 : DV) (h : H) : aV := vK (cB r0) λ x1 => vK (fB x1 (ii 1)) λ x2 => aPi E r0 aT (ii 0) x2 h
def aZb : DC := (zs 4 [zM 0,zX (.lenL o4),zX (.bin .sub o5 (zk 1)),zY 2 (.mv (zk 0)),zT 3 6] (.block 0 aZa))
theorem bNl : Is E aZa (bM 0 (bO bLX)) (λ σ h => aPi E (σ p0) aT (σ p2) (σ p3) h) := Is.loop (λ n1 σ h => aPi E (σ p0) n1 (σ p2) (σ p3) h) (by kernel_rfl) λ n1 => Is.as (Is.leaf _) λ σ h => by kernel_rfl
theorem bNm : oA E aZb bLX (aXX E) := Is.as (Is.seq (Is.block (bNl E)) (Is.leaf _)) λ σ h => by kernel_rfl
def bQq : DF := ⟨1, 28, aZb, bLX⟩
def bLJ : cD := oD (aXX E)
theorem bDP : SQ bQq bLJ := λ E => oI (d := bQq) (bNm E) rfl
def bFi : List RV := [(.r p2)]
def aXV (E : bN) (r2 : DV) (h : H) : aV := some (r2, h)
def aYY : DC := (zs 2 [zT 9 2,zM 9] .ret)
def bRK (E : bN) (i2 : H → aV) (h : H) : aV := none
def aXp (n : Nat) : H → aV := Nat.rec (motive := λ _ => H → aV) (λ _ => none) (λ _ i => bRK E i) n
def aYX : DC := (.loop (zs 5 [zX .bad,zX (.ext 0 o5)] (zq (.cond o6 .skip (.exit 0)) (.block 1 (zr 7 [zM 2,zX (.bin .add o7 (zk 1)),zT 2 8])))))
def aXW (E : bN) (h : H) : aV := none
def aYZ : DC := (zs 2 [zX (.mv (zk 0))] (zq (zs 3 [zM 0,zX .bad] (.block 0 aYX)) aYY))
theorem bNj : Is E aYY (bO bFi) (λ σ h => aXV E (σ p2) h) := λ σ h => by kernel_rfl
abbrev bMg : gT (DV × H) := (cG (λ σ h => aXV E (σ p2) h) (bO bFi))
theorem bNi : Is E aYX (bM 0 (bMg E)) (λ σ h => aXp E aT h) := Is.loop (λ n2 σ h => aXp E n2 h) (by kernel_rfl) λ n2 => Is.as (Is.leaf _) λ σ h => by kernel_rfl
theorem bNk : oA E aYZ bFi (λ _ h => aXW E h) := Is.as (Is.seq (Is.seq (bNj E) (Is.seq (Is.block (bNi E)) (Is.leaf _))) (Is.leaf _)) λ σ h => by kernel_rfl
def bQp : DF := ⟨1, 10, aYZ, bFi⟩
def bLI : cD := oD (λ _ h => aXW E h)
theorem bDO : SQ bQp bLI := λ E => oI (d := bQp) (bNk E) rfl
def R192 : List RV := [(.r p2),(.r p3)]
def aXU (r0 : DV) (h : H) : aV := vK (dC r0 (.str [])) λ x1 => bA x1 true (λ kk => kk r0 h) h λ x2 h3 => bA x1 true (λ kk => vK (gO x2 (ii 0)) λ v => kk v h3) h3 λ x4 h5 => bA x1 true (λ kk => vK (cR x4 (.int .u8 (.ofNat 128))) λ v => kk v h5) h5 λ x6 h7 => vK (aW x1 x6 (.bool false)) λ x8 => bK x8 (vK (gO r0 (ii 0)) λ x9 => vK (fE .i32 x9) λ x10 => some ((.tup [x10, (ii 1)]), h7)) (wK (aD E 197 [r0] h7) λ x11 h12 => vK (aH 0 x11) λ x13 => vK (aH 1 x11) λ x14 => some ((.tup [x13, x14]), h12))
def aYW : DC := (zs 2 [zX (.mv (.c (.int .i32 (.ofNat 0)))),zX (.mv (zk 0))] (zq (zs 4 [zM 0,zX (.bin .neq o4 (.c (.str []))),zM 5,zL 6 true 0,zG 6 true (.ixS o7 (zk 0)),zG 6 true (.bin .lss o8 (.c (.int .u8 (.ofNat 128)))),zX (.pick o6 o9 (.c (.bool false)))] (.cond fS (zs 11 [zM 0,zX (.ixS fY (zk 0)),zX (.conv .i32 fV),zT 2 13,zY 3 (.mv (zk 1))] .ret) (zr 15 [zM 0,zF 197 [jH],zT 14 16,zX (.ext 0 iP),zX (.ext 1 iP),zT 2 17,zT 3 18]))) .ret))
theorem bNh : oA E aYW R192 (aXU E) := λ σ h => by kernel_rfl
def bQo : DF := ⟨1, 19, aYW, R192⟩
def bLH : cD := oD (aXU E)
theorem bDN : SQ bQo bLH := λ E => oI (d := bQo) (bNh E) rfl
def bFh : List RV := [(.r p4)]
def aPv (E : bN) (h : H) : aV := some ((.int .i64 (.negSucc 0)), h)
def aYU : DC := (zs 4 [zX (.mv (.c (.int .i64 (.negSucc 0))))] .ret)
def aPu (E : bN) (r0 r1 r5 r7 r8 r10 : DV) (h : H) : aV := vK (bL r8 (ii 1)) λ x1 => vK (gO r0 x1) λ x2 => vK (bS x2 r7) λ x3 => bA x3 true (λ kk => kk r0 h) h λ x4 h5 => bA x3 true (λ kk => kk r8 h5) h5 λ x6 h7 => bA x3 true (λ kk => kk r8 h7) h7 λ x8 h9 => bA x3 true (λ kk => kk r5 h9) h9 λ x10 h11 => bA x3 true (λ kk => vK (bL x8 x10) λ v => kk v h11) h11 λ x12 h13 => bA x3 true (λ kk => vK (gV x4 (some x6) (some x12)) λ v => kk v h13) h13 λ x14 h15 => bA x3 true (λ kk => kk r1 h15) h15 λ x16 h17 => bA x3 true (λ kk => vK (bS x14 x16) λ v => kk v h17) h17 λ x18 h19 => vK (aW x3 x18 (.bool false)) λ x20 => bK x20 (some (r8, h19)) (vK (bL r8 (ii 1)) λ x21 => vK (bL r10 (ii 1)) λ x22 => none)
def aYS : DC := (zq (zs 78 [zM 0,zM 8,zX (.bin .add o79 (zk 1)),zX (.ixS o78 o80),zM 7,zX (.bin .eql o81 o82),zM 83,zL 84 true 0,zL 84 true 8,zL 84 true 8,zL 84 true 5,zG 84 true (.bin .add o87 o88),zG 84 true (.slS o85 (some o86) (some o89)),zL 84 true 1,zG 84 true (.bin .eql o90 o91),zX (.pick o84 o92 (.c (.bool false)))] (.cond o93 (zs 4 [zT 94 8,zM 94] .ret) .skip)) (zs 95 [zM 8,zX (.bin .add o95 (zk 1)),zT 8 96] (zs 97 [zM 10,zX (.bin .add o97 (zk 1)),zT 10 98] (zs 99 [zM 5,zX .bad,zX (.bin .leq o99 bCH),zM 101,zL 102 true 10,zL 102 true 8,zD ⟨(some bJf),(some (bCq,true)),(.c (.f 199 [bCG]))⟩,zD ⟨(some bJe),(some (bCq,true)),(.e (.bin .gtr bJF bCF))⟩,zY 107 (.pick aVe bCE (.c (.bool false)))] (.cond bCD (zs 108 [zM 0,zM 8,zX (.slS bJE (some bCC) none),zM 1,zF 198 [bJD,bCB],zT 12 112] (zq (zs 113 [zM 12,zX (.bin .geq bJC (zk 0))] (.cond bCA (zs 115 [zM 12,zM 8,zX (.bin .add bCz bJB),zT 4 117] .ret) .skip)) (zs 4 [zX (.mv (.c (.int .i64 (.negSucc 0))))] .ret))) (zs 118 [zM 5,zX .bad,zX (.bin .gtr o118 o119),zM 120,zL 121 true 10,zL 121 true 8,zG 121 true (.bin .shr bJA (.c (.int .u64 (.ofNat 4)))),zG 121 true (.bin .add (zk 4) o124),zG 121 true (.bin .geq o122 o125),zX (.pick o121 o126 (.c (.bool false))),zM 127,zL 128 true 8,zL 128 true 9,zG 128 true (.bin .lss o129 o130),zX (.pick o128 o131 (.c (.bool false)))] (.cond o132 (zs 133 [zM 0,zM 8,zX (.slS o133 (some o134) none),zM 1,zF 200 [o135,o136],zT 13 137] (zq (zs 138 [zM 13,zX (.bin .lss bCy (zk 0))] (.cond o139 (zs 4 [zX (.mv (.c (.int .i64 (.negSucc 0))))] .ret) .skip)) (zs 140 [zM 8,zM 13,zX (.bin .add o140 o141),zT 4 142] .ret))) .skip)))))))
def bRJ (r0 r1 r5 r6 r7 r9 : DV) (i2 : DV → DV → H → aV) (r8 r10 : DV) (h : H) : aV := vK (cR r8 r9) λ x1 => bK x1 (vK (gO r0 r8) λ x2 => vK (dC x2 r6) λ x3 => bK x3 (vK (bL r8 (ii 1)) λ x4 => vK (gV r0 (some x4) (some r9)) λ x5 => wK (aD E 173 [x5, r6] h) λ x6 h7 => vK (cR x6 (ii 0)) λ x8 => bK x8 (some ((.int .i64 (.negSucc 0)), h7)) (vK (bL x6 (ii 1)) λ x9 => vK (bL r8 x9) λ x10 => aPu E r0 r1 r5 r7 x10 r10 h7)) (aPu E r0 r1 r5 r7 r8 r10 h)) (aPv E h)
def aPh (r0 r1 r5 r6 r7 r9 : DV) (n : Nat) : DV → DV → H → aV := Nat.rec (motive := λ _ => DV → DV → H → aV) (λ _ _ _ => none) (λ _ i => bRJ E r0 r1 r5 r6 r7 r9 i) n
def aYT : DC := (.loop (zq (zs 57 [zM 8,zM 9,zX (.bin .lss o57 o58)] (.cond o59 .skip (.exit 1))) (.block 2 (zq (zs 60 [zM 0,zM 8,zX (.ixS o60 o61),zM 6,zX (.bin .neq o62 o63)] (.cond o64 (zs 65 [zM 0,zM 8,zX (.bin .add o66 (zk 1)),zM 9,zX (.slS o65 (some o67) (some o68)),zM 6,zF 173 [o69,o70],zT 11 71] (zq (zs 72 [zM 11,zX (.bin .lss o72 (zk 0))] (.cond o73 (zs 4 [zX (.mv (.c (.int .i64 (.negSucc 0))))] .ret) .skip)) (zr 74 [zM 8,zM 11,zX (.bin .add o75 (zk 1)),zX (.bin .add o74 o76),zT 8 77]))) .skip)) aYS))))
def aJz (r0 r1 : DV) (h : H) : aV := vK (cA r1) λ x1 => vK (bS x1 (ii 0)) λ x2 => bA x2 false (λ kk => kk r1 h) h λ x3 h4 => bA x2 false (λ kk => kk r0 h4) h4 λ x5 h6 => bA x2 false (λ kk => vK (bS x3 x5) λ v => kk v h6) h6 λ x7 h8 => vK (aW x2 (.bool true) x7) λ x9 => bK x9 (some ((ii 0), h8)) (vK (bS x1 (ii 1)) λ x10 => bK x10 (vK (gO r1 (ii 0)) λ x11 => wK (aD E 173 [r0, x11] h8) λ x12 h13 => some (x12, h13)) (vK (cA r0) λ x14 => vK (nS x1 x14) λ x15 => bK x15 (some ((.int .i64 (.negSucc 0)), h8)) (none)))
def aYV : DC := (zs 4 [zX (.mv (zk 0))] (zs 14 [zM 1,zX (.lenS iP),zT 5 15] (zq (.block 0 (zs 17 [zM 5,zX (.bin .eql iI (zk 0)),zM 18,zL 19 false 1,zL 19 false 0,zG 19 false (.bin .eql iS hM),zX (.pick iO (.c (.bool true)) iX),zT 16 23] (.cond hU (zs 4 [zX (.mv (zk 0))] .ret) (zs 25 [zM 5,zX (.bin .eql jY (zk 1)),zT 24 26] (.cond iN (zs 27 [zM 0,zM 1,zX (.ixS lL (zk 0)),zF 173 [lG,mK],zT 4 30] .ret) (zs 32 [zM 5,zM 0,zX (.lenS mF),zX (.bin .geq lF mE),zT 31 35] (.cond mV (zs 4 [zX (.mv (.c (.int .i64 (.negSucc 0))))] .ret) (zs 37 [zM 5,zX .bad,zX (.bin .leq oP sU),zM 39,zL 40 true 0,zG 40 true (.lenS uE),zG 40 true (.bin .leq uJ (zk 64)),zX (.pick qT uD (.c (.bool false))),zT 36 44] (.cond mD (zs 45 [zM 0,zM 1,zF 198 [xY,uL],zT 4 47] .ret) .skip))))))))) (zs 48 [zM 1,zX (.ixS o48 (zk 0)),zT 6 49] (zs 50 [zM 1,zX (.ixS o50 (zk 1)),zT 7 51] (zs 8 [zX (.mv (zk 0))] (zs 52 [zM 0,zX (.lenS o52),zM 5,zX (.bin .sub o53 o54),zX (.bin .add o55 (zk 1)),zT 9 56] (zs 10 [zX (.mv (zk 0))] (zq (.block 1 aYT) aYU)))))))))
theorem bNf : Is E aYU (bO bFh) (λ σ h => aPv E h) := λ σ h => by kernel_rfl
abbrev aXs : gT (DV × H) := (bM 1 (cG (λ σ h => aPv E h) (bO bFh)))
abbrev bMf (n2 : Nat) : gT (DV × H) := (cG (λ σ h => (aPh E (σ p0) (σ p1) (σ p5) (σ p6) (σ p7) (σ p9) n2) (σ p8) (σ p10) h) (aXs E))
theorem bNd (n2 : Nat) : Is E aYS (bM 2 (bMf E n2)) (λ σ h => aPu E (σ p0) (σ p1) (σ p5) (σ p7) (σ p8) (σ p10) h) := λ σ h => by kernel_rfl
theorem bNe : Is E aYT (aXs E) (λ σ h => aPh E (σ p0) (σ p1) (σ p5) (σ p6) (σ p7) (σ p9) aT (σ p8) (σ p10) h) := Is.loop (λ n2 σ h => aPh E (σ p0) (σ p1) (σ p5) (σ p6) (σ p7) (σ p9) n2 (σ p8) (σ p10) h) (by kernel_rfl) λ n2 => Is.as (Is.seq (Is.block (Is.seq (bNd E n2) (Is.leaf _))) (Is.leaf _)) λ σ h => by kernel_rfl
theorem bNg : mW E aYV bFh (aJz E) := Is.as (Is.seq (Is.seq (Is.seq (Is.seq (Is.seq (Is.seq (Is.seq (Is.seq (Is.seq (bNf E) (Is.block (bNe E))) (Is.leaf _)) (Is.leaf _)) (Is.leaf _)) (Is.leaf _)) (Is.leaf _)) (Is.leaf _)) (Is.leaf _)) (Is.leaf _)) λ σ h => by kernel_rfl
def bQn : DF := ⟨2, 143, aYV, bFh⟩
def aTK : cD := mX (aJz E)
theorem bDM : SQ bQn aTK := λ E => nF (d := bQn) (bNg E) rfl
def R197 : List RV := [(.r p2),(.r p3)]
def aXT (E : bN) (r0 : DV) (h : H) : aV := vK (cA r0) λ x1 => vK (cR x1 (ii 1)) λ x2 => bK x2 (some ((.tup [(.int .i32 (.ofNat 65533)), (ii 0)]), h)) (vK (gO r0 (ii 0)) λ x3 => none)
def aYR : DC := (zs 2 [zX (.mv (.c (.int .i32 (.ofNat 0)))),zX (.mv (zk 0))] (zs 13 [zM 0,zX (.lenS gA),zT 4 14] (zq (zs 15 [zM 4,zX (.bin .lss jH (zk 1))] (.cond hU (zs 2 [zX (.mv (.c (.int .i32 (.ofNat 65533)))),zX (.mv (zk 0))] .ret) .skip)) (zs 17 [zM 0,zX (.ixS iI (zk 0)),zT 5 18] (zs 19 [zM 5,zX .bad,zX (.ld iS),zT 6 21] (zq (zs 22 [zM 6,zX (.bin .geq iX (.c (.int .u8 (.ofNat 240))))] (.cond gW (zs 24 [zM 6,zX (.conv .i32 iN),zX (.bin .shl jY (.c (.int .u64 (.ofNat 31)))),zX (.bin .shr lM (.c (.int .u64 (.ofNat 31)))),zT 7 27] (zs 28 [zM 0,zX (.ixS lL (zk 0)),zX (.conv .i32 mK),zM 7,zX (.bin .andNot lR mV),zM 7,zX (.bin .and (.c (.int .i32 (.ofNat 65533))) mF),zX (.bin .or lF mE),zT 2 35,zY 3 (.mv (zk 1))] .ret)) .skip)) (zs 36 [zM 6,zX (.bin .and mD (.c (.int .u8 (.ofNat 7)))),zX (.conv .i64 oP),zT 8 38] (zs 39 [zM 6,zX (.bin .shr rN (.c (.int .u64 (.ofNat 4)))),zX .bad,zX (.ldN 2 uE),zY 9 (.alc 2 2 (.list [(.int .u8 (.ofNat 0)),(.int .u8 (.ofNat 0))])),zW (.st 2 o9 uJ)] (zq (zs 43 [zM 4,zM 8,zX (.bin .lss uD rT)] (.cond xY (zs 2 [zX (.mv (.c (.int .i32 (.ofNat 65533)))),zX (.mv (zk 1))] .ret) .skip)) (zs 46 [zM 0,zX (.ixS uL (zk 1)),zT 10 47] (zq (zs 48 [zM 10,zX (.fa 0 o9),zX (.ld o49),zX (.bin .lss o48 o50),zM 51,zG 52 false (.fa 1 o9),zG 52 false (.ld o53),zL 52 false 10,zG 52 false (.bin .lss o54 o55),zX (.pick o52 (.c (.bool true)) o56)] (.cond o57 (zs 2 [zX (.mv (.c (.int .i32 (.ofNat 65533)))),zX (.mv (zk 1))] .ret) .skip)) (zq (zs 58 [zM 8,zX (.bin .leq o58 (zk 2))] (.cond o59 (zs 60 [zM 5,zX (.bin .and o60 (.c (.int .u8 (.ofNat 31)))),zX (.conv .i32 o61),zX (.bin .shl o62 (.c (.int .u64 (.ofNat 6)))),zM 10,zX (.bin .and o64 (.c (.int .u8 (.ofNat 63)))),zX (.conv .i32 o65),zX (.bin .or o63 o66),zT 2 67,zY 3 (.mv (zk 2))] .ret) .skip)) (zs 68 [zM 0,zX (.ixS o68 (zk 2)),zT 11 69] (zq (zs 70 [zM 11,zX (.bin .lss o70 (.c (.int .u8 (.ofNat 128)))),zM 71,zL 72 false 11,zG 72 false (.bin .lss (.c (.int .u8 (.ofNat 191))) o73),zX (.pick o72 (.c (.bool true)) o74)] (.cond o75 (zs 2 [zX (.mv (.c (.int .i32 (.ofNat 65533)))),zX (.mv (zk 1))] .ret) .skip)) (zq (zs 76 [zM 8,zX (.bin .leq o76 (zk 3))] (.cond o77 (zs 78 [zM 5,zX (.bin .and o78 (.c (.int .u8 (.ofNat 15)))),zX (.conv .i32 o79),zX (.bin .shl o80 (.c (.int .u64 (.ofNat 12)))),zM 10,zX (.bin .and o82 (.c (.int .u8 (.ofNat 63)))),zX (.conv .i32 o83),zX (.bin .shl o84 (.c (.int .u64 (.ofNat 6)))),zX (.bin .or o81 o85),zM 11,zX (.bin .and o87 (.c (.int .u8 (.ofNat 63)))),zX (.conv .i32 o88),zX (.bin .or o86 o89),zT 2 90,zY 3 (.mv (zk 3))] .ret) .skip)) (zs 91 [zM 0,zX (.ixS o91 (zk 3)),zT 12 92] (zq (zs 93 [zM 12,zX (.bin .lss o93 (.c (.int .u8 (.ofNat 128)))),zM 94,zL 95 false 12,zG 95 false (.bin .lss (.c (.int .u8 (.ofNat 191))) o96),zX (.pick o95 (.c (.bool true)) o97)] (.cond o98 (zs 2 [zX (.mv (.c (.int .i32 (.ofNat 65533)))),zX (.mv (zk 1))] .ret) .skip)) (zs 99 [zM 5,zX (.bin .and o99 (.c (.int .u8 (.ofNat 7)))),zX (.conv .i32 bCH),zX (.bin .shl o101 (.c (.int .u64 (.ofNat 18)))),zM 10,zX (.bin .and bJF (.c (.int .u8 (.ofNat 63)))),zX (.conv .i32 bCG),zX (.bin .shl bCF (.c (.int .u64 (.ofNat 12)))),zX (.bin .or aVe bCE),zM 11,zX (.bin .and bJE (.c (.int .u8 (.ofNat 63)))),zX (.conv .i32 bCC),zX (.bin .shl bJD (.c (.int .u64 (.ofNat 6)))),zX (.bin .or bCD bCB),zM 12,zX (.bin .and bJC (.c (.int .u8 (.ofNat 63)))),zX (.conv .i32 bCA),zX (.bin .or o112 bCz),zT 2 116,zY 3 (.mv (zk 4))] .ret))))))))))))))))))
theorem bNc : oA E aYR R197 (aXT E) := λ σ h => by kernel_rfl
def bQm : DF := ⟨1, 117, aYR, R197⟩
def bLG : cD := oD (aXT E)
theorem bDL : SQ bQm bLG := λ E => oI (d := bQm) (bNc E) rfl
def R199 : List RV := [(.r p2)]
def aXS (E : bN) (r0 : DV) (h : H) : aV := vK (bL r0 (ii 16)) λ x1 => vK (aPU x1 (ii 8)) λ x2 => some (x2, h)
def aYQ : DC := (zs 2 [zX (.mv (zk 0))] (zs 3 [zM 0,zX (.bin .add o3 (zk 16)),zX (.bin .quo o4 (zk 8)),zT 2 5] .ret))
theorem bNb : oA E aYQ R199 (aXS E) := λ σ h => by kernel_rfl
def bQl : DF := ⟨1, 6, aYQ, R199⟩
def bLF : cD := oD (aXS E)
theorem bDK : SQ bQl bLF := λ E => oI (d := bQl) (bNb E) rfl
def aTS : List RV := [(.r p4)]
def aPs (E : bN) (h : H) : aV := some ((.int .i64 (.negSucc 0)), h)
def aYM : DC := (zs 4 [zX (.mv (.c (.int .i64 (.negSucc 0))))] .ret)
def bRH (r0 r1 r5 r6 r7 : DV) (i4 : DV → DV → H → aV) (r8 r10 : DV) (h : H) : aV := vK (cA r0) λ x1 => vK (cR r10 x1) λ x2 => bK x2 (vK (aCJ r8 (.int .u32 (.ofNat 16777619))) λ x3 => vK (gO r0 r10) λ x4 => vK (fE .u32 x4) λ x5 => vK (bL x3 x5) λ x6 => vK (fB r10 r7) λ x7 => vK (gO r0 x7) λ x8 => vK (fE .u32 x8) λ x9 => vK (aCJ r6 x9) λ x10 => vK (fB x6 x10) λ x11 => vK (bL r10 (ii 1)) λ x12 => vK (bS x11 r5) λ x13 => bA x13 true (λ kk => kk r0 h) h λ x14 h15 => bA x13 true (λ kk => kk x12 h15) h15 λ x16 h17 => bA x13 true (λ kk => kk r7 h17) h17 λ x18 h19 => bA x13 true (λ kk => vK (fB x16 x18) λ v => kk v h19) h19 λ x20 h21 => bA x13 true (λ kk => kk x12 h21) h21 λ x22 h23 => bA x13 true (λ kk => vK (gV x14 (some x20) (some x22)) λ v => kk v h23) h23 λ x24 h25 => bA x13 true (λ kk => kk r1 h25) h25 λ x26 h27 => bA x13 true (λ kk => vK (bS x24 x26) λ v => kk v h27) h27 λ x28 h29 => vK (aW x13 x28 (.bool false)) λ x30 => bK x30 (vK (fB x12 r7) λ x31 => some (x31, h29)) (i4 x11 x12 h29)) (aPs E h)
def aPf (r0 r1 r5 r6 r7 : DV) (n : Nat) : DV → DV → H → aV := Nat.rec (motive := λ _ => DV → DV → H → aV) (λ _ _ _ => none) (λ _ i => bRH E r0 r1 r5 r6 r7 i) n
def aYL : DC := (.loop (zq (zs 41 [zM 10,zM 0,zX (.lenS uJ),zX (.bin .lss uE uD)] (.cond rT .skip (.exit 2))) (.block 3 (zs 45 [zM 8,zX (.bin .mul xY (.c (.int .u32 (.ofNat 16777619)))),zT 8 46] (zs 47 [zM 8,zM 0,zM 10,zX (.ixS o48 o49),zX (.conv .u32 o50),zX (.bin .add xX o51),zT 8 52] (zs 53 [zM 8,zM 6,zM 0,zM 10,zM 7,zX (.bin .sub o56 o57),zX (.ixS o55 o58),zX (.conv .u32 o59),zX (.bin .mul o54 o60),zX (.bin .sub o53 o61),zT 8 62] (zs 63 [zM 10,zX (.bin .add o63 (zk 1)),zT 10 64] (zs 65 [zM 8,zM 5,zX (.bin .eql o65 o66),zM 67,zL 68 true 0,zL 68 true 10,zL 68 true 7,zG 68 true (.bin .sub o70 o71),zL 68 true 10,zG 68 true (.slS o69 (some o72) (some o73)),zL 68 true 1,zG 68 true (.bin .eql o74 o75),zX (.pick o68 o76 (.c (.bool false)))] (.cond o77 (zs 78 [zM 10,zM 7,zX (.bin .sub o78 o79),zT 4 80] .ret) .skip)))))))))
def aPt (r0 r1 r5 r6 r7 r8 : DV) (h : H) : aV := vK (bS r8 r5) λ x1 => bA x1 true (λ kk => kk r0 h) h λ x2 h3 => bA x1 true (λ kk => kk r7 h3) h3 λ x4 h5 => bA x1 true (λ kk => vK (gV x2 none (some x4)) λ v => kk v h5) h5 λ x6 h7 => bA x1 true (λ kk => kk r1 h7) h7 λ x8 h9 => bA x1 true (λ kk => vK (bS x6 x8) λ v => kk v h9) h9 λ x10 h11 => vK (aW x1 x10 (.bool false)) λ x12 => bK x12 (some ((ii 0), h11)) (aPf E r0 r1 r5 r6 r7 aT r8 r7 h11)
def aYO : DC := (zq (zs 30 [zM 8,zM 5,zX (.bin .eql lR mV),zM 32,zL 33 true 0,zL 33 true 7,zG 33 true (.slS mE none (some oW)),zL 33 true 1,zG 33 true (.bin .eql mD oP),zX (.pick mF sU (.c (.bool false)))] (.cond rN (zs 4 [zX (.mv (zk 0))] .ret) .skip)) (zq (zs 10 [zT 40 7,zM 40] (.block 2 aYL)) aYM))
def bRI (r0 r1 r5 r6 r7 : DV) (i2 : DV → DV → H → aV) (r8 r9 : DV) (h : H) : aV := vK (cR r9 r7) λ x1 => bK x1 (vK (aCJ r8 (.int .u32 (.ofNat 16777619))) λ x2 => vK (gO r0 r9) λ x3 => vK (fE .u32 x3) λ x4 => vK (bL x2 x4) λ x5 => vK (bL r9 (ii 1)) λ x6 => i2 x5 x6 h) (aPt E r0 r1 r5 r6 r7 r8 h)
def aPg (r0 r1 r5 r6 r7 : DV) (n : Nat) : DV → DV → H → aV := Nat.rec (motive := λ _ => DV → DV → H → aV) (λ _ _ _ => none) (λ _ i => bRI E r0 r1 r5 r6 r7 i) n
def aYN : DC := (.loop (zq (zs 18 [zM 9,zM 7,zX (.bin .lss iD iO)] (.cond iS .skip (.exit 0))) (zq (.block 1 (zr 23 [zM 8,zX (.bin .mul gW (.c (.int .u32 (.ofNat 16777619)))),zM 0,zM 9,zX (.ixS jY lM),zX (.conv .u32 lG),zX (.bin .add iN lL),zT 8 29])) (zr 21 [zM 9,zX (.bin .add hM (zk 1)),zT 9 22]))))
def aXR (r0 r1 : DV) (h : H) : aV := wK (aD E 201 [r1] h) λ x1 h2 => vK (aH 0 x1) λ x3 => vK (aH 1 x1) λ x4 => vK (cA r1) λ x5 => aPg E r0 r1 x3 x4 x5 aT (.int .u32 (.ofNat 0)) (ii 0) h2
def aYP : DC := (zs 4 [zX (.mv (zk 0))] (zs 12 [zM 1,zF 201 [fV],zT 11 13,zX (.ext 0 fY),zX (.ext 1 fY),zT 5 14,zT 6 15] (zs 16 [zM 1,zX (.lenS hU),zT 7 17] (zs 8 [zX (.mv (.c (.int .u32 (.ofNat 0))))] (zq (zs 9 [zX (.mv (zk 0))] (.block 0 aYN)) aYO)))))
theorem bMX : Is E aYM (bO aTS) (λ σ h => aPs E h) := λ σ h => by kernel_rfl
abbrev bMe : gT (DV × H) := (bM 2 (cG (λ σ h => aPs E h) (bO aTS)))
theorem bMW : Is E aYL (bMe E) (λ σ h => aPf E (σ p0) (σ p1) (σ p5) (σ p6) (σ p7) aT (σ p8) (σ p10) h) := Is.loop (λ n4 σ h => aPf E (σ p0) (σ p1) (σ p5) (σ p6) (σ p7) n4 (σ p8) (σ p10) h) (by kernel_rfl) λ n4 => Is.as (Is.leaf _) λ σ h => by kernel_rfl
theorem bMZ : Is E aYO (bO aTS) (λ σ h => aPt E (σ p0) (σ p1) (σ p5) (σ p6) (σ p7) (σ p8) h) := Is.as (Is.seq (Is.seq (bMX E) (Is.seq (Is.block (bMW E)) (Is.leaf _))) (Is.leaf _)) λ σ h => by kernel_rfl
abbrev bMd : gT (DV × H) := (cG (λ σ h => aPt E (σ p0) (σ p1) (σ p5) (σ p6) (σ p7) (σ p8) h) (bO aTS))
theorem bMY : Is E aYN (bM 0 (bMd E)) (λ σ h => aPg E (σ p0) (σ p1) (σ p5) (σ p6) (σ p7) aT (σ p8) (σ p9) h) := Is.loop (λ n2 σ h => aPg E (σ p0) (σ p1) (σ p5) (σ p6) (σ p7) n2 (σ p8) (σ p9) h) (by kernel_rfl) λ n2 => Is.as (Is.leaf _) λ σ h => by kernel_rfl
theorem bNa : mW E aYP aTS (aXR E) := Is.as (Is.seq (Is.seq (Is.seq (Is.seq (Is.seq (bMZ E) (Is.seq (Is.block (bMY E)) (Is.leaf _))) (Is.leaf _)) (Is.leaf _)) (Is.leaf _)) (Is.leaf _)) λ σ h => by kernel_rfl
def bQk : DF := ⟨2, 81, aYP, aTS⟩
def bLE : cD := mX (aXR E)
theorem bDJ : SQ bQk bLE := λ E => nF (d := bQk) (bNa E) rfl
def aTR : List RV := [(.r p2),(.r p3)]
def aPq (E : bN) (r4 r6 : DV) (h : H) : aV := some ((.tup [r4, r6]), h)
def aYH : DC := (zs 37 [zM 4,zM 6,zT 2 37,zT 3 38] .ret)
def aPp (E : bN) (i4 : DV → DV → DV → H → aV) (r6 r7 r8 : DV) (h : H) : aV := vK (yE r8 (.int .u64 (.ofNat 1))) λ x1 => i4 r6 r7 x1 h
def aYF : DC := (zr 26 [zM 8,zX (.bin .shr lM (.c (.int .u64 (.ofNat 1)))),zT 8 27])
def aPo (i4 : DV → DV → DV → H → aV) (r6 r7 r8 : DV) (h : H) : aV := vK (aCJ r7 r7) λ x1 => aPp E i4 r6 x1 r8 h
def aYE : DC := (zr 34 [zM 7,zM 7,zX (.bin .mul mE oW),zT 7 36])
def bRF (r4 : DV) (i4 : DV → DV → DV → H → aV) (r6 r7 r8 : DV) (h : H) : aV := vK (eJ r8 (ii 0)) λ x1 => bK x1 (vK (aEc r8 (ii 1)) λ x2 => vK (dC x2 (ii 0)) λ x3 => bK x3 (vK (aCJ r6 r7) λ x4 => aPo E i4 x4 r7 r8 h) (aPo E i4 r6 r7 r8 h)) (aPq E r4 r6 h)
def aAb (r4 : DV) (n : Nat) : DV → DV → DV → H → aV := Nat.rec (motive := λ _ => DV → DV → DV → H → aV) (λ _ _ _ _ => none) (λ _ i => bRF E r4 i) n
def aYG : DC := (.loop (zq (zs 24 [zM 8,zX (.bin .gtr iN (zk 0))] (.cond jY .skip (.exit 2))) (zq (.block 3 (zq (zs 28 [zM 8,zX (.bin .and lL (zk 1)),zX (.bin .neq mK (zk 0))] (.cond lR (zr 31 [zM 6,zM 7,zX (.bin .mul mV lF),zT 6 33]) .skip)) aYE)) aYF)))
def aPr (r0 r4 : DV) (h : H) : aV := vK (cA r0) λ x1 => aAb E r4 aT (.int .u32 (.ofNat 1)) (.int .u32 (.ofNat 16777619)) x1 h
def aYJ : DC := (zs 6 [zX (.mv (.c (.int .u32 (.ofNat 1)))),zX (.mv (.c (.int .u32 (.ofNat 16777619))))] (zq (zs 22 [zM 0,zX (.lenS iX),zT 8 23] (.block 2 aYG)) aYH))
def bRG (r0 : DV) (i2 : DV → DV → H → aV) (r4 r5 : DV) (h : H) : aV := vK (cA r0) λ x1 => vK (cR r5 x1) λ x2 => bK x2 (vK (aCJ r4 (.int .u32 (.ofNat 16777619))) λ x3 => vK (gO r0 r5) λ x4 => vK (fE .u32 x4) λ x5 => vK (bL x3 x5) λ x6 => vK (bL r5 (ii 1)) λ x7 => i2 x6 x7 h) (aPr E r0 r4 h)
def aPe (r0 : DV) (n : Nat) : DV → DV → H → aV := Nat.rec (motive := λ _ => DV → DV → H → aV) (λ _ _ _ => none) (λ _ i => bRG E r0 i) n
def aYI : DC := (.loop (zq (zs 9 [zM 5,zM 0,zX (.lenS fS),zX (.bin .lss o9 fY)] (.cond fV .skip (.exit 0))) (zq (.block 1 (zr 15 [zM 4,zX (.bin .mul jH (.c (.int .u32 (.ofNat 16777619)))),zM 0,zM 5,zX (.ixS iI iD),zX (.conv .u32 iO),zX (.bin .add hU iS),zT 4 21])) (zr 13 [zM 5,zX (.bin .add gA (zk 1)),zT 5 14]))))
def aXQ (r0 : DV) (h : H) : aV := aPe E r0 aT (.int .u32 (.ofNat 0)) (ii 0) h
def aYK : DC := (zs 2 [zX (.mv (.c (.int .u32 (.ofNat 0)))),zX (.mv (.c (.int .u32 (.ofNat 0))))] (zs 4 [zX (.mv (.c (.int .u32 (.ofNat 0))))] (zq (zs 5 [zX (.mv (zk 0))] (.block 0 aYI)) aYJ)))
theorem bMS : Is E aYH (bO aTR) (λ σ h => aPq E (σ p4) (σ p6) h) := λ σ h => by kernel_rfl
abbrev aXr : gT (DV × H) := (cG (λ σ h => aPq E (σ p4) (σ p6) h) (bO aTR))
abbrev aXq (n4 : Nat) : gT (DV × H) := (cG (λ σ h => (aAb E (σ p4) n4) (σ p6) (σ p7) (σ p8) h) (bM 2 (aXr E)))
theorem bMQ (n4 : Nat) : Is E aYF (aXq E n4) (λ σ h => aPp E (aAb E (σ p4) n4) (σ p6) (σ p7) (σ p8) h) := λ σ h => by kernel_rfl
abbrev bMc (n4 : Nat) : gT (DV × H) := (cG (λ σ h => aPp E (aAb E (σ p4) n4) (σ p6) (σ p7) (σ p8) h) (aXq E n4))
theorem bMP (n4 : Nat) : Is E aYE (bM 3 (bMc E n4)) (λ σ h => aPo E (aAb E (σ p4) n4) (σ p6) (σ p7) (σ p8) h) := λ σ h => by kernel_rfl
theorem bMR : Is E aYG (bM 2 (aXr E)) (λ σ h => aAb E (σ p4) aT (σ p6) (σ p7) (σ p8) h) := Is.loop (λ n4 σ h => aAb E (σ p4) n4 (σ p6) (σ p7) (σ p8) h) (by kernel_rfl) λ n4 => Is.as (Is.seq (Is.seq (bMQ E n4) (Is.block (Is.seq (bMP E n4) (Is.leaf _)))) (Is.leaf _)) λ σ h => by kernel_rfl
theorem bMU : Is E aYJ (bO aTR) (λ σ h => aPr E (σ p0) (σ p4) h) := Is.as (Is.seq (Is.seq (bMS E) (Is.seq (Is.block (bMR E)) (Is.leaf _))) (Is.leaf _)) λ σ h => by kernel_rfl
abbrev bFE : gT (DV × H) := (cG (λ σ h => aPr E (σ p0) (σ p4) h) (bO aTR))
theorem bMT : Is E aYI (bM 0 (bFE E)) (λ σ h => aPe E (σ p0) aT (σ p4) (σ p5) h) := Is.loop (λ n2 σ h => aPe E (σ p0) n2 (σ p4) (σ p5) h) (by kernel_rfl) λ n2 => Is.as (Is.leaf _) λ σ h => by kernel_rfl
theorem bMV : oA E aYK aTR (aXQ E) := Is.as (Is.seq (Is.seq (Is.seq (bMU E) (Is.seq (Is.block (bMT E)) (Is.leaf _))) (Is.leaf _)) (Is.leaf _)) λ σ h => by kernel_rfl
def bQj : DF := ⟨1, 39, aYK, aTR⟩
def bLD : cD := oD (aXQ E)
theorem bDI : SQ bQj bLD := λ E => oI (d := bQj) (bMV E) rfl
def R217 : List RV := [(.r p2)]
def aJy (E : bN) (r0 : DV) (h : H) : aV := dT r0 h λ x1 h2 => some ((ii 2), h2)
def aYD : DC := (zs 1 [zX (.box o0),zX (.mv (zk 0))] (zs 2 [zX (.mv (zk 2))] .ret))
theorem bMO : oA E aYD R217 (aJy E) := λ σ h => by kernel_rfl
def bQi : DF := ⟨1, 3, aYD, R217⟩
def aWx : cD := oD (aJy E)
theorem bDH : SQ bQi aWx := λ E => oI (d := bQi) (bMO E) rfl
def R218 : List RV := [(.r p2)]
def aJx (r0 : DV) (h : H) : aV := dT r0 h λ x1 h2 => vK (aF 0 x1) λ x3 => vK (aG h2.get x3) λ x4 => wK (aD E 97 [x4] h2) λ x5 h6 => some (x5, h6)
def aYC : DC := (zs 1 [zX (.box o0),zX (.mv (zk 0))] (zs 3 [zX (.fa 0 o1),zX (.ld o3),zF 97 [o4],zT 2 5] .ret))
theorem bMN : oA E aYC R218 (aJx E) := λ σ h => by kernel_rfl
def bQh : DF := ⟨1, 6, aYC, R218⟩
def aWw : cD := oD (aJx E)
theorem bDG : SQ bQh aWw := λ E => oI (d := bQh) (bMN E) rfl
def R219 : List RV := [(.r p2)]
def aJw (r0 : DV) (h : H) : aV := dT r0 h λ x1 h2 => vK (aF 0 x1) λ x3 => vK (aG h2.get x3) λ x4 => wK (aD E 220 [x4] h2) λ x5 h6 => some (x5, h6)
def aYB : DC := (zs 1 [zX (.box o0),zX (.mv (.c (.str [])))] (zs 3 [zX (.fa 0 o1),zX (.ld o3),zF 220 [o4],zT 2 5] .ret))
theorem bMM : oA E aYB R219 (aJw E) := λ σ h => by kernel_rfl
def bQg : DF := ⟨1, 6, aYB, R219⟩
def aWv : cD := oD (aJw E)
theorem bDF : SQ bQg aWv := λ E => oI (d := bQg) (bMM E) rfl
def bFg : List RV := [(.r p2)]
def aJu (r3 : DV) (h : H) : aV := wK (aD E 52 [r3] h) λ x1 h2 => vK (aH 0 x1) λ x3 => vK (aH 1 x1) λ x4 => some (x3, h2)
def aYz : DC := (zs 37 [zM 3,zF 52 [oP],zT 36 38,zX (.ext 0 mD),zX (.ext 1 mD),zT 6 39,zT 7 40] (zs 2 [zT 41 6,zM 41] .ret))
def aFK (r3 r21 r22 : DV) (i2 : DV → H → aV) (r23 : DV) (h : H) : aV := vK (cR r23 r22) λ x1 => bK x1 (vK (bZ 2 r21 r23) λ x2 => vK (aK 2 h.get x2) λ x3 => dZ 2 2 (.list [(.str []), (ii 0)]) h λ x4 h5 => wK (bR 2 x4 x3 h5) λ x6 h7 => vK (aF 0 x4) λ x8 => vK (aG h7.get x8) λ x9 => wK (aD E 51 [r3, x9] h7) λ x10 h11 => vK (aF 1 x4) λ x12 => vK (aG h11.get x12) λ x13 => wK (aD E 50 [r3, x13] h11) λ x14 h15 => vK (bL r23 (ii 1)) λ x16 => i2 x16 h15) (aJu E r3 h)
def aCl (r3 r21 r22 : DV) (n : Nat) : DV → H → aV := Nat.rec (motive := λ _ => DV → H → aV) (λ _ _ => none) (λ _ i => aFK E r3 r21 r22 i) n
def aYy : DC := (.loop (zs 24 [zX (.bin .lss gW iX)] (zq (.cond iN .skip (.exit 0)) (zq (.block 1 (zs 25 [zX (.iaS 2 hM gW),zX (.ldN 2 jY),zY 5 (.alc 2 2 (.list [(.str []),(.int .i64 (.ofNat 0))])),zW (.st 2 o5 lM)] (zs 27 [zM 3,zX (.fa 0 o5),zX (.ld lL),zF 51 [lG,mK]] (zr 31 [zM 3,zX (.fa 1 o5),zX (.ld lF),zF 50 [mV,mF]])))) (zr 23 [zY 35 (.bin .add gW (zk 1)),zM 35])))))
def aJv (r0 : DV) (h : H) : aV := vK (dX .ptr false h.get r0 .nilp) λ x1 => bK x1 (some ((.str []), h)) (wK (aD E 48 [(ii 65536)] h) λ x2 h3 => vK (aM r0) λ x4 => vK (aF 0 x4) λ x5 => vK (aG h3.get x5) λ x6 => vK (cB x6) λ x7 => wK (aD E 50 [x2, x7] h3) λ x8 h9 => vK (aM r0) λ x10 => vK (aF 0 x10) λ x11 => vK (aG h9.get x11) λ x12 => vK (cB x12) λ x13 => aCl E x2 x12 x13 aT (ii 0) h9)
def aYA : DC := (zs 2 [zX (.mv (.c (.str [])))] (zq (zs 8 [zM 0,zX (.eqv .ptr false o8 (.c .nilp))] (.cond o9 (zs 2 [zX (.mv (.c (.str [])))] .ret) .skip)) (zs 10 [zF 48 [(zk 65536)],zT 3 10] (zs 11 [zM 3,zM 0,zX (.nilchk fV),zX (.fa 0 gA),zX (.ld iP),zX (.lenL jH),zF 50 [fY,hU]] (zq (zs 18 [zM 0,zX (.nilchk iD),zX (.fa 0 iO),zX (.ld iS),zX (.lenL hM),zX (.mv (zk 0))] (.block 0 aYy)) aYz)))))
theorem bMK : Is E aYz (bO bFg) (λ σ h => aJu E (σ p3) h) := λ σ h => by kernel_rfl
abbrev bMb : gT (DV × H) := (cG (λ σ h => aJu E (σ p3) h) (bO bFg))
theorem bMJ : Is E aYy (bM 0 (bMb E)) (λ σ h => aCl E (σ p3) (σ p21) (σ p22) aT (σ p23) h) := Is.loop (λ n2 σ h => aCl E (σ p3) (σ p21) (σ p22) n2 (σ p23) h) (by kernel_rfl) λ n2 => Is.as (Is.leaf _) λ σ h => by kernel_rfl
theorem bML : oA E aYA bFg (aJv E) := Is.as (Is.seq (Is.seq (Is.seq (Is.seq (Is.seq (bMK E) (Is.seq (Is.block (bMJ E)) (Is.leaf _))) (Is.leaf _)) (Is.leaf _)) (Is.leaf _)) (Is.leaf _)) λ σ h => by kernel_rfl
def bQf : DF := ⟨1, 42, aYA, bFg⟩
def aWu : cD := oD (aJv E)
theorem bDE : SQ bQf aWu := λ E => oI (d := bQf) (bML E) rfl
def R221 : List RV := [(.r p2)]
def aXO (E : bN) (h : H) : aV := some ((ii 1), h)
def aYx : DC := (zs 2 [zX (.mv (zk 0))] (zs 2 [zX (.mv (zk 1))] .ret))
theorem bMI : oA E aYx R221 (λ _ h => aXO E h) := λ σ h => by kernel_rfl
def bQe : DF := ⟨1, 3, aYx, R221⟩
def bDD : cD := oD (λ _ h => aXO E h)
theorem bDC : SQ bQe bDD := λ E => oI (d := bQe) (bMI E) rfl
def R222 : List RV := [(.r p2)]
def aJt (E : bN) (r0 : DV) (h : H) : aV := vK (aM r0) λ x1 => vK (aF 0 x1) λ x2 => vK (aG h.get x2) λ x3 => vK (cA x3) λ x4 => some (x4, h)
def aYw : DC := (zs 2 [zX (.mv (zk 0))] (zs 3 [zM 0,zX (.nilchk o3),zX (.fa 0 o4),zX (.ld o5),zX (.lenS o6),zT 2 7] .ret))
theorem bMH : oA E aYw R222 (aJt E) := λ σ h => by kernel_rfl
def bQd : DF := ⟨1, 8, aYw, R222⟩
def aWt : cD := oD (aJt E)
theorem bDB : SQ bQd aWt := λ E => oI (d := bQd) (bMH E) rfl
def R223 : List RV := [(.r p2)]
def aJs (E : bN) (r0 : DV) (h : H) : aV := vK (aM r0) λ x1 => vK (aF 0 x1) λ x2 => vK (aG h.get x2) λ x3 => some (x3, h)
def aYv : DC := (zs 2 [zX (.mv (.c (.str [])))] (zs 3 [zM 0,zX (.nilchk o3),zX (.fa 0 o4),zX (.ld o5),zT 2 6] .ret))
theorem bMG : oA E aYv R223 (aJs E) := λ σ h => by kernel_rfl
def bQc : DF := ⟨1, 7, aYv, R223⟩
def aWs : cD := oD (aJs E)
theorem bDA : SQ bQc aWs := λ E => oI (d := bQc) (bMG E) rfl
def fs2 : List FD := [⟨159, bQG, bLP⟩, ⟨160, bQF, bLO⟩, ⟨161, bQE, aWF⟩, ⟨162, bQD, aWE⟩, ⟨163, bQC, aTL⟩, ⟨164, bQB, aWD⟩, ⟨166, bQA, bLN⟩, ⟨169, bQz, aWC⟩, ⟨170, bQy, aWB⟩, ⟨171, bQx, bLM⟩, ⟨172, bQw, aWA⟩, ⟨173, bQv, aJq⟩, ⟨174, bQu, bLL⟩, ⟨181, bQt, bLK⟩, ⟨182, bQs, aWz⟩, ⟨183, bQr, aWy⟩, ⟨185, bQq, bLJ⟩, ⟨191, bQp, bLI⟩, ⟨192, bQo, bLH⟩, ⟨194, bQn, aTK⟩, ⟨197, bQm, bLG⟩, ⟨199, bQl, bLF⟩, ⟨200, bQk, bLE⟩, ⟨201, bQj, bLD⟩, ⟨217, bQi, aWx⟩, ⟨218, bQh, aWw⟩, ⟨219, bQg, aWv⟩, ⟨220, bQf, aWu⟩, ⟨221, bQe, bDD⟩, ⟨222, bQd, aWt⟩, ⟨223, bQc, aWs⟩]
theorem bJJ : sT fs2 := ⟨bEf, ⟨bEe, ⟨bEd, ⟨bEc, ⟨bEb, ⟨bEa, ⟨bDZ, ⟨bDY, ⟨bDX, ⟨bDW, ⟨bDV, ⟨bDU, ⟨bDT, ⟨bDS, ⟨bDR, ⟨bDQ, ⟨bDP, ⟨bDO, ⟨bDN, ⟨bDM, ⟨bDL, ⟨bDK, ⟨bDJ, ⟨bDI, ⟨bDH, ⟨bDG, ⟨bDF, ⟨bDE, ⟨bDC, ⟨bDB, ⟨bDA, trivial⟩⟩⟩⟩⟩⟩⟩⟩⟩⟩⟩⟩⟩⟩⟩⟩⟩⟩⟩⟩⟩⟩⟩⟩⟩⟩⟩⟩⟩⟩⟩
end Go.Proofs.YtmafhiogonejfaaGreatDoor
end
