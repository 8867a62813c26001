/- More of the program's functions. No condition. -/
import Derived.Test.YtmafhiogonejfaaGreatDoorC1
set_option linter.unusedVariables false
noncomputable section
namespace Go.Proofs.YtmafhiogonejfaaGreatDoor
open Go.DI
variable (E : bO)
def bEm : List RV := [(.r p2)]
def aFm (E : bO) (r0 : DV) (h : H) : aU := vK (dD r0 (.str [])) λ x1 => bE x1 true (λ kk => kk r0 h) h λ x2 h3 => bE x1 true (λ kk => vK (bZ x2) λ v => kk v h3) h3 λ x4 h5 => bE x1 true (λ kk => vK (xU x4 (ii 28)) λ v => kk v h5) h5 λ x6 h7 => vK (aX x1 x6 (.bool false)) λ x8 => bE x8 true (λ kk => kk r0 h7) h7 λ x9 h10 => bE x8 true (λ kk => vK (dD x9 (.str [46])) λ v => kk v h10) h10 λ x11 h12 => vK (aX x8 x11 (.bool false)) λ x13 => bE x13 true (λ kk => kk r0 h12) h12 λ x14 h15 => bE x13 true (λ kk => vK (dD x14 (.str [46, 46])) λ v => kk v h15) h15 λ x16 h17 => vK (aX x13 x16 (.bool false)) λ x18 => some (x18, h17)
def aYA : DC := (zs 20 [zM 0,zX (.bin .neq jD (.c (.str []))),zM 21,zL 22 true 0,zG 22 true (.lenS iD),zG 22 true (.bin .leq iP (zk 28)),zX (.pick kD kU (.c (.bool false))),zM 26,zL 27 true 0,zG 27 true (.bin .neq lW (.c (.str [46]))),zX (.pick lD mN (.c (.bool false))),zM 30,zL 31 true 0,zG 31 true (.bin .neq lC (.c (.str [46,46]))),zX (.pick oD mX (.c (.bool false))),zT 2 34] .ret)
def aFA (r0 : DV) (i2 : DV → H → aU) (r3 : DV) (h : H) : aU := vK (bZ r0) λ x1 => vK (cT r3 x1) λ x2 => bK x2 (vK (gJ r0 r3) λ x3 => vK (bV x3 (.int .u8 (.ofNat 0))) λ x4 => bE x4 false (λ kk => kk r0 h) h λ x5 h6 => bE x4 false (λ kk => kk r3 h6) h6 λ x7 h8 => bE x4 false (λ kk => vK (gJ x5 x7) λ v => kk v h8) h8 λ x9 h10 => bE x4 false (λ kk => vK (bV x9 (.int .u8 (.ofNat 47))) λ v => kk v h10) h10 λ x11 h12 => vK (aX x4 (.bool true) x11) λ x13 => bK x13 (some ((.bool false), h12)) (vK (bJ r3 (ii 1)) λ x14 => i2 x14 h12)) (aFm E r0 h)
def aCa (r0 : DV) (n : Nat) : DV → H → aU := Nat.rec (motive := λ _ => DV → H → aU) (λ _ _ => none) (λ _ i => aFA E r0 i) n
def aYz : DC := (.loop (zq (zs 4 [zM 3,zM 0,zX (.lenS o5),zX (.bin .lss o4 o6)] (.cond o7 .skip (.exit 0))) (zq (.block 1 (zs 10 [zM 0,zM 3,zX (.ixS fS gE),zX (.bin .eql fV (.c (.int .u8 (.ofNat 0)))),zM 13,zL 14 false 0,zL 14 false 3,zG 14 false (.ixS jO iC),zG 14 false (.bin .eql iT (.c (.int .u8 (.ofNat 47)))),zX (.pick iU (.c (.bool true)) iH)] (.cond iQ (zs 2 [zX (.mv (.c (.bool false)))] .ret) .skip))) (zr 8 [zM 3,zX (.bin .add o8 (zk 1)),zT 3 9]))))
def aXk (r0 : DV) (h : H) : aU := aCa E r0 aR (ii 0) h
def aYB : DC := (zs 2 [zX (.mv (.c (.bool false)))] (zq (zs 3 [zX (.mv (zk 0))] (.block 0 aYz)) aYA))
theorem bMt : Is E aYA (bN bEm) (λ σ h => aFm E (σ p0) h) := λ σ h => by kernel_rfl
abbrev bLa : gS (DV × H) := (cF (λ σ h => aFm E (σ p0) h) (bN bEm))
theorem bMs : Is E aYz (bL 0 (bLa E)) (λ σ h => aCa E (σ p0) aR (σ p3) h) := Is.loop (λ n2 σ h => aCa E (σ p0) n2 (σ p3) h) (by kernel_rfl) λ n2 => Is.as (Is.leaf _) λ σ h => by kernel_rfl
theorem bMu : oE E aYB bEm (aXk E) := Is.as (Is.seq (Is.seq (bMt E) (Is.seq (Is.block (bMs E)) (Is.leaf _))) (Is.leaf _)) λ σ h => by kernel_rfl
def bPl : DF := ⟨1, 35, aYB, bEm⟩
def aVK : cE := oF (aXk E)
theorem bDb : SQ bPl aVK := λ E => oJ (d := bPl) (bMu E) rfl
def R171 : List RV := [(.r p2)]
def aXj (E : bO) (r0 : DV) (h : H) : aU := vK (dT .ptr false h.get r0 .nilp) λ x1 => bK x1 (some ((ii 0), h)) (vK (aL r0) λ x2 => vK (aF 0 x2) λ x3 => vK (aG h.get x3) λ x4 => vK (bZ x4) λ x5 => some (x5, h))
def aYy : DC := (zs 2 [zX (.mv (zk 0))] (zq (zs 3 [zM 0,zX (.eqv .ptr false o3 (.c .nilp))] (.cond o4 (zs 2 [zX (.mv (zk 0))] .ret) .skip)) (zs 5 [zM 0,zX (.nilchk o5),zX (.fa 0 o6),zX (.ld o7),zX (.lenS o8),zT 2 9] .ret)))
theorem bMr : oE E aYy R171 (aXj E) := λ σ h => by kernel_rfl
def bPk : DF := ⟨1, 10, aYy, R171⟩
def bKD : cE := oF (aXj E)
theorem bDa : SQ bPk bKD := λ E => oJ (d := bPk) (bMr E) rfl
def aWv : List RV := [(.r p8)]
def aFl (E : bO) (r0 r9 r10 : DV) (h : H) : aU := vK (bR 1 r9 r10) λ x1 => wK (bU 1 x1 r0 h) λ x2 h3 => vK (bJ r10 (ii 1)) λ x4 => vK (dK 1 r9 none (some x4)) λ x5 => some (x5, h3)
def aYv : DC := (zs 58 [zM 9,zM 10,zM 0,zX (.iaS 1 o58 o59),zW (.st 1 o61 o60)] (zs 62 [zM 9,zM 10,zX (.bin .add o63 (zk 1)),zX (.slL 1 o62 none (some o64)),zT 8 65] .ret))
def aFz (r1 r2 r3 r9 : DV) (i3 : DV → DV → H → aU) (r0 r10 : DV) (h : H) : aU := vK (cT r10 r3) λ x1 => bK x1 (wK (aD E 183 [r0, r1] h) λ x2 h3 => vK (cT x2 (ii 0)) λ x4 => bK x4 (aFl E r0 r9 r10 h3) (vK (bJ x2 r2) λ x5 => vK (gX r0 none (some x5)) λ x6 => vK (bR 1 r9 r10) λ x7 => wK (bU 1 x7 x6 h3) λ x8 h9 => vK (bZ r1) λ x10 => vK (bJ x2 x10) λ x11 => vK (gX r0 (some x11) none) λ x12 => vK (bJ r10 (ii 1)) λ x13 => i3 x12 x13 h9)) (aFl E r0 r9 r10 h)
def aBZ (r1 r2 r3 r9 : DV) (n : Nat) : DV → DV → H → aU := Nat.rec (motive := λ _ => DV → DV → H → aU) (λ _ _ _ => none) (λ _ i => aFz E r1 r2 r3 r9 i) n
def aYu : DC := (.loop (zq (zs 34 [zM 10,zM 3,zX (.bin .lss mR rA)] (.cond mW .skip (.exit 0))) (.block 1 (zs 37 [zM 0,zM 1,zF 183 [pA,tF],zT 11 39] (zq (zs 40 [zM 11,zX (.bin .lss qZ (zk 0))] (.cond wO (.exit 0) .skip)) (zs 42 [zM 9,zM 10,zM 0,zM 11,zM 2,zX (.bin .add zV xY),zX (.slS tZ none (some o47)),zX (.iaS 1 uC uB),zW (.st 1 o49 o48)] (zs 50 [zM 0,zM 11,zM 1,zX (.lenS o52),zX (.bin .add o51 o53),zX (.slS o50 (some o54) none),zT 0 55] (zr 56 [zM 10,zX (.bin .add o56 (zk 1)),zT 10 57]))))))))
def aJa (r0 r1 r2 r3 : DV) (h : H) : aU := vK (bZ r0) λ x1 => vK (bJ x1 (ii 1)) λ x2 => vK (aDd r3 x2) λ x3 => tV 1 16 (.str []) x3 x3 h λ x4 h5 => vK (fA x3 (ii 1)) λ x6 => aBZ E r1 r2 x6 x4 aR r0 (ii 0) h5
def aYw : DC := (zs 25 [zM 3,zM 0,zX (.lenS lY),zX (.bin .add lD (zk 1)),zX (.mn kU lW),zT 3 29] (zs 30 [zM 3,zX (.mks 1 16 (.str []) mD mD),zT 9 31] (zs 32 [zM 3,zX (.bin .sub lC (zk 1)),zT 3 33] (zs 10 [zX (.mv (zk 0))] (zq (.block 0 aYu) aYv)))))
def aJb (r0 r1 r2 r3 : DV) (h : H) : aU := vK (bV r3 (ii 0)) λ x1 => bK x1 (some (.nils, h)) (vK (bV r1 (.str [])) λ x2 => bK x2 (wK (aD E 181 [r0, r3] h) λ x3 h4 => some (x3, h4)) (vK (cT r3 (ii 0)) λ x5 => bK x5 (wK (aD E 182 [r0, r1] h) λ x6 h7 => vK (bJ x6 (ii 1)) λ x8 => aJa E r0 r1 r2 x8 h7) (aJa E r0 r1 r2 r3 h)))
def aYx : DC := (zs 8 [zX (.mv (.c .nils))] (zq (zs 12 [zM 3,zX (.bin .eql fV (zk 0))] (.cond gN (zs 8 [zX (.mv (.c .nils))] .ret) .skip)) (zq (zs 14 [zM 1,zX (.bin .eql iU (.c (.str [])))] (.cond jO (zs 16 [zM 0,zM 3,zF 181 [iC,iT],zT 8 18] .ret) .skip)) (zq (zs 19 [zM 3,zX (.bin .lss iQ (zk 0))] (.cond jD (zr 21 [zM 0,zM 1,zF 182 [iG,kD],zX (.bin .add iD (zk 1)),zT 3 24]) .skip)) aYw))))
theorem bMo : Is E aYv (bN aWv) (λ σ h => aFl E (σ p0) (σ p9) (σ p10) h) := λ σ h => by kernel_rfl
abbrev bKZ : gS (DV × H) := (cF (λ σ h => aFl E (σ p0) (σ p9) (σ p10) h) (bN aWv))
theorem bMn : Is E aYu (bL 0 (bKZ E)) (λ σ h => aBZ E (σ p1) (σ p2) (σ p3) (σ p9) aR (σ p0) (σ p10) h) := Is.loop (λ n3 σ h => aBZ E (σ p1) (σ p2) (σ p3) (σ p9) n3 (σ p0) (σ p10) h) (by kernel_rfl) λ n3 => Is.as (Is.leaf _) λ σ h => by kernel_rfl
theorem bMp : Is E aYw (bN aWv) (λ σ h => aJa E (σ p0) (σ p1) (σ p2) (σ p3) h) := Is.as (Is.seq (Is.seq (Is.seq (Is.seq (Is.seq (bMo E) (Is.block (bMn E))) (Is.leaf _)) (Is.leaf _)) (Is.leaf _)) (Is.leaf _)) λ σ h => by kernel_rfl
theorem bMq : iA4 E aYx aWv (aJb E) := Is.as (Is.seq (Is.seq (Is.seq (Is.seq (bMp E) (Is.leaf _)) (Is.leaf _)) (Is.leaf _)) (Is.leaf _)) λ σ h => by kernel_rfl
def bPj : DF := ⟨4, 66, aYx, aWv⟩
def aVJ : cE := fA4 (aJb E)
theorem bCZ : SQ bPj aVJ := λ E => eA4 (d := bPj) (bMq E) rfl
def R173 : List RV := [(.r p4)]
def aCm (E : bO) (r0 r1 : DV) (h : H) : aU := vK (aHD r0 r1) λ x1 => some (x1, h)
def aYt : DC := (zs 4 [zX (.mv (zk 0))] (zs 5 [zM 0,zM 1,zX (.prm .idx o5 o6),zT 4 7] .ret))
theorem bMm : nK E aYt R173 (aCm E) := λ σ h => by kernel_rfl
def bPi : DF := ⟨2, 8, aYt, R173⟩
def aIO : cE := nL (aCm E)
theorem bCY : SQ bPi aIO := λ E => nY (d := bPi) (bMm E) rfl
def R174 : List RV := []
def aXi (r0 r1 : DV) (h : H) : aU := vK (dK 2 r0 none (some r1)) λ x1 => wK (aD E 185 [x1] h) λ x2 h3 => vK (dK 2 r0 (some r1) none) λ x4 => wK (aD E 185 [x4] h3) λ x5 h6 => wK (aD E 185 [r0] h6) λ x7 h8 => some ((.tup []), h8)
def aYs : DC := (zs 4 [zM 0,zM 1,zX (.slL 2 o4 none (some o5)),zF 185 [o6]] (zs 8 [zM 0,zM 1,zX (.slL 2 o8 (some o9) none),zF 185 [fS]] (zr 12 [zM 0,zF 185 [fV]])))
theorem bMl : nK E aYs R174 (aXi E) := λ σ h => by kernel_rfl
def bPh : DF := ⟨2, 14, aYs, R174⟩
def bKC : cE := nL (aXi E)
theorem bCX : SQ bPh bKC := λ E => nY (d := bPh) (bMl E) rfl
def aTc : List RV := [(.r p4)]
def aOR (E : bO) (r6 : DV) (h : H) : aU := some (r6, h)
def aYn : DC := (zs 4 [zT 49 6,zM 49] .ret)
def aOS (r0 r1 r6 : DV) (h : H) : aU := vK (eF r1 (ii 0)) λ x1 => bK x1 (vK (fA r1 (ii 1)) λ x2 => vK (bR 1 r6 x2) λ x3 => wK (bU 1 x3 r0 h) λ x4 h5 => aOR E r6 h5) (aOR E r6 h)
def aYp : DC := (zq (zs 42 [zM 1,zX (.bin .gtr uC (zk 0))] (.cond uB (zr 44 [zM 6,zM 1,zX (.bin .sub zV (zk 1)),zM 0,zX (.iaS 1 tZ xY),zW (.st 1 o48 o47)]) .skip)) aYn)
def bQz (r1 r6 : DV) (i3 : DV → DV → H → aU) (r0 r7 : DV) (h : H) : aU := vK (fA r1 (ii 1)) λ x1 => vK (cT r7 x1) λ x2 => bK x2 (wK (aD E 192 [r0] h) λ x3 h4 => vK (aI 0 x3) λ x5 => vK (aI 1 x3) λ x6 => vK (gX r0 none (some x6)) λ x7 => vK (bR 1 r6 r7) λ x8 => wK (bU 1 x8 x7 h4) λ x9 h10 => vK (gX r0 (some x6) none) λ x11 => vK (bJ r7 (ii 1)) λ x12 => i3 x11 x12 h10) (aOS E r0 r1 r6 h)
def aOF (r1 r6 : DV) (n : Nat) : DV → DV → H → aU := Nat.rec (motive := λ _ => DV → DV → H → aU) (λ _ _ _ => none) (λ _ i => bQz E r1 r6 i) n
def aYo : DC := (.loop (zq (zs 22 [zM 7,zM 1,zX (.bin .sub iD (zk 1)),zX (.bin .lss kD iP)] (.cond kU .skip (.exit 0))) (zq (.block 1 (zs 29 [zM 0,zF 192 [mN],zT 28 30,zX (.ext 0 lW),zX (.ext 1 lW),zT 8 31,zT 9 32] (zs 33 [zM 6,zM 7,zM 0,zM 9,zX (.slS rA none (some mW)),zX (.iaS 1 mX mR),zW (.st 1 tF pA)] (zr 39 [zM 0,zM 9,zX (.slS rN (some qZ) none),zT 0 41])))) (zr 26 [zM 7,zX (.bin .add lY (zk 1)),zT 7 27]))))
def aOT (r0 r1 : DV) (h : H) : aU := tV 1 16 (.str []) r1 r1 h λ x1 h2 => aOF E r1 x1 aR r0 (ii 0) h2
def aYq : DC := (zs 20 [zM 1,zX (.mks 1 16 (.str []) jD jD),zT 6 21] (zq (zs 7 [zX (.mv (zk 0))] (.block 0 aYo)) aYp))
def aXh (r0 r1 : DV) (h : H) : aU := wK (aD E 191 [r0] h) λ x1 h2 => vK (cT r1 (ii 0)) λ x3 => bE x3 false (λ kk => kk r1 h2) h2 λ x4 h5 => bE x3 false (λ kk => kk x1 h5) h5 λ x6 h7 => bE x3 false (λ kk => vK (eF x4 x6) λ v => kk v h7) h7 λ x8 h9 => vK (aX x3 (.bool true) x8) λ x10 => bK x10 (aOT E r0 x1 h9) (aOT E r0 r1 h9)
def aYr : DC := (zs 4 [zX (.mv (.c .nils))] (zs 10 [zM 0,zF 191 [fS],zT 5 11] (zq (zs 12 [zM 1,zX (.bin .lss fV (zk 0)),zM 13,zL 14 false 1,zL 14 false 5,zG 14 false (.bin .gtr jO iC),zX (.pick iU (.c (.bool true)) iT)] (.cond iH (zr 1 [zT 19 5,zM 19]) .skip)) aYq)))
theorem bMg : Is E aYn (bN aTc) (λ σ h => aOR E (σ p6) h) := λ σ h => by kernel_rfl
theorem bMi : Is E aYp (bN aTc) (λ σ h => aOS E (σ p0) (σ p1) (σ p6) h) := Is.as (Is.seq (bMg E) (Is.leaf _)) λ σ h => by kernel_rfl
abbrev bKY : gS (DV × H) := (cF (λ σ h => aOS E (σ p0) (σ p1) (σ p6) h) (bN aTc))
theorem bMh : Is E aYo (bL 0 (bKY E)) (λ σ h => aOF E (σ p1) (σ p6) aR (σ p0) (σ p7) h) := Is.loop (λ n3 σ h => aOF E (σ p1) (σ p6) n3 (σ p0) (σ p7) h) (by kernel_rfl) λ n3 => Is.as (Is.leaf _) λ σ h => by kernel_rfl
theorem bMj : Is E aYq (bN aTc) (λ σ h => aOT E (σ p0) (σ p1) h) := Is.as (Is.seq (Is.seq (bMi E) (Is.seq (Is.block (bMh E)) (Is.leaf _))) (Is.leaf _)) λ σ h => by kernel_rfl
theorem bMk : nK E aYr aTc (aXh E) := Is.as (Is.seq (Is.seq (Is.seq (bMj E) (Is.leaf _)) (Is.leaf _)) (Is.leaf _)) λ σ h => by kernel_rfl
def bPg : DF := ⟨2, 50, aYr, aTc⟩
def bKB : cE := nL (aXh E)
theorem bCW : SQ bPg bKB := λ E => nY (d := bPg) (bMk E) rfl
def bKP : List RV := [(.r p4)]
def bQy (r1 : DV) (i1 : DV → DV → H → aU) (r0 r5 : DV) (h : H) : aU := wK (aD E 183 [r0, r1] h) λ x1 h2 => vK (bV x1 (.int .i64 (.negSucc 0))) λ x3 => bK x3 (some (r5, h2)) (vK (bJ r5 (ii 1)) λ x4 => vK (bZ r1) λ x5 => vK (bJ x1 x5) λ x6 => vK (gX r0 (some x6) none) λ x7 => i1 x7 x4 h2)
def aOE (r1 : DV) (n : Nat) : DV → DV → H → aU := Nat.rec (motive := λ _ => DV → DV → H → aU) (λ _ _ _ => none) (λ _ i => bQy E r1 i) n
def aYl : DC := (.loop (.block 1 (zs 20 [zM 0,zM 1,zF 183 [jD,iG],zT 6 22] (zq (zs 23 [zM 6,zX (.bin .eql iD (.c (.int .i64 (.negSucc 0))))] (.cond iP (zs 4 [zT 25 5,zM 25] .ret) .skip)) (zs 26 [zM 5,zX (.bin .add lY (zk 1)),zT 5 27] (zr 28 [zM 0,zM 6,zM 1,zX (.lenS mD),zX (.bin .add mN oD),zX (.slS lW (some lC) none),zT 0 33]))))))
def aIZ (r0 r1 : DV) (h : H) : aU := vK (bZ r1) λ x1 => vK (bV x1 (ii 0)) λ x2 => bK x2 (wK (aD E 191 [r0] h) λ x3 h4 => vK (bJ x3 (ii 1)) λ x5 => some (x5, h4)) (vK (bZ r1) λ x6 => vK (bV x6 (ii 1)) λ x7 => bK x7 (vK (gJ r1 (ii 0)) λ x8 => vK (aMZ r0 x8) λ x9 => some (x9, h)) (aOE E r1 aR r0 (ii 0) h))
def aYm : DC := (zs 4 [zX (.mv (zk 0))] (zq (zs 7 [zM 1,zX (.lenS o7),zX (.bin .eql o8 (zk 0))] (.cond o9 (zs 10 [zM 0,zF 191 [fS],zX (.bin .add gE (zk 1)),zT 4 12] .ret) .skip)) (zq (zs 13 [zM 1,zX (.lenS gN),zX (.bin .eql iU (zk 1))] (.cond jO (zs 16 [zM 0,zM 1,zX (.ixS iT (zk 0)),zX (.prm .cnt iC iH),zT 4 19] .ret) .skip)) (zs 5 [zX (.mv (zk 0))] (.block 0 aYl)))))
theorem bMe : Is E aYl (bL 0 (bN bKP)) (λ σ h => aOE E (σ p1) aR (σ p0) (σ p5) h) := Is.loop (λ n1 σ h => aOE E (σ p1) n1 (σ p0) (σ p5) h) (by kernel_rfl) λ n1 => Is.as (Is.leaf _) λ σ h => by kernel_rfl
theorem bMf : nK E aYm bKP (aIZ E) := Is.as (Is.seq (Is.seq (Is.seq (Is.seq (Is.block (bMe E)) (Is.leaf _)) (Is.leaf _)) (Is.leaf _)) (Is.leaf _)) λ σ h => by kernel_rfl
def bPf : DF := ⟨2, 34, aYm, bKP⟩
def aVI : cE := nL (aIZ E)
theorem bCV : SQ bPf aVI := λ E => nY (d := bPf) (bMf E) rfl
def R183 : List RV := [(.r p4)]
def aIY (r0 r1 : DV) (h : H) : aU := wK (aD E 194 [r0, r1] h) λ x1 h2 => some (x1, h2)
def aYk : DC := (zs 4 [zX (.mv (zk 0))] (zs 5 [zM 0,zM 1,zF 194 [o5,o6],zT 4 7] .ret))
theorem bMd : nK E aYk R183 (aIY E) := λ σ h => by kernel_rfl
def bPe : DF := ⟨2, 8, aYk, R183⟩
def aVH : cE := nL (aIY E)
theorem bCU : SQ bPe aVH := λ E => nY (d := bPe) (bMd E) rfl
def bKO : List RV := []
def bQx (E : bO) (r0 : DV) (i1 : DV → DV → H → aU) (r2 r3 : DV) (h : H) : aU := vK (cT r2 r3) λ x1 => bK x1 (vK (bR 2 r0 r3) λ x2 => vK (aK 2 h.get x2) λ x3 => vK (bR 2 r0 r2) λ x4 => vK (aK 2 h.get x4) λ x5 => vK (bR 2 r0 r2) λ x6 => wK (bU 2 x6 x3 h) λ x7 h8 => vK (bR 2 r0 r3) λ x9 => wK (bU 2 x9 x5 h8) λ x10 h11 => vK (bJ r2 (ii 1)) λ x12 => vK (fA r3 (ii 1)) λ x13 => i1 x12 x13 h11) (some ((.tup []), h))
def aOD (r0 : DV) (n : Nat) : DV → DV → H → aU := Nat.rec (motive := λ _ => DV → DV → H → aU) (λ _ _ _ => none) (λ _ i => bQx E r0 i) n
def aYi : DC := (.loop (zq (zs 7 [zM 2,zM 3,zX (.bin .lss o7 o8)] (.cond o9 .skip (.exit 0))) (zq (.block 1 (zd 14 [yA 0 (zM 0),yA 1 (zM 2),yA 2 (zM 0),yA 3 (zM 3),yA 4 (zM 0),yA 5 (zM 3),yA 6 (zX (.iaS 2 iH iQ)),yA 7 (zX (.ldN 2 jD)),yA 8 (zM 0),yA 9 (zM 2),yA 10 (zX (.iaS 2 kD iD)),yA 11 (zX (.ldN 2 iP)),yA 12 (zX (.iaS 2 iU jO)),yA 13 (zW (.st 2 lY iG)),yA 14 (zX (.iaS 2 iC iT)),yA 15 (zW (.st 2 lD kU))])) (zr 10 [zM 2,zX (.bin .add fS (zk 1)),zM 3,zX (.bin .sub fV (zk 1)),zT 2 11,zT 3 13]))))
def aXg (r0 : DV) (h : H) : aU := vK (bX r0) λ x1 => vK (fA x1 (ii 1)) λ x2 => aOD E r0 aR (ii 0) x2 h
def aYj : DC := (zs 4 [zM 0,zX (.lenL o4),zX (.bin .sub o5 (zk 1)),zY 2 (.mv (zk 0)),zT 3 6] (.block 0 aYi))
theorem bMb : Is E aYi (bL 0 (bN bKO)) (λ σ h => aOD E (σ p0) aR (σ p2) (σ p3) h) := Is.loop (λ n1 σ h => aOD E (σ p0) n1 (σ p2) (σ p3) h) (by kernel_rfl) λ n1 => Is.as (Is.leaf _) λ σ h => by kernel_rfl
theorem bMc : oE E aYj bKO (aXg E) := Is.as (Is.seq (Is.block (bMb E)) (Is.leaf _)) λ σ h => by kernel_rfl
def bPd : DF := ⟨1, 28, aYj, bKO⟩
def bKA : cE := oF (aXg E)
theorem bCT : SQ bPd bKA := λ E => oJ (d := bPd) (bMc E) rfl
def bEl : List RV := [(.r p2)]
def aXe (E : bO) (r2 : DV) (h : H) : aU := some (r2, h)
def aYg : DC := (zs 2 [zT 9 2,zM 9] .ret)
def bQw (E : bO) (i2 : H → aU) (h : H) : aU := none
def aWy (n : Nat) : H → aU := Nat.rec (motive := λ _ => H → aU) (λ _ => none) (λ _ i => bQw E i) n
def aYf : DC := (.loop (zs 5 [zX .bad,zX (.ext 0 o5)] (zq (.cond o6 .skip (.exit 0)) (.block 1 (zr 7 [zM 2,zX (.bin .add o7 (zk 1)),zT 2 8])))))
def aXf (E : bO) (h : H) : aU := none
def aYh : DC := (zs 2 [zX (.mv (zk 0))] (zq (zs 3 [zM 0,zX .bad] (.block 0 aYf)) aYg))
theorem bLZ : Is E aYg (bN bEl) (λ σ h => aXe E (σ p2) h) := λ σ h => by kernel_rfl
abbrev bKX : gS (DV × H) := (cF (λ σ h => aXe E (σ p2) h) (bN bEl))
theorem bLY : Is E aYf (bL 0 (bKX E)) (λ σ h => aWy E aR h) := Is.loop (λ n2 σ h => aWy E n2 h) (by kernel_rfl) λ n2 => Is.as (Is.leaf _) λ σ h => by kernel_rfl
theorem bMa : oE E aYh bEl (λ _ h => aXf E h) := Is.as (Is.seq (Is.seq (bLZ E) (Is.seq (Is.block (bLY E)) (Is.leaf _))) (Is.leaf _)) λ σ h => by kernel_rfl
def bPc : DF := ⟨1, 10, aYh, bEl⟩
def bKz : cE := oF (λ _ h => aXf E h)
theorem bCS : SQ bPc bKz := λ E => oJ (d := bPc) (bMa E) rfl
def R192 : List RV := [(.r p2),(.r p3)]
def aXd (r0 : DV) (h : H) : aU := vK (dD r0 (.str [])) λ x1 => bE x1 true (λ kk => kk r0 h) h λ x2 h3 => bE x1 true (λ kk => vK (gJ x2 (ii 0)) λ v => kk v h3) h3 λ x4 h5 => bE x1 true (λ kk => vK (cT x4 (.int .u8 (.ofNat 128))) λ v => kk v h5) h5 λ x6 h7 => vK (aX x1 x6 (.bool false)) λ x8 => bK x8 (vK (gJ r0 (ii 0)) λ x9 => vK (fB .i32 x9) λ x10 => some ((.tup [x10, (ii 1)]), h7)) (wK (aD E 197 [r0] h7) λ x11 h12 => vK (aI 0 x11) λ x13 => vK (aI 1 x11) λ x14 => some ((.tup [x13, x14]), h12))
def aYe : DC := (zs 2 [zX (.mv (.c (.int .i32 (.ofNat 0)))),zX (.mv (zk 0))] (zq (zs 4 [zM 0,zX (.bin .neq o4 (.c (.str []))),zM 5,zL 6 true 0,zG 6 true (.ixS o7 (zk 0)),zG 6 true (.bin .lss o8 (.c (.int .u8 (.ofNat 128)))),zX (.pick o6 o9 (.c (.bool false)))] (.cond fS (zs 11 [zM 0,zX (.ixS gE (zk 0)),zX (.conv .i32 fV),zT 2 13,zY 3 (.mv (zk 1))] .ret) (zr 15 [zM 0,zF 197 [jO],zT 14 16,zX (.ext 0 iU),zX (.ext 1 iU),zT 2 17,zT 3 18]))) .ret))
theorem bLX : oE E aYe R192 (aXd E) := λ σ h => by kernel_rfl
def bPb : DF := ⟨1, 19, aYe, R192⟩
def bKy : cE := oF (aXd E)
theorem bCR : SQ bPb bKy := λ E => oJ (d := bPb) (bLX E) rfl
def bEk : List RV := [(.r p4)]
def aOQ (E : bO) (h : H) : aU := some ((.int .i64 (.negSucc 0)), h)
def aYc : DC := (zs 4 [zX (.mv (.c (.int .i64 (.negSucc 0))))] .ret)
def aOP (E : bO) (r0 r1 r5 r7 r8 r10 : DV) (h : H) : aU := vK (bJ r8 (ii 1)) λ x1 => vK (gJ r0 x1) λ x2 => vK (bV x2 r7) λ x3 => bE x3 true (λ kk => kk r0 h) h λ x4 h5 => bE x3 true (λ kk => kk r8 h5) h5 λ x6 h7 => bE x3 true (λ kk => kk r8 h7) h7 λ x8 h9 => bE x3 true (λ kk => kk r5 h9) h9 λ x10 h11 => bE x3 true (λ kk => vK (bJ x8 x10) λ v => kk v h11) h11 λ x12 h13 => bE x3 true (λ kk => vK (gX x4 (some x6) (some x12)) λ v => kk v h13) h13 λ x14 h15 => bE x3 true (λ kk => kk r1 h15) h15 λ x16 h17 => bE x3 true (λ kk => vK (bV x14 x16) λ v => kk v h17) h17 λ x18 h19 => vK (aX x3 x18 (.bool false)) λ x20 => bK x20 (some (r8, h19)) (vK (bJ r8 (ii 1)) λ x21 => vK (bJ r10 (ii 1)) λ x22 => none)
def aYa : DC := (zq (zs 78 [zM 0,zM 8,zX (.bin .add o79 (zk 1)),zX (.ixS o78 o80),zM 7,zX (.bin .eql o81 o82),zM 83,zL 84 true 0,zL 84 true 8,zL 84 true 8,zL 84 true 5,zG 84 true (.bin .add o87 o88),zG 84 true (.slS o85 (some o86) (some o89)),zL 84 true 1,zG 84 true (.bin .eql o90 o91),zX (.pick o84 o92 (.c (.bool false)))] (.cond o93 (zs 4 [zT 94 8,zM 94] .ret) .skip)) (zs 95 [zM 8,zX (.bin .add o95 (zk 1)),zT 8 96] (zs 97 [zM 10,zX (.bin .add o97 (zk 1)),zT 10 98] (zs 99 [zM 5,zX .bad,zX (.bin .leq o99 bBJ),zM 101,zL 102 true 10,zL 102 true 8,zD ⟨(some bIf),(some (bBq,true)),(.c (.f 199 [bBI]))⟩,zD ⟨(some bIe),(some (bBq,true)),(.e (.bin .gtr bIz bBH))⟩,zY 107 (.pick aUo bBG (.c (.bool false)))] (.cond bBF (zs 108 [zM 0,zM 8,zX (.slS bIy (some bBE) none),zM 1,zF 198 [bIx,bBD],zT 12 112] (zq (zs 113 [zM 12,zX (.bin .geq bIw (zk 0))] (.cond bBC (zs 115 [zM 12,zM 8,zX (.bin .add bBB bIv),zT 4 117] .ret) .skip)) (zs 4 [zX (.mv (.c (.int .i64 (.negSucc 0))))] .ret))) (zs 118 [zM 5,zX .bad,zX (.bin .gtr o118 o119),zM 120,zL 121 true 10,zL 121 true 8,zG 121 true (.bin .shr bIu (.c (.int .u64 (.ofNat 4)))),zG 121 true (.bin .add (zk 4) o124),zG 121 true (.bin .geq o122 o125),zX (.pick o121 o126 (.c (.bool false))),zM 127,zL 128 true 8,zL 128 true 9,zG 128 true (.bin .lss o129 o130),zX (.pick o128 o131 (.c (.bool false)))] (.cond o132 (zs 133 [zM 0,zM 8,zX (.slS o133 (some o134) none),zM 1,zF 200 [o135,o136],zT 13 137] (zq (zs 138 [zM 13,zX (.bin .lss bBA (zk 0))] (.cond o139 (zs 4 [zX (.mv (.c (.int .i64 (.negSucc 0))))] .ret) .skip)) (zs 140 [zM 8,zM 13,zX (.bin .add o140 o141),zT 4 142] .ret))) .skip)))))))
def bQv (r0 r1 r5 r6 r7 r9 : DV) (i2 : DV → DV → H → aU) (r8 r10 : DV) (h : H) : aU := vK (cT r8 r9) λ x1 => bK x1 (vK (gJ r0 r8) λ x2 => vK (dD x2 r6) λ x3 => bK x3 (vK (bJ r8 (ii 1)) λ x4 => vK (gX r0 (some x4) (some r9)) λ x5 => wK (aD E 173 [x5, r6] h) λ x6 h7 => vK (cT x6 (ii 0)) λ x8 => bK x8 (some ((.int .i64 (.negSucc 0)), h7)) (vK (bJ x6 (ii 1)) λ x9 => vK (bJ r8 x9) λ x10 => aOP E r0 r1 r5 r7 x10 r10 h7)) (aOP E r0 r1 r5 r7 r8 r10 h)) (aOQ E h)
def aOC (r0 r1 r5 r6 r7 r9 : DV) (n : Nat) : DV → DV → H → aU := Nat.rec (motive := λ _ => DV → DV → H → aU) (λ _ _ _ => none) (λ _ i => bQv E r0 r1 r5 r6 r7 r9 i) n
def aYb : DC := (.loop (zq (zs 57 [zM 8,zM 9,zX (.bin .lss o57 o58)] (.cond o59 .skip (.exit 1))) (.block 2 (zq (zs 60 [zM 0,zM 8,zX (.ixS o60 o61),zM 6,zX (.bin .neq o62 o63)] (.cond o64 (zs 65 [zM 0,zM 8,zX (.bin .add o66 (zk 1)),zM 9,zX (.slS o65 (some o67) (some o68)),zM 6,zF 173 [o69,o70],zT 11 71] (zq (zs 72 [zM 11,zX (.bin .lss o72 (zk 0))] (.cond o73 (zs 4 [zX (.mv (.c (.int .i64 (.negSucc 0))))] .ret) .skip)) (zr 74 [zM 8,zM 11,zX (.bin .add o75 (zk 1)),zX (.bin .add o74 o76),zT 8 77]))) .skip)) aYa))))
def aIX (r0 r1 : DV) (h : H) : aU := vK (bZ r1) λ x1 => vK (bV x1 (ii 0)) λ x2 => bE x2 false (λ kk => kk r1 h) h λ x3 h4 => bE x2 false (λ kk => kk r0 h4) h4 λ x5 h6 => bE x2 false (λ kk => vK (bV x3 x5) λ v => kk v h6) h6 λ x7 h8 => vK (aX x2 (.bool true) x7) λ x9 => bK x9 (some ((ii 0), h8)) (vK (bV x1 (ii 1)) λ x10 => bK x10 (vK (gJ r1 (ii 0)) λ x11 => wK (aD E 173 [r0, x11] h8) λ x12 h13 => some (x12, h13)) (vK (bZ r0) λ x14 => vK (nO x1 x14) λ x15 => bK x15 (some ((.int .i64 (.negSucc 0)), h8)) (none)))
def aYd : DC := (zs 4 [zX (.mv (zk 0))] (zs 14 [zM 1,zX (.lenS iU),zT 5 15] (zq (.block 0 (zs 17 [zM 5,zX (.bin .eql iT (zk 0)),zM 18,zL 19 false 1,zL 19 false 0,zG 19 false (.bin .eql jD iG),zX (.pick iQ (.c (.bool true)) kD),zT 16 23] (.cond iC (zs 4 [zX (.mv (zk 0))] .ret) (zs 25 [zM 5,zX (.bin .eql kU (zk 1)),zT 24 26] (.cond iP (zs 27 [zM 0,zM 1,zX (.ixS lW (zk 0)),zF 173 [lD,mN],zT 4 30] .ret) (zs 32 [zM 5,zM 0,zX (.lenS mX),zX (.bin .geq lC mR),zT 31 35] (.cond oD (zs 4 [zX (.mv (.c (.int .i64 (.negSucc 0))))] .ret) (zs 37 [zM 5,zX .bad,zX (.bin .leq pA tF),zM 39,zL 40 true 0,zG 40 true (.lenS wO),zG 40 true (.bin .leq uC (zk 64)),zX (.pick qZ uB (.c (.bool false))),zT 36 44] (.cond mW (zs 45 [zM 0,zM 1,zF 198 [zV,xY],zT 4 47] .ret) .skip))))))))) (zs 48 [zM 1,zX (.ixS o48 (zk 0)),zT 6 49] (zs 50 [zM 1,zX (.ixS o50 (zk 1)),zT 7 51] (zs 8 [zX (.mv (zk 0))] (zs 52 [zM 0,zX (.lenS o52),zM 5,zX (.bin .sub o53 o54),zX (.bin .add o55 (zk 1)),zT 9 56] (zs 10 [zX (.mv (zk 0))] (zq (.block 1 aYb) aYc)))))))))
theorem bLV : Is E aYc (bN bEk) (λ σ h => aOQ E h) := λ σ h => by kernel_rfl
abbrev aWB : gS (DV × H) := (bL 1 (cF (λ σ h => aOQ E h) (bN bEk)))
abbrev bKW (n2 : Nat) : gS (DV × H) := (cF (λ σ h => (aOC E (σ p0) (σ p1) (σ p5) (σ p6) (σ p7) (σ p9) n2) (σ p8) (σ p10) h) (aWB E))
theorem bLT (n2 : Nat) : Is E aYa (bL 2 (bKW E n2)) (λ σ h => aOP E (σ p0) (σ p1) (σ p5) (σ p7) (σ p8) (σ p10) h) := λ σ h => by kernel_rfl
theorem bLU : Is E aYb (aWB E) (λ σ h => aOC E (σ p0) (σ p1) (σ p5) (σ p6) (σ p7) (σ p9) aR (σ p8) (σ p10) h) := Is.loop (λ n2 σ h => aOC E (σ p0) (σ p1) (σ p5) (σ p6) (σ p7) (σ p9) n2 (σ p8) (σ p10) h) (by kernel_rfl) λ n2 => Is.as (Is.seq (Is.block (Is.seq (bLT E n2) (Is.leaf _))) (Is.leaf _)) λ σ h => by kernel_rfl
theorem bLW : nK E aYd bEk (aIX E) := Is.as (Is.seq (Is.seq (Is.seq (Is.seq (Is.seq (Is.seq (Is.seq (Is.seq (Is.seq (bLV E) (Is.block (bLU E))) (Is.leaf _)) (Is.leaf _)) (Is.leaf _)) (Is.leaf _)) (Is.leaf _)) (Is.leaf _)) (Is.leaf _)) (Is.leaf _)) λ σ h => by kernel_rfl
def bPa : DF := ⟨2, 143, aYd, bEk⟩
def aST : cE := nL (aIX E)
theorem bCQ : SQ bPa aST := λ E => nY (d := bPa) (bLW E) rfl
def R197 : List RV := [(.r p2),(.r p3)]
def aXc (E : bO) (r0 : DV) (h : H) : aU := vK (bZ r0) λ x1 => vK (cT x1 (ii 1)) λ x2 => bK x2 (some ((.tup [(.int .i32 (.ofNat 65533)), (ii 0)]), h)) (vK (gJ r0 (ii 0)) λ x3 => none)
def aXZ : DC := (zs 2 [zX (.mv (.c (.int .i32 (.ofNat 0)))),zX (.mv (zk 0))] (zs 13 [zM 0,zX (.lenS gN),zT 4 14] (zq (zs 15 [zM 4,zX (.bin .lss jO (zk 1))] (.cond iC (zs 2 [zX (.mv (.c (.int .i32 (.ofNat 65533)))),zX (.mv (zk 0))] .ret) .skip)) (zs 17 [zM 0,zX (.ixS iT (zk 0)),zT 5 18] (zs 19 [zM 5,zX .bad,zX (.ld jD),zT 6 21] (zq (zs 22 [zM 6,zX (.bin .geq kD (.c (.int .u8 (.ofNat 240))))] (.cond iD (zs 24 [zM 6,zX (.conv .i32 iP),zX (.bin .shl kU (.c (.int .u64 (.ofNat 31)))),zX (.bin .shr lY (.c (.int .u64 (.ofNat 31)))),zT 7 27] (zs 28 [zM 0,zX (.ixS lW (zk 0)),zX (.conv .i32 mN),zM 7,zX (.bin .andNot mD oD),zM 7,zX (.bin .and (.c (.int .i32 (.ofNat 65533))) mX),zX (.bin .or lC mR),zT 2 35,zY 3 (.mv (zk 1))] .ret)) .skip)) (zs 36 [zM 6,zX (.bin .and mW (.c (.int .u8 (.ofNat 7)))),zX (.conv .i64 pA),zT 8 38] (zs 39 [zM 6,zX (.bin .shr rN (.c (.int .u64 (.ofNat 4)))),zX .bad,zX (.ldN 2 wO),zY 9 (.alc 2 2 (.list [(.int .u8 (.ofNat 0)),(.int .u8 (.ofNat 0))])),zW (.st 2 o9 uC)] (zq (zs 43 [zM 4,zM 8,zX (.bin .lss uB tZ)] (.cond zV (zs 2 [zX (.mv (.c (.int .i32 (.ofNat 65533)))),zX (.mv (zk 1))] .ret) .skip)) (zs 46 [zM 0,zX (.ixS xY (zk 1)),zT 10 47] (zq (zs 48 [zM 10,zX (.fa 0 o9),zX (.ld o49),zX (.bin .lss o48 o50),zM 51,zG 52 false (.fa 1 o9),zG 52 false (.ld o53),zL 52 false 10,zG 52 false (.bin .lss o54 o55),zX (.pick o52 (.c (.bool true)) o56)] (.cond o57 (zs 2 [zX (.mv (.c (.int .i32 (.ofNat 65533)))),zX (.mv (zk 1))] .ret) .skip)) (zq (zs 58 [zM 8,zX (.bin .leq o58 (zk 2))] (.cond o59 (zs 60 [zM 5,zX (.bin .and o60 (.c (.int .u8 (.ofNat 31)))),zX (.conv .i32 o61),zX (.bin .shl o62 (.c (.int .u64 (.ofNat 6)))),zM 10,zX (.bin .and o64 (.c (.int .u8 (.ofNat 63)))),zX (.conv .i32 o65),zX (.bin .or o63 o66),zT 2 67,zY 3 (.mv (zk 2))] .ret) .skip)) (zs 68 [zM 0,zX (.ixS o68 (zk 2)),zT 11 69] (zq (zs 70 [zM 11,zX (.bin .lss o70 (.c (.int .u8 (.ofNat 128)))),zM 71,zL 72 false 11,zG 72 false (.bin .lss (.c (.int .u8 (.ofNat 191))) o73),zX (.pick o72 (.c (.bool true)) o74)] (.cond o75 (zs 2 [zX (.mv (.c (.int .i32 (.ofNat 65533)))),zX (.mv (zk 1))] .ret) .skip)) (zq (zs 76 [zM 8,zX (.bin .leq o76 (zk 3))] (.cond o77 (zs 78 [zM 5,zX (.bin .and o78 (.c (.int .u8 (.ofNat 15)))),zX (.conv .i32 o79),zX (.bin .shl o80 (.c (.int .u64 (.ofNat 12)))),zM 10,zX (.bin .and o82 (.c (.int .u8 (.ofNat 63)))),zX (.conv .i32 o83),zX (.bin .shl o84 (.c (.int .u64 (.ofNat 6)))),zX (.bin .or o81 o85),zM 11,zX (.bin .and o87 (.c (.int .u8 (.ofNat 63)))),zX (.conv .i32 o88),zX (.bin .or o86 o89),zT 2 90,zY 3 (.mv (zk 3))] .ret) .skip)) (zs 91 [zM 0,zX (.ixS o91 (zk 3)),zT 12 92] (zq (zs 93 [zM 12,zX (.bin .lss o93 (.c (.int .u8 (.ofNat 128)))),zM 94,zL 95 false 12,zG 95 false (.bin .lss (.c (.int .u8 (.ofNat 191))) o96),zX (.pick o95 (.c (.bool true)) o97)] (.cond o98 (zs 2 [zX (.mv (.c (.int .i32 (.ofNat 65533)))),zX (.mv (zk 1))] .ret) .skip)) (zs 99 [zM 5,zX (.bin .and o99 (.c (.int .u8 (.ofNat 7)))),zX (.conv .i32 bBJ),zX (.bin .shl o101 (.c (.int .u64 (.ofNat 18)))),zM 10,zX (.bin .and bIz (.c (.int .u8 (.ofNat 63)))),zX (.conv .i32 bBI),zX (.bin .shl bBH (.c (.int .u64 (.ofNat 12)))),zX (.bin .or aUo bBG),zM 11,zX (.bin .and bIy (.c (.int .u8 (.ofNat 63)))),zX (.conv .i32 bBE),zX (.bin .shl bIx (.c (.int .u64 (.ofNat 6)))),zX (.bin .or bBF bBD),zM 12,zX (.bin .and bIw (.c (.int .u8 (.ofNat 63)))),zX (.conv .i32 bBC),zX (.bin .or o112 bBB),zT 2 116,zY 3 (.mv (zk 4))] .ret))))))))))))))))))
theorem bLS : oE E aXZ R197 (aXc E) := λ σ h => by kernel_rfl
def bOZ : DF := ⟨1, 117, aXZ, R197⟩
def bKx : cE := oF (aXc E)
theorem bCP : SQ bOZ bKx := λ E => oJ (d := bOZ) (bLS E) rfl
def R199 : List RV := [(.r p2)]
def aXb (E : bO) (r0 : DV) (h : H) : aU := vK (bJ r0 (ii 16)) λ x1 => vK (aPq x1 (ii 8)) λ x2 => some (x2, h)
def aXY : DC := (zs 2 [zX (.mv (zk 0))] (zs 3 [zM 0,zX (.bin .add o3 (zk 16)),zX (.bin .quo o4 (zk 8)),zT 2 5] .ret))
theorem bLR : oE E aXY R199 (aXb E) := λ σ h => by kernel_rfl
def bOY : DF := ⟨1, 6, aXY, R199⟩
def bKw : cE := oF (aXb E)
theorem bCO : SQ bOY bKw := λ E => oJ (d := bOY) (bLR E) rfl
def aTb : List RV := [(.r p4)]
def aON (E : bO) (h : H) : aU := some ((.int .i64 (.negSucc 0)), h)
def aXU : DC := (zs 4 [zX (.mv (.c (.int .i64 (.negSucc 0))))] .ret)
def bQt (r0 r1 r5 r6 r7 : DV) (i4 : DV → DV → H → aU) (r8 r10 : DV) (h : H) : aU := vK (bZ r0) λ x1 => vK (cT r10 x1) λ x2 => bK x2 (vK (aCu r8 (.int .u32 (.ofNat 16777619))) λ x3 => vK (gJ r0 r10) λ x4 => vK (fB .u32 x4) λ x5 => vK (bJ x3 x5) λ x6 => vK (fA r10 r7) λ x7 => vK (gJ r0 x7) λ x8 => vK (fB .u32 x8) λ x9 => vK (aCu r6 x9) λ x10 => vK (fA x6 x10) λ x11 => vK (bJ r10 (ii 1)) λ x12 => vK (bV x11 r5) λ x13 => bE x13 true (λ kk => kk r0 h) h λ x14 h15 => bE x13 true (λ kk => kk x12 h15) h15 λ x16 h17 => bE x13 true (λ kk => kk r7 h17) h17 λ x18 h19 => bE x13 true (λ kk => vK (fA x16 x18) λ v => kk v h19) h19 λ x20 h21 => bE x13 true (λ kk => kk x12 h21) h21 λ x22 h23 => bE x13 true (λ kk => vK (gX x14 (some x20) (some x22)) λ v => kk v h23) h23 λ x24 h25 => bE x13 true (λ kk => kk r1 h25) h25 λ x26 h27 => bE x13 true (λ kk => vK (bV x24 x26) λ v => kk v h27) h27 λ x28 h29 => vK (aX x13 x28 (.bool false)) λ x30 => bK x30 (vK (fA x12 r7) λ x31 => some (x31, h29)) (i4 x11 x12 h29)) (aON E h)
def aOA (r0 r1 r5 r6 r7 : DV) (n : Nat) : DV → DV → H → aU := Nat.rec (motive := λ _ => DV → DV → H → aU) (λ _ _ _ => none) (λ _ i => bQt E r0 r1 r5 r6 r7 i) n
def aXT : DC := (.loop (zq (zs 41 [zM 10,zM 0,zX (.lenS uC),zX (.bin .lss wO uB)] (.cond tZ .skip (.exit 2))) (.block 3 (zs 45 [zM 8,zX (.bin .mul zV (.c (.int .u32 (.ofNat 16777619)))),zT 8 46] (zs 47 [zM 8,zM 0,zM 10,zX (.ixS o48 o49),zX (.conv .u32 o50),zX (.bin .add o47 o51),zT 8 52] (zs 53 [zM 8,zM 6,zM 0,zM 10,zM 7,zX (.bin .sub o56 o57),zX (.ixS o55 o58),zX (.conv .u32 o59),zX (.bin .mul o54 o60),zX (.bin .sub o53 o61),zT 8 62] (zs 63 [zM 10,zX (.bin .add o63 (zk 1)),zT 10 64] (zs 65 [zM 8,zM 5,zX (.bin .eql o65 o66),zM 67,zL 68 true 0,zL 68 true 10,zL 68 true 7,zG 68 true (.bin .sub o70 o71),zL 68 true 10,zG 68 true (.slS o69 (some o72) (some o73)),zL 68 true 1,zG 68 true (.bin .eql o74 o75),zX (.pick o68 o76 (.c (.bool false)))] (.cond o77 (zs 78 [zM 10,zM 7,zX (.bin .sub o78 o79),zT 4 80] .ret) .skip)))))))))
def aOO (r0 r1 r5 r6 r7 r8 : DV) (h : H) : aU := vK (bV r8 r5) λ x1 => bE x1 true (λ kk => kk r0 h) h λ x2 h3 => bE x1 true (λ kk => kk r7 h3) h3 λ x4 h5 => bE x1 true (λ kk => vK (gX x2 none (some x4)) λ v => kk v h5) h5 λ x6 h7 => bE x1 true (λ kk => kk r1 h7) h7 λ x8 h9 => bE x1 true (λ kk => vK (bV x6 x8) λ v => kk v h9) h9 λ x10 h11 => vK (aX x1 x10 (.bool false)) λ x12 => bK x12 (some ((ii 0), h11)) (aOA E r0 r1 r5 r6 r7 aR r8 r7 h11)
def aXW : DC := (zq (zs 30 [zM 8,zM 5,zX (.bin .eql mD oD),zM 32,zL 33 true 0,zL 33 true 7,zG 33 true (.slS mR none (some rA)),zL 33 true 1,zG 33 true (.bin .eql mW pA),zX (.pick mX tF (.c (.bool false)))] (.cond rN (zs 4 [zX (.mv (zk 0))] .ret) .skip)) (zq (zs 10 [zT 40 7,zM 40] (.block 2 aXT)) aXU))
def bQu (r0 r1 r5 r6 r7 : DV) (i2 : DV → DV → H → aU) (r8 r9 : DV) (h : H) : aU := vK (cT r9 r7) λ x1 => bK x1 (vK (aCu r8 (.int .u32 (.ofNat 16777619))) λ x2 => vK (gJ r0 r9) λ x3 => vK (fB .u32 x3) λ x4 => vK (bJ x2 x4) λ x5 => vK (bJ r9 (ii 1)) λ x6 => i2 x5 x6 h) (aOO E r0 r1 r5 r6 r7 r8 h)
def aOB (r0 r1 r5 r6 r7 : DV) (n : Nat) : DV → DV → H → aU := Nat.rec (motive := λ _ => DV → DV → H → aU) (λ _ _ _ => none) (λ _ i => bQu E r0 r1 r5 r6 r7 i) n
def aXV : DC := (.loop (zq (zs 18 [zM 9,zM 7,zX (.bin .lss iH iQ)] (.cond jD .skip (.exit 0))) (zq (.block 1 (zr 23 [zM 8,zX (.bin .mul iD (.c (.int .u32 (.ofNat 16777619)))),zM 0,zM 9,zX (.ixS kU lY),zX (.conv .u32 lD),zX (.bin .add iP lW),zT 8 29])) (zr 21 [zM 9,zX (.bin .add iG (zk 1)),zT 9 22]))))
def aXa (r0 r1 : DV) (h : H) : aU := wK (aD E 201 [r1] h) λ x1 h2 => vK (aI 0 x1) λ x3 => vK (aI 1 x1) λ x4 => vK (bZ r1) λ x5 => aOB E r0 r1 x3 x4 x5 aR (.int .u32 (.ofNat 0)) (ii 0) h2
def aXX : DC := (zs 4 [zX (.mv (zk 0))] (zs 12 [zM 1,zF 201 [fV],zT 11 13,zX (.ext 0 gE),zX (.ext 1 gE),zT 5 14,zT 6 15] (zs 16 [zM 1,zX (.lenS iC),zT 7 17] (zs 8 [zX (.mv (.c (.int .u32 (.ofNat 0))))] (zq (zs 9 [zX (.mv (zk 0))] (.block 0 aXV)) aXW)))))
theorem bLN : Is E aXU (bN aTb) (λ σ h => aON E h) := λ σ h => by kernel_rfl
abbrev bKV : gS (DV × H) := (bL 2 (cF (λ σ h => aON E h) (bN aTb)))
theorem bLM : Is E aXT (bKV E) (λ σ h => aOA E (σ p0) (σ p1) (σ p5) (σ p6) (σ p7) aR (σ p8) (σ p10) h) := Is.loop (λ n4 σ h => aOA E (σ p0) (σ p1) (σ p5) (σ p6) (σ p7) n4 (σ p8) (σ p10) h) (by kernel_rfl) λ n4 => Is.as (Is.leaf _) λ σ h => by kernel_rfl
theorem bLP : Is E aXW (bN aTb) (λ σ h => aOO E (σ p0) (σ p1) (σ p5) (σ p6) (σ p7) (σ p8) h) := Is.as (Is.seq (Is.seq (bLN E) (Is.seq (Is.block (bLM E)) (Is.leaf _))) (Is.leaf _)) λ σ h => by kernel_rfl
abbrev bKU : gS (DV × H) := (cF (λ σ h => aOO E (σ p0) (σ p1) (σ p5) (σ p6) (σ p7) (σ p8) h) (bN aTb))
theorem bLO : Is E aXV (bL 0 (bKU E)) (λ σ h => aOB E (σ p0) (σ p1) (σ p5) (σ p6) (σ p7) aR (σ p8) (σ p9) h) := Is.loop (λ n2 σ h => aOB E (σ p0) (σ p1) (σ p5) (σ p6) (σ p7) n2 (σ p8) (σ p9) h) (by kernel_rfl) λ n2 => Is.as (Is.leaf _) λ σ h => by kernel_rfl
theorem bLQ : nK E aXX aTb (aXa E) := Is.as (Is.seq (Is.seq (Is.seq (Is.seq (Is.seq (bLP E) (Is.seq (Is.block (bLO E)) (Is.leaf _))) (Is.leaf _)) (Is.leaf _)) (Is.leaf _)) (Is.leaf _)) λ σ h => by kernel_rfl
def bOX : DF := ⟨2, 81, aXX, aTb⟩
def bKv : cE := nL (aXa E)
theorem bCN : SQ bOX bKv := λ E => nY (d := bOX) (bLQ E) rfl
def aTa : List RV := [(.r p2),(.r p3)]
def aOL (E : bO) (r4 r6 : DV) (h : H) : aU := some ((.tup [r4, r6]), h)
def aXP : DC := (zs 37 [zM 4,zM 6,zT 2 37,zT 3 38] .ret)
def aOK (E : bO) (i4 : DV → DV → DV → H → aU) (r6 r7 r8 : DV) (h : H) : aU := vK (xT r8 (.int .u64 (.ofNat 1))) λ x1 => i4 r6 r7 x1 h
def aXN : DC := (zr 26 [zM 8,zX (.bin .shr lY (.c (.int .u64 (.ofNat 1)))),zT 8 27])
def aOJ (i4 : DV → DV → DV → H → aU) (r6 r7 r8 : DV) (h : H) : aU := vK (aCu r7 r7) λ x1 => aOK E i4 r6 x1 r8 h
def aXM : DC := (zr 34 [zM 7,zM 7,zX (.bin .mul mR rA),zT 7 36])
def bQr (r4 : DV) (i4 : DV → DV → DV → H → aU) (r6 r7 r8 : DV) (h : H) : aU := vK (eF r8 (ii 0)) λ x1 => bK x1 (vK (aDO r8 (ii 1)) λ x2 => vK (dD x2 (ii 0)) λ x3 => bK x3 (vK (aCu r6 r7) λ x4 => aOJ E i4 x4 r7 r8 h) (aOJ E i4 r6 r7 r8 h)) (aOL E r4 r6 h)
def zO (r4 : DV) (n : Nat) : DV → DV → DV → H → aU := Nat.rec (motive := λ _ => DV → DV → DV → H → aU) (λ _ _ _ _ => none) (λ _ i => bQr E r4 i) n
def aXO : DC := (.loop (zq (zs 24 [zM 8,zX (.bin .gtr iP (zk 0))] (.cond kU .skip (.exit 2))) (zq (.block 3 (zq (zs 28 [zM 8,zX (.bin .and lW (zk 1)),zX (.bin .neq mN (zk 0))] (.cond mD (zr 31 [zM 6,zM 7,zX (.bin .mul oD lC),zT 6 33]) .skip)) aXM)) aXN)))
def aOM (r0 r4 : DV) (h : H) : aU := vK (bZ r0) λ x1 => zO E r4 aR (.int .u32 (.ofNat 1)) (.int .u32 (.ofNat 16777619)) x1 h
def aXR : DC := (zs 6 [zX (.mv (.c (.int .u32 (.ofNat 1)))),zX (.mv (.c (.int .u32 (.ofNat 16777619))))] (zq (zs 22 [zM 0,zX (.lenS kD),zT 8 23] (.block 2 aXO)) aXP))
def bQs (r0 : DV) (i2 : DV → DV → H → aU) (r4 r5 : DV) (h : H) : aU := vK (bZ r0) λ x1 => vK (cT r5 x1) λ x2 => bK x2 (vK (aCu r4 (.int .u32 (.ofNat 16777619))) λ x3 => vK (gJ r0 r5) λ x4 => vK (fB .u32 x4) λ x5 => vK (bJ x3 x5) λ x6 => vK (bJ r5 (ii 1)) λ x7 => i2 x6 x7 h) (aOM E r0 r4 h)
def aOz (r0 : DV) (n : Nat) : DV → DV → H → aU := Nat.rec (motive := λ _ => DV → DV → H → aU) (λ _ _ _ => none) (λ _ i => bQs E r0 i) n
def aXQ : DC := (.loop (zq (zs 9 [zM 5,zM 0,zX (.lenS fS),zX (.bin .lss o9 gE)] (.cond fV .skip (.exit 0))) (zq (.block 1 (zr 15 [zM 4,zX (.bin .mul jO (.c (.int .u32 (.ofNat 16777619)))),zM 0,zM 5,zX (.ixS iT iH),zX (.conv .u32 iQ),zX (.bin .add iC jD),zT 4 21])) (zr 13 [zM 5,zX (.bin .add gN (zk 1)),zT 5 14]))))
def aWZ (r0 : DV) (h : H) : aU := aOz E r0 aR (.int .u32 (.ofNat 0)) (ii 0) h
def aXS : DC := (zs 2 [zX (.mv (.c (.int .u32 (.ofNat 0)))),zX (.mv (.c (.int .u32 (.ofNat 0))))] (zs 4 [zX (.mv (.c (.int .u32 (.ofNat 0))))] (zq (zs 5 [zX (.mv (zk 0))] (.block 0 aXQ)) aXR)))
theorem bLI : Is E aXP (bN aTa) (λ σ h => aOL E (σ p4) (σ p6) h) := λ σ h => by kernel_rfl
abbrev aWA : gS (DV × H) := (cF (λ σ h => aOL E (σ p4) (σ p6) h) (bN aTa))
abbrev aWz (n4 : Nat) : gS (DV × H) := (cF (λ σ h => (zO E (σ p4) n4) (σ p6) (σ p7) (σ p8) h) (bL 2 (aWA E)))
theorem bLG (n4 : Nat) : Is E aXN (aWz E n4) (λ σ h => aOK E (zO E (σ p4) n4) (σ p6) (σ p7) (σ p8) h) := λ σ h => by kernel_rfl
abbrev bKT (n4 : Nat) : gS (DV × H) := (cF (λ σ h => aOK E (zO E (σ p4) n4) (σ p6) (σ p7) (σ p8) h) (aWz E n4))
theorem bLF (n4 : Nat) : Is E aXM (bL 3 (bKT E n4)) (λ σ h => aOJ E (zO E (σ p4) n4) (σ p6) (σ p7) (σ p8) h) := λ σ h => by kernel_rfl
theorem bLH : Is E aXO (bL 2 (aWA E)) (λ σ h => zO E (σ p4) aR (σ p6) (σ p7) (σ p8) h) := Is.loop (λ n4 σ h => zO E (σ p4) n4 (σ p6) (σ p7) (σ p8) h) (by kernel_rfl) λ n4 => Is.as (Is.seq (Is.seq (bLG E n4) (Is.block (Is.seq (bLF E n4) (Is.leaf _)))) (Is.leaf _)) λ σ h => by kernel_rfl
theorem bLK : Is E aXR (bN aTa) (λ σ h => aOM E (σ p0) (σ p4) h) := Is.as (Is.seq (Is.seq (bLI E) (Is.seq (Is.block (bLH E)) (Is.leaf _))) (Is.leaf _)) λ σ h => by kernel_rfl
abbrev bEG : gS (DV × H) := (cF (λ σ h => aOM E (σ p0) (σ p4) h) (bN aTa))
theorem bLJ : Is E aXQ (bL 0 (bEG E)) (λ σ h => aOz E (σ p0) aR (σ p4) (σ p5) h) := Is.loop (λ n2 σ h => aOz E (σ p0) n2 (σ p4) (σ p5) h) (by kernel_rfl) λ n2 => Is.as (Is.leaf _) λ σ h => by kernel_rfl
theorem bLL : oE E aXS aTa (aWZ E) := Is.as (Is.seq (Is.seq (Is.seq (bLK E) (Is.seq (Is.block (bLJ E)) (Is.leaf _))) (Is.leaf _)) (Is.leaf _)) λ σ h => by kernel_rfl
def bOW : DF := ⟨1, 39, aXS, aTa⟩
def bKu : cE := oF (aWZ E)
theorem bCM : SQ bOW bKu := λ E => oJ (d := bOW) (bLL E) rfl
def R217 : List RV := [(.r p2)]
def aIW (E : bO) (r0 : DV) (h : H) : aU := eC r0 h λ x1 h2 => some ((ii 2), h2)
def aXL : DC := (zs 1 [zX (.box o0),zX (.mv (zk 0))] (zs 2 [zX (.mv (zk 2))] .ret))
theorem bLE : oE E aXL R217 (aIW E) := λ σ h => by kernel_rfl
def bOV : DF := ⟨1, 3, aXL, R217⟩
def aVG : cE := oF (aIW E)
theorem bCL : SQ bOV aVG := λ E => oJ (d := bOV) (bLE E) rfl
def R218 : List RV := [(.r p2)]
def aIV (r0 : DV) (h : H) : aU := eC r0 h λ x1 h2 => vK (aF 0 x1) λ x3 => vK (aG h2.get x3) λ x4 => wK (aD E 97 [x4] h2) λ x5 h6 => some (x5, h6)
def aXK : DC := (zs 1 [zX (.box o0),zX (.mv (zk 0))] (zs 3 [zX (.fa 0 o1),zX (.ld o3),zF 97 [o4],zT 2 5] .ret))
theorem bLD : oE E aXK R218 (aIV E) := λ σ h => by kernel_rfl
def bOU : DF := ⟨1, 6, aXK, R218⟩
def aVF : cE := oF (aIV E)
theorem bCK : SQ bOU aVF := λ E => oJ (d := bOU) (bLD E) rfl
def R219 : List RV := [(.r p2)]
def aIU (r0 : DV) (h : H) : aU := eC r0 h λ x1 h2 => vK (aF 0 x1) λ x3 => vK (aG h2.get x3) λ x4 => wK (aD E 220 [x4] h2) λ x5 h6 => some (x5, h6)
def aXJ : DC := (zs 1 [zX (.box o0),zX (.mv (.c (.str [])))] (zs 3 [zX (.fa 0 o1),zX (.ld o3),zF 220 [o4],zT 2 5] .ret))
theorem bLC : oE E aXJ R219 (aIU E) := λ σ h => by kernel_rfl
def bOT : DF := ⟨1, 6, aXJ, R219⟩
def aVE : cE := oF (aIU E)
theorem bCJ : SQ bOT aVE := λ E => oJ (d := bOT) (bLC E) rfl
def bEj : List RV := [(.r p2)]
def aIS (r3 : DV) (h : H) : aU := wK (aD E 52 [r3] h) λ x1 h2 => vK (aI 0 x1) λ x3 => vK (aI 1 x1) λ x4 => some (x3, h2)
def aXH : DC := (zs 37 [zM 3,zF 52 [pA],zT 36 38,zX (.ext 0 mW),zX (.ext 1 mW),zT 6 39,zT 7 40] (zs 2 [zT 41 6,zM 41] .ret))
def aFy (r3 r21 r22 : DV) (i2 : DV → H → aU) (r23 : DV) (h : H) : aU := vK (cT r23 r22) λ x1 => bK x1 (vK (bR 2 r21 r23) λ x2 => vK (aK 2 h.get x2) λ x3 => eD 2 2 (.list [(.str []), (ii 0)]) h λ x4 h5 => wK (bU 2 x4 x3 h5) λ x6 h7 => vK (aF 0 x4) λ x8 => vK (aG h7.get x8) λ x9 => wK (aD E 51 [r3, x9] h7) λ x10 h11 => vK (aF 1 x4) λ x12 => vK (aG h11.get x12) λ x13 => wK (aD E 50 [r3, x13] h11) λ x14 h15 => vK (bJ r23 (ii 1)) λ x16 => i2 x16 h15) (aIS E r3 h)
def aBY (r3 r21 r22 : DV) (n : Nat) : DV → H → aU := Nat.rec (motive := λ _ => DV → H → aU) (λ _ _ => none) (λ _ i => aFy E r3 r21 r22 i) n
def aXG : DC := (.loop (zs 24 [zX (.bin .lss iD kD)] (zq (.cond iP .skip (.exit 0)) (zq (.block 1 (zs 25 [zX (.iaS 2 iG iD),zX (.ldN 2 kU),zY 5 (.alc 2 2 (.list [(.str []),(.int .i64 (.ofNat 0))])),zW (.st 2 o5 lY)] (zs 27 [zM 3,zX (.fa 0 o5),zX (.ld lW),zF 51 [lD,mN]] (zr 31 [zM 3,zX (.fa 1 o5),zX (.ld lC),zF 50 [oD,mX]])))) (zr 23 [zY 35 (.bin .add iD (zk 1)),zM 35])))))
def aIT (r0 : DV) (h : H) : aU := vK (dT .ptr false h.get r0 .nilp) λ x1 => bK x1 (some ((.str []), h)) (wK (aD E 48 [(ii 65536)] h) λ x2 h3 => vK (aL r0) λ x4 => vK (aF 0 x4) λ x5 => vK (aG h3.get x5) λ x6 => vK (bX x6) λ x7 => wK (aD E 50 [x2, x7] h3) λ x8 h9 => vK (aL r0) λ x10 => vK (aF 0 x10) λ x11 => vK (aG h9.get x11) λ x12 => vK (bX x12) λ x13 => aBY E x2 x12 x13 aR (ii 0) h9)
def aXI : DC := (zs 2 [zX (.mv (.c (.str [])))] (zq (zs 8 [zM 0,zX (.eqv .ptr false o8 (.c .nilp))] (.cond o9 (zs 2 [zX (.mv (.c (.str [])))] .ret) .skip)) (zs 10 [zF 48 [(zk 65536)],zT 3 10] (zs 11 [zM 3,zM 0,zX (.nilchk fV),zX (.fa 0 gN),zX (.ld iU),zX (.lenL jO),zF 50 [gE,iC]] (zq (zs 18 [zM 0,zX (.nilchk iH),zX (.fa 0 iQ),zX (.ld jD),zX (.lenL iG),zX (.mv (zk 0))] (.block 0 aXG)) aXH)))))
theorem bLA : Is E aXH (bN bEj) (λ σ h => aIS E (σ p3) h) := λ σ h => by kernel_rfl
abbrev bKS : gS (DV × H) := (cF (λ σ h => aIS E (σ p3) h) (bN bEj))
theorem bLz : Is E aXG (bL 0 (bKS E)) (λ σ h => aBY E (σ p3) (σ p21) (σ p22) aR (σ p23) h) := Is.loop (λ n2 σ h => aBY E (σ p3) (σ p21) (σ p22) n2 (σ p23) h) (by kernel_rfl) λ n2 => Is.as (Is.leaf _) λ σ h => by kernel_rfl
theorem bLB : oE E aXI bEj (aIT E) := Is.as (Is.seq (Is.seq (Is.seq (Is.seq (Is.seq (bLA E) (Is.seq (Is.block (bLz E)) (Is.leaf _))) (Is.leaf _)) (Is.leaf _)) (Is.leaf _)) (Is.leaf _)) λ σ h => by kernel_rfl
def bOS : DF := ⟨1, 42, aXI, bEj⟩
def aVD : cE := oF (aIT E)
theorem bCI : SQ bOS aVD := λ E => oJ (d := bOS) (bLB E) rfl
def R221 : List RV := [(.r p2)]
def aWX (E : bO) (h : H) : aU := some ((ii 1), h)
def aXF : DC := (zs 2 [zX (.mv (zk 0))] (zs 2 [zX (.mv (zk 1))] .ret))
theorem bLy : oE E aXF R221 (λ _ h => aWX E h) := λ σ h => by kernel_rfl
def bOR : DF := ⟨1, 3, aXF, R221⟩
def bCH : cE := oF (λ _ h => aWX E h)
theorem bCG : SQ bOR bCH := λ E => oJ (d := bOR) (bLy E) rfl
def R222 : List RV := [(.r p2)]
def aIR (E : bO) (r0 : DV) (h : H) : aU := vK (aL r0) λ x1 => vK (aF 0 x1) λ x2 => vK (aG h.get x2) λ x3 => vK (bZ x3) λ x4 => some (x4, h)
def aXE : DC := (zs 2 [zX (.mv (zk 0))] (zs 3 [zM 0,zX (.nilchk o3),zX (.fa 0 o4),zX (.ld o5),zX (.lenS o6),zT 2 7] .ret))
theorem bLx : oE E aXE R222 (aIR E) := λ σ h => by kernel_rfl
def bOQ : DF := ⟨1, 8, aXE, R222⟩
def aVC : cE := oF (aIR E)
theorem bCF : SQ bOQ aVC := λ E => oJ (d := bOQ) (bLx E) rfl
def R223 : List RV := [(.r p2)]
def aIQ (E : bO) (r0 : DV) (h : H) : aU := vK (aL r0) λ x1 => vK (aF 0 x1) λ x2 => vK (aG h.get x2) λ x3 => some (x3, h)
def aXD : DC := (zs 2 [zX (.mv (.c (.str [])))] (zs 3 [zM 0,zX (.nilchk o3),zX (.fa 0 o4),zX (.ld o5),zT 2 6] .ret))
theorem bLw : oE E aXD R223 (aIQ E) := λ σ h => by kernel_rfl
def bOP : DF := ⟨1, 7, aXD, R223⟩
def aVB : cE := oF (aIQ E)
theorem bCE : SQ bOP aVB := λ E => oJ (d := bOP) (bLw E) rfl
def fs2 : List FD := [⟨170, bPl, aVK⟩, ⟨171, bPk, bKD⟩, ⟨172, bPj, aVJ⟩, ⟨173, bPi, aIO⟩, ⟨174, bPh, bKC⟩, ⟨181, bPg, bKB⟩, ⟨182, bPf, aVI⟩, ⟨183, bPe, aVH⟩, ⟨185, bPd, bKA⟩, ⟨191, bPc, bKz⟩, ⟨192, bPb, bKy⟩, ⟨194, bPa, aST⟩, ⟨197, bOZ, bKx⟩, ⟨199, bOY, bKw⟩, ⟨200, bOX, bKv⟩, ⟨201, bOW, bKu⟩, ⟨217, bOV, aVG⟩, ⟨218, bOU, aVF⟩, ⟨219, bOT, aVE⟩, ⟨220, bOS, aVD⟩, ⟨221, bOR, bCH⟩, ⟨222, bOQ, aVC⟩, ⟨223, bOP, aVB⟩]
theorem bID : sK fs2 := ⟨bDb, ⟨bDa, ⟨bCZ, ⟨bCY, ⟨bCX, ⟨bCW, ⟨bCV, ⟨bCU, ⟨bCT, ⟨bCS, ⟨bCR, ⟨bCQ, ⟨bCP, ⟨bCO, ⟨bCN, ⟨bCM, ⟨bCL, ⟨bCK, ⟨bCJ, ⟨bCI, ⟨bCG, ⟨bCF, ⟨bCE, trivial⟩⟩⟩⟩⟩⟩⟩⟩⟩⟩⟩⟩⟩⟩⟩⟩⟩⟩⟩⟩⟩⟩⟩
end Go.Proofs.YtmafhiogonejfaaGreatDoor
end
