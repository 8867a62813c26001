/- Specs. No condition beyond the theorems' own. -/
import Derived.Test.YthpciaidbgjoeaaGreatRt
set_option linter.unusedVariables false
set_option linter.unusedSimpArgs false
noncomputable section
namespace Go.Proofs.YthpciaidbgjoeaaGreat
open Go.DI
theorem nI {f g : Nat} {F G : bB} {B : aX} (h : fK f F B g = some G) : (g = f /\ G = F) \/ B g = some G := by
 unfold fK at h; by_cases e : Nat.beq g f = true
 · rw [e] at h; cases h; exact .inl ⟨Nat.eq_of_beq_eq_true e, rfl⟩
 · rw [Bool.eq_false_iff.2 e] at h; exact .inr h
abbrev EL (k : Nat) : aX := SE base table k
theorem aVl (k : Nat) : kT (EL (k + 1)) 78 aAX := ⟨_, eT (s := S78) (by kernel_rfl) (by kernel_rfl) k, aMk⟩
theorem aJG (k : Nat) : kT (EL (k + 1)) 79 vL := ⟨_, eT (s := S79) (by kernel_rfl) (by kernel_rfl) k, aMt⟩
theorem bAi (k : Nat) : kT (EL (k + 1)) 116 aDx := ⟨_, eT (s := aHE) (by kernel_rfl) (by kernel_rfl) k, aNS⟩
theorem aVh (k : Nat) : kT (EL (k + 4)) 80 vH := ⟨_, eT (s := S80) (by kernel_rfl) (by kernel_rfl) (k + 3),
 aLP (eT (s := aGc) (by kernel_rfl) (by kernel_rfl) (k + 2)) (eT (s := aHF) (by kernel_rfl) (by kernel_rfl) (k + 1)) (bAi k)⟩
theorem aOE (k : Nat) : kT (EL (k + 1)) 81 rG := ⟨_, eT (s := S81) (by kernel_rfl) (by kernel_rfl) k, aGz⟩
theorem aJF (k : Nat) : kT (EL (k + 5)) 53 oH := ⟨_, eT (s := S53) (by kernel_rfl) (by kernel_rfl) (k + 4), aMn (aVl (k + 3)) (aJG (k + 3)) (aVh k) (aOE (k + 3))⟩
theorem aVm (k : Nat) : kT (EL (k + 1)) 82 wP := ⟨_, eT (s := S82) (by kernel_rfl) (by kernel_rfl) k, aGT⟩
theorem aJH (k : Nat) : kT (EL (k + 1)) 148 vM := ⟨_, eT (s := aHA) (by kernel_rfl) (by kernel_rfl) k, aME⟩
theorem aVi (k : Nat) : kT (EL (k + 2)) 117 aAV := ⟨_, eT (s := aHD) (by kernel_rfl) (by kernel_rfl) (k + 1), aLW (aJH k)⟩
theorem bAj (k : Nat) : kT (EL (k + 1)) 149 aDT := ⟨_, eT (s := aHz) (by kernel_rfl) (by kernel_rfl) k, aFd⟩
theorem aVk (k : Nat) : kT (EL (k + 3)) 118 rI := ⟨_, eT (s := aHC) (by kernel_rfl) (by kernel_rfl) (k + 2), aGM (bAj (k + 1)) (aJH (k + 1)) (aVi k)⟩
theorem aOH (k : Nat) : kT (EL (k + 1)) 85 pD := ⟨_, eT (s := S85) (by kernel_rfl) (by kernel_rfl) k, aEL⟩
theorem aVn (k : Nat) : kT (EL (k + 6)) 87 vI := ⟨_, eT (s := S87) (by kernel_rfl) (by kernel_rfl) (k + 5), aMo (aVm (k + 4)) (aJG (k + 4)) (aVk (k + 2)) (aJF k) (aOH (k + 4))⟩
theorem tN {V : Vl} {E E' : aX} (hE : hU V E E') {f : Nat} {F : bB} (hF : E' f = some F) : oI V (aB E f) F := by
 intro O A h g args args' r ha; have := oG hE r (f := f) ha
 rwa [cF hF] at this
def vN (h : H) (d b mp : Nat) (L : List (Ln)) (es : List dL) (c : Nat) : Prop :=
 aD h d [.slc b 0 L.length L.length false, .mp mp, .bool false] /\ bW h b (L.map DV.str) /\ h.get mp = some (.map es c) /\ mp < h.size /\ d ≠ b /\ d ≠ mp /\ b ≠ mp
structure FgE where
 on : Bool
 st : Nat
 ix : Nat
 sz : Nat
def fgV (e : FgE) : List DV := [.bool e.on, .int .i64 (.ofNat e.st), .int .i64 (.ofNat e.ix), .int .i64 (.ofNat e.sz)]
def fgC (l : List FgE) : List DV := l.flatMap fgV
theorem mE : ∀ l : List FgE, (fgC l).length = l.length * 4
 | [] => rfl
 | e :: l => by
   show (fgV e ++ fgC l).length = _; rw [List.length_append, mE l, List.length_cons]; show 4 + _ = _; omega
def aHJ (h : H) (b : Nat) (L : List DV) : Prop := ∃ E, aDv h b L.length E L
section
variable {h h' : H} {b : Nat} {L : List DV}
theorem aHJ.grown (hb : aHJ h b L) (g : bX h h') : aHJ h' b L := by
 obtain ⟨E, hb⟩ := hb; exact ⟨E, hb.grown g⟩
theorem aHJ.off (o : aHJ h b L) {F : Nat -> Prop} (k : sG F h h') (hb : ¬ F b) : aHJ h' b L := by
 obtain ⟨E, hlt, hl, pl, t, h1, h2⟩ := o; exact ⟨E, Nat.lt_of_lt_of_le hlt k.size, hl, pl, t, by rw [k.get b hlt hb]; exact h1, h2⟩
end
def aWK (h : H) (f d bs : Nat) (M : List FgE) : Prop := aD h f [.ptr d 0, .slc bs 0 M.length M.length true, .bool false] /\ aHJ h bs (fgC M) /\ M.length < 1000000
theorem aWK.grown {h h' : H} {f d bs : Nat} {M : List FgE} (q : aWK h f d bs M) (g : bX h h') : aWK h' f d bs M := ⟨q.1.grown g, q.2.1.grown g, q.2.2⟩
def aGj (B : bB) : Prop := ∀ (a : Nat) (h : H), ∃ s h', B [.int .u32 (.ofNat a)] h = some (.str s, h') /\ s.length = 4 /\ bO s = true /\ bX h h'
theorem aNX {R : Type} (a b c d : Nat) (h : H) (k : DV -> H -> Option R) : dB 4 1 [.int .u8 (.ofNat 0)] [(0, 1, .int .u8 (.ofNat a)), (1, 1, .int .u8 (.ofNat b)), (2, 1, .int .u8 (.ofNat c)), (3, 1, .int .u8 (.ofNat d))] h k = k (.slc h.size 0 4 4 false) (h.push (.blk ⟨4, 1, false, true, Tr.ofL (cT [a, b, c, d])⟩)) := by
 have hf : eM (gI [DV.int .u8 (.ofNat 0)] 4) [(0, 1, .int .u8 (.ofNat a)), (1, 1, .int .u8 (.ofNat b)), (2, 1, .int .u8 (.ofNat c)), (3, 1, .int .u8 (.ofNat d))] = some (cT [a, b, c, d]) := rfl; simp only [dB, hf, Option.bind_some, H.pushK_eq]
theorem aGP {a b c d : Nat} (ha : a < 256) (hb : b < 256) (hc : c < 256) (hd : d < 256) : bO [a, b, c, d] = true := by
 simp only [bO, List.all_cons, List.all_nil, Bool.and_true]; simp [ha, hb, hc, hd]
theorem conv_u8 (k : IntKind) (a : Nat) : cO .u8 (.int k (.ofNat a)) = some (.int .u8 (.ofNat (a % 256))) := by
 rw [gO]; rfl
theorem kV {E : aX} : aGj (aHB E) := by
 intro a h; obtain ⟨h9, eh9, g9, o9⟩ : ∃ x, x = h.push (.blk ⟨4, 1, false, true, Tr.ofL (cT [a % 256, a / 2 ^ 8 % 256, a / 2 ^ 16 % 256, a / 2 ^ 24 % 256])⟩) /\ bX h x /\ bW x h.size (cT [a % 256, a / 2 ^ 8 % 256, a / 2 ^ 16 % 256, a / 2 ^ 24 % 256]) := ⟨_, rfl, bX.push _ _, bW.pushed (h := h) (L := cT [a % 256, a / 2 ^ 8 % 256, a / 2 ^ 16 % 256, a / 2 ^ 24 % 256]) (pl := true)⟩; have ok := aGP (Nat.mod_lt a (by decide)) (Nat.mod_lt (a / 2 ^ 8) (by decide)) (Nat.mod_lt (a / 2 ^ 16) (by decide)) (Nat.mod_lt (a / 2 ^ 24) (by decide : 256 > 0))
 refine ⟨_, h9, ?_, rfl, ok, g9⟩; show aDG E (.int .u32 (.ofNat a)) h = _; unfold aDG; rw [conv_u8, aE, nN _ _ _ _ (by decide), aE, conv_u8, aE, nN _ _ _ _ (by decide), aE, conv_u8, aE, nN _ _ _ _ (by decide), aE, conv_u8, aE, aNX, <- eh9, show jY h9.get (.slc h.size 0 4 4 false) = _ from o9.text ok 4 false, aE]
theorem aEA {E : aX} : aGj (aHx E) := by
 intro a h; have : aHx E [.int .u32 (.ofNat a)] h = aHB E [.int .u32 (.ofNat a)] h := rfl; rw [this]; exact kV a h
def aWh (B : bB) : Prop := ∀ (s : Ln) (h : H), bO s = true -> s.length < 100000 -> ∃ n, B [.str s] h = some (.int .u32 (.ofNat n), h)
theorem zI {E : aX} (h1 : E 182 = some pF) : aWh (aGb E) := by
 intro s h ok hl; refine ⟨Nat.xor (mT (Nat.xor 0 4294967295) s) 4294967295, ?_⟩; show aDF E (.str s) h = _; unfold aDF; rw [cF h1]; have : pF [.int .u32 (.ofNat 0), .str s] h = some (.int .u32 (.ofNat (Nat.xor (mT (Nat.xor 0 4294967295) s) 4294967295)), h) := by
   show (bif Nat.blt 0 4294967296 && Nat.blt s.length 100000000000000 && bO s then _ else none) = _; rw [ok, dP (by omega), dP (by omega), Bool.and_self, Bool.and_self, cond_true, aR]
 rw [this, cY]
def aRo (B : bB) : Prop := ∀ (s : Ln) (n : Nat) (h : H), n <= 65536 -> s.length <= n -> ∃ x, x.length = n /\ (bO s = true -> bO x = true) /\ x.take s.length = s /\ B [.str s, .int .i64 (.ofNat n)] h = some (.tup [.str x, .int .i64 (.ofNat 0)], h)
def aBb (B : bB) : Prop := ∀ (st ix : Nat) (body : Ln) (h : H), bO body = true -> body.length <= 512 -> ∃ s h', B [.agg [.int .i64 (.ofNat st), .int .i64 (.ofNat ix)], .str body] h = some (.str s, h') /\ s.length = 64 /\ bO s = true /\ s[0]? = some 72 /\ bX h h'
theorem aAF (a : Nat) : cO .u32 (.int .i64 (.ofNat a)) = some (.int .u32 (.ofNat (a % 4294967296))) := by
 rw [gO]; rfl
def aAW (B : bB) : Prop := ∀ (s : Ln) (h : H), bO s = true -> s.length < 100000 -> ∃ x h', B [.str s] h = some (.str x, h') /\ x.length = s.length + 4 /\ bO x = true /\ x.take s.length = s /\ bX h h'
theorem aEz {E F : aX} (h1 : E 146 = some (aGb F)) (h2 : F 182 = some pF) (h3 : E 183 = some (aHx F)) : aAW (aQP E) := by
 intro s h ok hl; obtain ⟨n, f1⟩ := zI (E := F) h2 s h ok hl; obtain ⟨t, h', f2, l2, ok2, g2⟩ := aEA (E := F) n h; refine ⟨s ++ t, h', ?_, by rw [List.length_append, l2], eG ok ok2, List.take_left' rfl, g2⟩
 show aDE E (.str s) h = _; unfold aDE; rw [cF h1, f1, cY, cF h3, f2, cY, vT (by rw [l2]; unfold mW; omega), aE]
theorem aFn {E F : aX} (h1 : E 146 = some (aGb F)) (h2 : F 182 = some pF) (h3 : E 145 = some (aHB F)) {P : bB} (h4 : E 59 = some P) (hP : aRo P) {Q : bB} (h5 : E 147 = some Q) (hQ : aAW Q) : aBb (aRg E) := by
 intro st ix body h ok hl; obtain ⟨h2', eh2, g2, o2⟩ := kG h 2 2 [.int .i64 (.ofNat st), .int .i64 (.ofNat ix)] rfl; have fx : ∀ q, aG q (.ptr h.size 0) = some (.ptr h.size q) := λ q => by rw [aM, Nat.zero_add]
 obtain ⟨s1, h12, f1, l1, k1, g12⟩ := kV (E := F) (st % 4294967296) h2'; obtain ⟨s2, h15, f2, l2, k2, g15⟩ := kV (E := F) (ix % 4294967296) h12; obtain ⟨s3, h18, f3, l3, k3, g18⟩ := kV (E := F) (body.length % 4294967296) h15; obtain ⟨n, f4⟩ := zI (E := F) h2 body h18 ok (by omega)
 obtain ⟨s5, h23, f5, l5, k5, g23⟩ := kV (E := F) n h18; have km : bO [72, 70, 82, 71] = true := by decide
 have la : ([72, 70, 82, 71] ++ s1 ++ s2 ++ s3 ++ s5).length = 20 := by simp [l1, l2, l3, l5]
 have ka : bO ([72, 70, 82, 71] ++ s1 ++ s2 ++ s3 ++ s5) = true := eG (eG (eG (eG km k1) k2) k3) k5; obtain ⟨x, lx, kx, tx, f6⟩ := hP ([72, 70, 82, 71] ++ s1 ++ s2 ++ s3 ++ s5) 60 h23 (by omega) (by omega)
 obtain ⟨y, h30, f7, l7, k7, ty, g30⟩ := hQ x h23 (kx ka) (by omega)
 have e0 : y[0]? = some 72 := by
   rw [show y[0]? = (y.take x.length)[0]? from (List.getElem?_take_of_lt (by omega)).symm, ty, show x[0]? = (x.take ([72, 70, 82, 71] ++ s1 ++ s2 ++ s3 ++ s5).length)[0]? from (List.getElem?_take_of_lt (by omega)).symm, tx]; rfl
 refine ⟨y, h30, ?_, by omega, k7, e0, (((g2.trans g12).trans g15).trans g18).trans (g23.trans g30)⟩
 show aDM E (.agg [.int .i64 (.ofNat st), .int .i64 (.ofNat ix)]) (.str body) h = _; unfold aDM; have rc : zS (aF h12.get (.ptr h.size 1)) (.int .i64 (.ofNat ix)) = true := by rw [(o2.grown g12).read (j := 1) rfl]; exact aUD _ _
 have ad : ∀ {a b : Ln}, a.length + b.length < 100 -> bL (.str a) (.str b) = some (.str (a ++ b)) := λ h => vT (by unfold mW; omega)
 rw [nbx eh2 rfl, fx, aE, o2.read (j := 0) rfl, aE, aAF, aE, fx, aE, o2.read (j := 1) rfl, aE, aAF, aE, kE, aE, aAF, aE, cF h3, f1, cY]; rw [rc, aUE, ad (by simp; omega), aE, cF h3, f2, cY, ad (by simp; omega), aE, cF h3, f3, cY, ad (by simp; omega), aE, cF h1, f4, cY, cF h3, f5, cY, ad (by simp; omega), aE, cF h4, f6, cY, yC, aE, yB, aE, cF h5, f7, cY]
theorem oF {F : Nat -> Prop} {h h' : H} {b : Nat} {L : List DV} (c : bW h b L) (k : sG F h h') (hb : ¬ F b) : bW h' b L := by
 obtain ⟨a1, pl, t, a2, a3⟩ := c; exact ⟨Nat.lt_of_lt_of_le a1 k.size, pl, t, by rw [k.get b a1 hb]; exact a2, a3⟩
theorem vN.grown {d b mp : Nat} {L : List (Ln)} {es : List dL} {c : Nat} {h h' : H} (D : vN h d b mp L es c) (g : bX h h') : vN h' d b mp L es c :=
 ⟨D.1.grown g, (let ⟨a1, pl, t, a2, a3⟩ := D.2.1; ⟨Nat.lt_of_lt_of_le a1 g.size, pl, t, by rw [g.get b a1]; exact a2, a3⟩), by rw [g.get _ D.2.2.2.1]; exact D.2.2.1, Nat.lt_of_lt_of_le D.2.2.2.1 g.size, D.2.2.2.2⟩
def aDz (B : bB) : Prop := ∀ (st ix : Nat) (h : H), st < 2147483648 -> ix < 8 -> ∃ h', B [.agg [.int .i64 (.ofNat st), .int .i64 (.ofNat ix)]] h = some (.bool true, h') /\ bX h h'
theorem aHf {E : aX} : aDz (aRh E) := by
 intro st ix h hs hx; obtain ⟨h2, e2, g2, o2⟩ := kG h 2 2 [.int .i64 (.ofNat st), .int .i64 (.ofNat ix)] rfl; have fx : ∀ q, aG q (.ptr h.size 0) = some (.ptr h.size q) := λ q => by rw [aM, Nat.zero_add]
 have r0 : aF h2.get (.ptr h.size 0) = some (.int .i64 (.ofNat st)) := o2.read (j := 0) rfl; have r1 : aF h2.get (.ptr h.size 1) = some (.int .i64 (.ofNat ix)) := o2.read (j := 1) rfl; have d1 : decide (0 <= st) = true := decide_eq_true (Nat.zero_le _); have d2 : decide (st < 2147483648) = true := decide_eq_true hs; have d3 : decide (0 <= ix) = true := decide_eq_true (Nat.zero_le _); have d4 : decide (ix < 8) = true := decide_eq_true hx; refine ⟨h2, ?_, g2⟩; show aDN E (.agg [.int .i64 (.ofNat st), .int .i64 (.ofNat ix)]) h = _; unfold aDN; rw [nbx e2 rfl]; simp only [fx, aE, r0, r1, nQ, iP, d1, d2, d3, d4, aAi, jQ]
def aGi (h : H) (f d b mp bs : Nat) (M : List FgE) (L : List (Ln)) (c : Nat) : Prop :=
 aWK h f d bs M /\ vN h d b mp L [] c /\ (f ≠ b /\ f ≠ mp /\ f ≠ bs) /\ (bs ≠ b /\ bs ≠ mp /\ bs ≠ d) /\ M.length * 9 <= L.length /\ L.length < 1000000
theorem aGi.grown {h h' : H} {f d b mp bs : Nat} {M : List FgE} {L : List (Ln)} {c : Nat} (q : aGi h f d b mp bs M L c) (g : bX h h') : aGi h' f d b mp bs M L c := ⟨q.1.grown g, q.2.1.grown g, q.2.2⟩
def aCp (L : List (Ln)) : Prop := ∀ s ∈ L, bO s = true /\ s.length = 64
def rdS (L : List (Ln)) (at_ n : Nat) : Ln := ((L.drop at_).take n).flatten
theorem aCo : ∀ l : List (Ln), aHs (l.map DV.str) = some l.flatten
 | [] => rfl
 | s :: l => by
   show Option.rec (motive := λ _ => Option (Ln)) none (λ t => some (aMQ s t)) (aHs (l.map DV.str)) = _
   rw [aCo l]; show some (aMQ s l.flatten) = _; rw [aDt]; rfl
theorem aFh : ∀ {l : List (Ln)}, aCp l -> l.flatten.length = l.length * 64 /\ bO l.flatten = true
 | [], _ => ⟨rfl, rfl⟩
 | s :: l, h => by
   obtain ⟨h1, h2⟩ := h s (List.mem_cons_self ..); obtain ⟨h3, h4⟩ := aFh (l := l) λ x hx => h x (List.mem_cons_of_mem _ hx)
   refine ⟨?_, eG h1 h4⟩; rw [List.flatten_cons, List.length_append, h2, h3, List.length_cons]; omega
theorem aNw {L : List (Ln)} (h : aCp L) (at_ n : Nat) : aCp ((L.drop at_).take n) := λ s hs => h s (List.mem_of_mem_drop (List.mem_of_mem_take hs))
theorem aZE {L : List (Ln)} (h : aCp L) {at_ n : Nat} (hn : at_ + n <= L.length) : (rdS L at_ n).length = n * 64 /\ bO (rdS L at_ n) = true := by
 obtain ⟨h1, h2⟩ := aFh (aNw h at_ n); refine ⟨?_, h2⟩; unfold rdS; rw [h1, List.length_take, List.length_drop, Nat.min_eq_left (by omega)]
theorem aAw {d b mp at_ n : Nat} {L : List (Ln)} {es : List dL} {c : Nat} {h : H} (D : vN h d b mp L es c) (ok : aCp L) (hn : 1 <= n) (ha : at_ + n <= L.length) (hL : L.length < 1000000) :
   jV [.ptr d 0, .int .i64 (.ofNat at_), .int .i64 (.ofNat n)] h = some (.tup [.str (rdS L at_ n), .int .i64 (.ofNat 0)], h) := by
 have h0 := D.1.rd (j := 0) rfl; have h2 := D.1.rd (j := 2) rfl; obtain ⟨l1, k1⟩ := aZE ok ha; have key : qQ [.ptr d 0, .int .i64 (.ofNat at_), .int .i64 (.ofNat n)] h = some (.tup [.str (rdS L at_ n), .int .i64 (.ofNat 0)], h) := by
   unfold qQ; simp only [bM, h0, h2, Nat.zero_add]; rw [Nat.ble_eq_true_of_le hn, Nat.ble_eq_true_of_le (show at_ <= L.length by omega), Nat.ble_eq_true_of_le (show n <= L.length - at_ by omega), Nat.ble_eq_true_of_le (Nat.le_refl _), dP (by omega), dP D.1.1, dP D.2.1.1]
   simp only [Bool.and_self, cond_true, bJ]; rw [D.2.1.cells (o := at_) (k := n) (by rw [List.length_map]; omega), Option.bind_some, <- List.map_drop, <- List.map_take, aCo, Option.bind_some]
   show (bif Nat.ble (rdS L at_ n).length (n * 64) && aCT (rdS L at_ n) then _ else none) = _; rw [l1, Nat.ble_eq_true_of_le (Nat.le_refl _), wD, k1, Bool.and_self, cond_true]; show (pI (rdS L at_ n)).map _ = _; rw [fH]; rfl
 unfold jV; rw [key]
theorem aBP {R : Type} {h : H} {n bytes : Nat} {z : DV} (hn : n < 140737488355328) (hb : bytes * n < 140737488355328) (k : DV -> H -> Option R) : jZ 1 bytes z (.int .i64 (.ofNat n)) (.int .i64 (.ofNat n)) h k = k (.slc h.size 0 n n false) (h.push (.blk ⟨n, 1, false, true, Tr.full z 48⟩)) := by
 simp only [jZ]; rw [Nat.ble_eq_true_of_le (Nat.le_refl _), dP hb, dP hn]; simp only [Bool.and_self, cond_true, H.pushK_eq]
def gN : Ln := List.replicate 64 0
def newL (n i : Nat) : List (Ln) := List.replicate i gN ++ List.replicate (n - i) []
theorem zZ {n i : Nat} (h : i <= n) : (newL n i).length = n := by unfold newL; rw [List.length_append, List.length_replicate, List.length_replicate]; omega
theorem aNV {n i : Nat} (h : i < n) : ((newL n i).map DV.str).set i (.str gN) = (newL n (i + 1)).map DV.str := by
 unfold newL; rw [<- List.map_set, show n - i = (n - (i + 1)) + 1 by omega, List.replicate_succ, List.set_append_right _ _ (by rw [List.length_replicate]; exact Nat.le_refl _), List.length_replicate, Nat.sub_self, List.set_cons_zero, List.replicate_succ', List.append_assoc]
 rfl
theorem aGU {E : aX} {d b mp n c0 : Nat} (hn : n < 1000000) : ∀ (k i m : Nat) (hh : H), i + k = n -> vN hh d b mp (newL n i) [] c0 -> ∃ h', aCt E (.ptr d 0) (.str gN) (.int .i64 (.ofNat n)) (m + (k + 1)) (.int .i64 (.ofNat i)) hh = some (.ptr d 0, h') /\ vN h' d b mp (newL n n) [] c0 /\ yR b hh h' := by
 intro k
 induction k with
 | zero =>
   intro i m hh hk D; have : i = n := by omega
   subst this; refine ⟨hh, ?_, D, ⟨rfl, λ _ _ => rfl⟩⟩
   show aGs E _ _ _ (aCt E _ _ _ m) _ hh = _; unfold aGs; rw [iP, aE, decide_eq_false (Nat.lt_irrefl _), dE]; rfl
 | succ k ih =>
   intro i m hh hk D; obtain ⟨o1, c1, m1, hm, n1, n2, n3⟩ := D; have l0 := zZ (n := n) (i := i) (by omega)
   have l1 := zZ (n := n) (i := i + 1) (by omega)
   obtain ⟨h7, f7, c7, k7⟩ := c1.set (v := .str gN) (j := i) rfl (by rw [List.length_map]; omega)
   rw [aNV (by omega)] at c7
   have o7 := o1.but n1 k7; rw [l0] at o7 o1; obtain ⟨h', y1, y2, y3⟩ := ih (i + 1) m h7 (by omega) ⟨by rw [l1]; exact o7, c7, by rw [k7.get mp (Ne.symm n3)]; exact m1, by rw [k7.size]; exact hm, n1, n2, n3⟩
   refine ⟨h', ?_, y2, ⟨y3.size.trans k7.size, λ c hc => (y3.get c hc).trans (k7.get c hc)⟩⟩
   show aGs E _ _ _ (aCt E _ _ _ (m + (k + 1))) _ hh = _; unfold aGs; rw [iP, aE, decide_eq_true (by omega), fA, cP, aE, aM, aE, o1.read (j := 0) rfl, aE, aI (by omega), aE, f7, cY, aJ (by omega), aE]
   exact y1
def rJ (B : bB) : Prop := ∀ (n : Nat) (h : H), 1 <= n -> n <= 4096 -> ∃ d b mp h', B [.int .i64 (.ofNat n)] h = some (.ptr d 0, h') /\ vN h' d b mp (List.replicate n gN) [] 0 /\ bX h h' /\ h.size <= d /\ h.size <= b /\ h.size <= mp
theorem aHn {E : aX} : rJ (S45 E) := by
 intro n h h1 h2; obtain ⟨hA, eA⟩ : ∃ y, y = h.push (.map [] 0) := ⟨_, rfl⟩; obtain ⟨hB, eB⟩ : ∃ y, y = hA.push (.blk ⟨n, 1, false, true, Tr.full (.str []) 48⟩) := ⟨_, rfl⟩; have gA : bX h hA := eA ▸ bX.push _ _; have gB : bX hA hB := eB ▸ bX.push _ _; have cB : bW hB hA.size (List.replicate n (.str [])) := eB ▸ bW.made (by omega)
 obtain ⟨hC, eC, gC, oC⟩ := kG hB 3 3 [.slc hA.size 0 n n false, .mp h.size, .bool false] rfl; obtain ⟨hD, eD⟩ : ∃ y, y = hC.push (.blk ⟨64, 1, false, true, Tr.full (.int .u8 (.ofNat 0)) 48⟩) := ⟨_, rfl⟩; have gD : bX hC hD := eD ▸ bX.push _ _; have cD : bW hD hC.size (List.replicate 64 (.int .u8 (.ofNat 0))) := eD ▸ bW.made (by omega)
 have zA : hA.size = h.size + 1 := by rw [eA]; exact H.size_push _ _
 have zB : hB.size = hA.size + 1 := by rw [eB]; exact H.size_push _ _
 have zC : hC.size = hB.size + 1 := by rw [eC]; exact H.size_push _ _
 have zD : hD.size = hC.size + 1 := by rw [eD]; exact H.size_push _ _
 have mA : hA.get h.size = some (.map [] 0) := by rw [eA, H.get_push, if_pos rfl]
 have l0 := zZ (n := n) (i := 0) (by omega)
 have D0 : vN hD hB.size hA.size h.size (newL n 0) [] 0 := by
   refine ⟨by rw [l0]; exact oC.grown gD, ?_, ?_, by omega, by omega, by omega, by omega⟩
   · have : (newL n 0).map DV.str = List.replicate n (.str []) := by unfold newL; simp
     rw [this]; exact oF (oF cB (gC.off λ _ => False) id) (gD.off λ _ => False) id
   · rw [gD.get _ (by omega), gC.get _ (by omega), gB.get _ (by omega)]; exact mA
 obtain ⟨h', y1, y2, y3⟩ := aGU (E := E) (n := n) (by omega) n 0 (aY - (n + 1)) hD (by omega) D0
 rw [show aY - (n + 1) + (n + 1) = aY from by unfold aY; omega] at y1
 have en : newL n n = List.replicate n gN := by unfold newL; simp
 rw [en] at y2; refine ⟨hB.size, hA.size, h.size, h', ?_, y2, ⟨by rw [y3.size]; omega, λ c hc => by rw [y3.get c (by omega), gD.get c (by omega), gC.get c (by omega), gB.get c (by omega), gA.get c hc]⟩, by omega, by omega, Nat.le_refl _⟩
 show aLy E (.int .i64 (.ofNat n)) h = _; unfold aLy; have tz : jY hD.get (.slc hC.size 0 64 64 false) = some (.str gN) := cD.text (s := gN) (by decide) 64 false
 have bld : dF [.nils, .nilm, (.bool false)] [(1, 1, .mp h.size), (0, 1, .slc hA.size 0 n n false)] = some (.agg [.slc hA.size 0 n n false, .mp h.size, .bool false]) := rfl; have mk : ∀ (R : Type) (k : DV -> H -> Option R), xL h k = k (.mp h.size) hA := λ R k => by simp only [xL, H.pushK_eq]; rw [eA]
 rw [mk, aO, aE, aN, aE, show min (max n 1) 4096 = n by omega, aBP (by omega) (by omega), <- eB, bld, aE, nbx eC rfl, aBP (n := 64) (by omega) (by omega), <- eD, tz, aE, cP, aE, aM, aE, (oC.grown gD).read (j := 0) rfl, aE, show aW (.slc hA.size 0 n n false) = some (.int .i64 (.ofNat n)) from rfl, aE]
 exact y1
theorem W.iff {o : Option (DV × H)} {v : DV} {h : H} : W o (λ v' h' => v' = v /\ h' = h) ↔ o = some (v, h) := ⟨λ ⟨_, _, e, a, b⟩ => by rw [e, a, b], λ e => ⟨v, h, e, rfl, rfl⟩⟩
theorem W.eq {o : Option (DV × H)} {v : DV} {h : H} (w : W o (λ v' h' => v' = v /\ h' = h)) : o = some (v, h) := W.iff.1 w
theorem aHe {E : aX} {s : Ln} {h : H} (h0 : s[0]? = some 0) (h1 : s[1]? = some 0) (h2 : s[2]? = some 0) (h3 : s[3]? = some 0) : aHG E [.str s] h = some (.int .i64 (.ofNat 0), h) := by
 apply W.eq; show W (aDO E (.str s) h) _; unfold aDO
 repeat' (first | with_reducible refine sT ?_ | with_reducible refine sF ?_ | with_reducible refine g1 ?_ | with_reducible refine g2 ?_ | with_reducible refine g3 ?_ | with_reducible refine g4 ?_ | ((with_reducible apply sV); first | exact lQ h0 _ | exact lQ h1 _ | exact lQ h2 _ | exact lQ h3 _ | exact show pM (.int .i64 (.ofNat 0)) (.int .u64 (.ofNat 8)) = some (.int .i64 (.ofNat 0)) from rfl | exact show pM (.int .i64 (.ofNat 0)) (.int .u64 (.ofNat 16)) = some (.int .i64 (.ofNat 0)) from rfl | exact show pM (.int .i64 (.ofNat 0)) (.int .u64 (.ofNat 24)) = some (.int .i64 (.ofNat 0)) from rfl | exact show aBm (.int .i64 (.ofNat 0)) (.int .i64 (.ofNat 0)) = some (.int .i64 (.ofNat 0)) from rfl | exact show cO .i64 (.int .u8 (.ofNat 0)) = some (.int .i64 (.ofNat 0)) from rfl | exact aD.read (by assumption) (by rfl) | exact aD.readN (by assumption) (Nat.le_of_ble_eq_true rfl) | exact fZ (by omega) | exact gE (by omega) | exact gtT (by omega) | exact gtF (by omega) | exact leT (by omega) | exact gF (by omega) | exact geT (by omega) | exact geF (by omega) | exact gG (by omega) | exact gH (by omega) | exact fS (by omega) | exact fY (by omega) | exact aJ (by omega) | exact cS (by omega) | exact aH (by omega) (by omega) | exact aI (by omega) _ | exact aO _ _ _ _ | exact aN _ _ _ _ | exact aM _ _ _ | exact rfl) | exact W.ret ⟨rfl, rfl⟩ | with_reducible refine W.ret ?_)
def yO (B : bB) : Prop := ∀ (s : Ln) (h : H), s.length = 576 -> bO s = true -> (∀ i, i < 64 -> s[i]? = some 0) -> W (B [.str s] h) λ v h' => v = .agg [.bool false, .int .i64 (.ofNat 0), .int .i64 (.ofNat 0), .int .i64 (.ofNat 0)] /\ bX h h'
theorem aZA {s : Ln} {t : Ln} (hs : s[0]? = some 72) (ht : t[0]? = some 0) : cW (.str s) (.str t) = some (.bool true) := by
 have hn : s ≠ t := λ e => by rw [e, ht] at hs; cases hs
 rw [aBC]; simp [hn]
theorem aFl {E F : aX} (hN : E 108 = some (aHG F)) (hM : kT E 109 aDz) (hH : kT E 110 aBb) : yO (S74 E) := by
 obtain ⟨B1, b1, s1⟩ := hM.call; obtain ⟨B2, b2, s2⟩ := hH.call; intro s h hl ok hz; have b0 : ∀ args m, aB E 108 args m = aHG F args m := λ args m => cF hN args m
 have z : ∀ j i, j + i < 64 -> ((s.take 64).drop j)[i]? = some 0 := λ j i hi => by rw [List.getElem?_drop, List.getElem?_take_of_lt (by omega)]; exact hz _ (by omega)
 have ht : (s.take 64).length = 64 := by rw [List.length_take]; omega
 show W (aLr E (.str s) h) _; unfold aLr; refine sA rfl λ ha za ga oa => ?_
 repeat' (first | with_reducible refine sT ?_ | with_reducible refine sF ?_ | with_reducible refine g1 ?_ | with_reducible refine g2 ?_ | with_reducible refine g3 ?_ | with_reducible refine g4 ?_ | refine sC b0 (aHe (z _ _ (by omega)) (z _ _ (by omega)) (z _ _ (by omega)) (z _ _ (by omega))) ?_ | refine sA rfl λ hb zb gb ob => ?_ | ((with_reducible apply sV); first | exact yU (by omega) _ | exact yV (by omega) _ | exact aD.read (by assumption) (by rfl) | exact aD.readN (by assumption) (Nat.le_of_ble_eq_true rfl) | exact fZ (by omega) | exact gE (by omega) | exact gtT (by omega) | exact gtF (by omega) | exact leT (by omega) | exact gF (by omega) | exact geT (by omega) | exact geF (by omega) | exact gG (by omega) | exact gH (by omega) | exact fS (by omega) | exact fY (by omega) | exact aJ (by omega) | exact cS (by omega) | exact aH (by omega) (by omega) | exact aI (by omega) _ | exact aO _ _ _ _ | exact aN _ _ _ _ | exact aM _ _ _ | exact rfl) | exact W.ret ⟨rfl, rfl⟩ | with_reducible refine W.ret ?_)
 refine sS ob rfl rfl rfl λ hc oc kc => ?_
 repeat' (first | with_reducible refine sT ?_ | with_reducible refine sF ?_ | with_reducible refine g1 ?_ | with_reducible refine g2 ?_ | with_reducible refine g3 ?_ | with_reducible refine g4 ?_ | ((with_reducible apply sV); first | exact aD.read (by assumption) (by rfl) | exact aD.readN (by assumption) (Nat.le_of_ble_eq_true rfl) | exact fZ (by omega) | exact gE (by omega) | exact gtT (by omega) | exact gtF (by omega) | exact leT (by omega) | exact gF (by omega) | exact geT (by omega) | exact geF (by omega) | exact gG (by omega) | exact gH (by omega) | exact fS (by omega) | exact fY (by omega) | exact aJ (by omega) | exact cS (by omega) | exact aH (by omega) (by omega) | exact aI (by omega) _ | exact aO _ _ _ _ | exact aN _ _ _ _ | exact aM _ _ _ | exact rfl) | exact W.ret ⟨rfl, rfl⟩ | with_reducible refine W.ret ?_)
 obtain ⟨hd, fd, gd⟩ := s1 0 0 hc (by decide) (by decide)
 refine sC b1 fd ?_; have od := oc.grown gd
 repeat' (first | with_reducible refine sT ?_ | with_reducible refine sF ?_ | with_reducible refine g1 ?_ | with_reducible refine g2 ?_ | with_reducible refine g3 ?_ | with_reducible refine g4 ?_ | ((with_reducible apply sV); first | exact yU (Nat.zero_le _) _ | exact aD.read (by assumption) (by rfl) | exact aD.readN (by assumption) (Nat.le_of_ble_eq_true rfl) | exact fZ (by omega) | exact gE (by omega) | exact gtT (by omega) | exact gtF (by omega) | exact leT (by omega) | exact gF (by omega) | exact geT (by omega) | exact geF (by omega) | exact gG (by omega) | exact gH (by omega) | exact fS (by omega) | exact fY (by omega) | exact aJ (by omega) | exact cS (by omega) | exact aH (by omega) (by omega) | exact aI (by omega) _ | exact aO _ _ _ _ | exact aN _ _ _ _ | exact aM _ _ _ | exact rfl) | exact W.ret ⟨rfl, rfl⟩ | with_reducible refine W.ret ?_)
 obtain ⟨y, he, fe, le, ke, e0, ge⟩ := s2 0 0 [] hd rfl (by decide)
 refine sC b2 fe ?_
 repeat' (first | with_reducible refine sT ?_ | with_reducible refine sF ?_ | with_reducible refine g1 ?_ | with_reducible refine g2 ?_ | with_reducible refine g3 ?_ | with_reducible refine g4 ?_ | ((with_reducible apply sV); first | exact aZA e0 (z 0 0 (by omega)) | exact aD.read (by assumption) (by rfl) | exact aD.readN (by assumption) (Nat.le_of_ble_eq_true rfl) | exact fZ (by omega) | exact gE (by omega) | exact gtT (by omega) | exact gtF (by omega) | exact leT (by omega) | exact gF (by omega) | exact geT (by omega) | exact geF (by omega) | exact gG (by omega) | exact gH (by omega) | exact fS (by omega) | exact fY (by omega) | exact aJ (by omega) | exact cS (by omega) | exact aH (by omega) (by omega) | exact aI (by omega) _ | exact aO _ _ _ _ | exact aN _ _ _ _ | exact aM _ _ _ | exact rfl) | exact W.ret ⟨rfl, rfl⟩ | with_reducible refine W.ret ?_)
 refine sS (((((oa.grown gb).but (by omega) kc).grown gd).grown ge)) rfl rfl rfl λ hf of kf => ?_
 repeat' (first | with_reducible refine sT ?_ | with_reducible refine sF ?_ | with_reducible refine g1 ?_ | with_reducible refine g2 ?_ | with_reducible refine g3 ?_ | with_reducible refine g4 ?_ | ((with_reducible apply sV); first | exact aD.read (by assumption) (by rfl) | exact aD.readN (by assumption) (Nat.le_of_ble_eq_true rfl) | exact fZ (by omega) | exact gE (by omega) | exact gtT (by omega) | exact gtF (by omega) | exact leT (by omega) | exact gF (by omega) | exact geT (by omega) | exact geF (by omega) | exact gG (by omega) | exact gH (by omega) | exact fS (by omega) | exact fY (by omega) | exact aJ (by omega) | exact cS (by omega) | exact aH (by omega) (by omega) | exact aI (by omega) _ | exact aO _ _ _ _ | exact aN _ _ _ _ | exact aM _ _ _ | exact rfl) | exact W.ret ⟨rfl, rfl⟩ | with_reducible refine W.ret ?_)
 exact ⟨rfl, (((((gk ga (Nat.le_refl _)).trans (gk gb (by omega))).trans (kc.keeps (by omega))).trans (gk gd (by rw [kc.size]; omega))).trans ((gk ge (by have := gd.size; rw [kc.size] at this; omega)).trans (kf.keeps (Nat.le_refl _)))).grown⟩
def wC (P : Ln) : List DV := P.map λ p => .ptr p 0
def aPG (h : H) (sv lb : Nat) (P : Ln) : Prop := aD h sv [.slc lb 0 P.length P.length true] /\ bW h lb (wC P) /\ P.length <= 8
theorem aNI {P : Ln} {i p : Nat} (h : P[i]? = some p) : (wC P)[i]? = some (.ptr p 0) := by unfold wC; rw [List.getElem?_map, h]; rfl
theorem aUu {E : aX} {h : H} {sv lb i p : Nat} {P : Ln} (S : aPG h sv lb P) (hi : P[i]? = some p) : W (S33 E [.ptr sv 0, .int .i64 (.ofNat i)] h) λ v h' => v = .ptr p 0 /\ h' = h := by
 obtain ⟨o, c, l⟩ := S; have hl := qX hi; show W (aLB E (.ptr sv 0) (.int .i64 (.ofNat i)) h) _; unfold aLB
 repeat' (first | with_reducible refine sT ?_ | with_reducible refine sF ?_ | with_reducible refine g1 ?_ | with_reducible refine g2 ?_ | with_reducible refine g3 ?_ | with_reducible refine g4 ?_ | ((with_reducible apply sV); first | exact c.read (aNI hi) | exact aD.read (by assumption) (by rfl) | exact aD.readN (by assumption) (Nat.le_of_ble_eq_true rfl) | exact fZ (by omega) | exact gE (by omega) | exact gtT (by omega) | exact gtF (by omega) | exact leT (by omega) | exact gF (by omega) | exact geT (by omega) | exact geF (by omega) | exact gG (by omega) | exact gH (by omega) | exact fS (by omega) | exact fY (by omega) | exact aJ (by omega) | exact cS (by omega) | exact aH (by omega) (by omega) | exact aI (by omega) _ | exact aO _ _ _ _ | exact aN _ _ _ _ | exact aM _ _ _ | exact rfl) | exact W.ret ⟨rfl, rfl⟩ | with_reducible refine W.ret ?_)
theorem aFs {d b mp at_ n : Nat} {L : List (Ln)} {es : List dL} {c : Nat} {h : H} (D : vN h d b mp L es c) (hn : 1 <= n) (ha : at_ <= L.length) (hb : L.length < at_ + n) (hL : L.length < 1000000) :
   jV [.ptr d 0, .int .i64 (.ofNat at_), .int .i64 (.ofNat n)] h = some (.tup [.str [], .int .i64 (.ofNat 5)], h) := by
 have h0 := D.1.rd (j := 0) rfl; have h2 := D.1.rd (j := 2) rfl; have key : qQ [.ptr d 0, .int .i64 (.ofNat at_), .int .i64 (.ofNat n)] h = none := by
   unfold qQ; simp only [bM, h0, h2, Nat.zero_add]; rw [oX (show ¬ n <= L.length - at_ by omega)]
   simp
 unfold jV; rw [key]; show S73 aAP _ h = _; apply W.eq; show W (aCw aAP (.ptr d 0) (.int .i64 (.ofNat at_)) (.int .i64 (.ofNat n)) h) _; unfold aCw; have oD := D.1; have ck : aBy kP [.ptr d 0, .int .i64 (.ofNat at_), .int .i64 (.ofNat n), .bool true] h = some (.int .i64 (.ofNat 5), h) := by
   apply W.eq; show W (wW kP (.ptr d 0) (.int .i64 (.ofNat at_)) (.int .i64 (.ofNat n)) (.bool true) h) _; unfold wW
   repeat' (first | with_reducible refine sT ?_ | with_reducible refine sF ?_ | with_reducible refine g1 ?_ | with_reducible refine g2 ?_ | with_reducible refine g3 ?_ | with_reducible refine g4 ?_ | ((with_reducible apply sV); first | exact aD.read (by assumption) (by rfl) | exact aD.readN (by assumption) (Nat.le_of_ble_eq_true rfl) | exact fZ (by omega) | exact gE (by omega) | exact gtT (by omega) | exact gtF (by omega) | exact leT (by omega) | exact gF (by omega) | exact geT (by omega) | exact geF (by omega) | exact gG (by omega) | exact gH (by omega) | exact fS (by omega) | exact fY (by omega) | exact aJ (by omega) | exact cS (by omega) | exact aH (by omega) (by omega) | exact aI (by omega) _ | exact aO _ _ _ _ | exact aN _ _ _ _ | exact aM _ _ _ | exact rfl) | exact W.ret ⟨rfl, rfl⟩ | with_reducible refine W.ret ?_)
 refine sC (λ args m => cF (show aAP 107 = some (aBy kP) from rfl) args m) ck ?_
 repeat' (first | with_reducible refine sT ?_ | with_reducible refine sF ?_ | with_reducible refine g1 ?_ | with_reducible refine g2 ?_ | with_reducible refine g3 ?_ | with_reducible refine g4 ?_ | ((with_reducible apply sV); first | exact aD.read (by assumption) (by rfl) | exact aD.readN (by assumption) (Nat.le_of_ble_eq_true rfl) | exact fZ (by omega) | exact gE (by omega) | exact gtT (by omega) | exact gtF (by omega) | exact leT (by omega) | exact gF (by omega) | exact geT (by omega) | exact geF (by omega) | exact gG (by omega) | exact gH (by omega) | exact fS (by omega) | exact fY (by omega) | exact aJ (by omega) | exact cS (by omega) | exact aH (by omega) (by omega) | exact aI (by omega) _ | exact aO _ _ _ _ | exact aN _ _ _ _ | exact aM _ _ _ | exact rfl) | exact W.ret ⟨rfl, rfl⟩ | with_reducible refine W.ret ?_)
def fg0 : FgE := ⟨false, 0, 0, 0⟩
def xX (n : Nat) : List FgE := List.replicate n fg0
theorem aEn (n : Nat) : aCp (List.replicate n gN) := λ s hs => by rw [List.eq_of_mem_replicate hs]; exact ⟨by decide, rfl⟩
theorem aAl : ∀ n, (List.replicate n gN).flatten = List.replicate (n * 64) 0
 | 0 => rfl
 | n + 1 => by rw [List.replicate_succ, List.flatten_cons, aAl n, gN, List.replicate_append_replicate]; congr 1; omega
theorem wB {n at_ k : Nat} (h : at_ + k <= n) : rdS (List.replicate n gN) at_ k = List.replicate (k * 64) 0 := by
 unfold rdS; rw [List.drop_replicate, List.take_replicate, Nat.min_eq_left (by omega), aAl]
theorem aHg (a b : List FgE) : fgC (a ++ b) = fgC a ++ fgC b := by unfold fgC; rw [List.flatMap_append]
theorem aXf {m n : Nat} {h h' : H} (k : dQ n h h') (hm : m <= n) : dQ m h h' := ⟨k.size, λ c hc => k.get c (by omega)⟩
theorem aNQ {n0 es b : Nat} {h h' : H} {v : DV} {L : List DV} (o : jD n0 es h v L) (k : yR b h h') (hb : b < n0) : jD n0 es h' v L := by
 rcases o with o | ⟨x, n, pl, t, h1, h2, h3, h4, h5, h6⟩
 · exact .inl o
 · exact .inr ⟨x, n, pl, t, h1, by rw [k.size]; exact h2, h3, h4, by rw [k.get x (by omega)]; exact h5, h6⟩
theorem bJu {d b mp n : Nat} {L : List (Ln)} {es : List dL} {c : Nat} {h h' : H} {f : Nat} (D : vN h d b mp L es c) (k : dQ f h h') (hd : d < n) (hb : b < n) (hm : mp < n) (hf : n <= f) : vN h' d b mp L es c :=
 ⟨D.1.keep k (by omega), oF D.2.1 (F := λ c => f <= c) ⟨k.size, λ c _ hc => k.get c (by omega)⟩ (by omega), by rw [k.get mp (by omega)]; exact D.2.2.1, Nat.lt_of_lt_of_le D.2.2.2.1 k.size, D.2.2.2.2⟩
theorem aEQ {E : aX} (hR : E 73 = some jV) (hZ : kT E 74 yO) {d b mp n c n0 f : Nat} (h9 : 9 <= n) (h2 : n <= 2000) (hd : d < n0) (hb : b < n0) (hm : mp < n0) (hf : n0 <= f) :
   ∀ (k i m : Nat) (hh : H) (v : DV), i + k = n / 9 -> aD hh f [.ptr d 0, v, .bool false] -> jD (f + 1) 4 hh v (fgC (xX i)) -> vN hh d b mp (List.replicate n gN) [] c ->
   W (sH E (.ptr d 0) (.ptr f 0) (m + (k + 1)) (.int .i64 (.ofNat i)) hh) λ r h' => r = .tup [.ptr f 0, .int .i64 (.ofNat 0)] /\ ∃ v, aD h' f [.ptr d 0, v, .bool false] /\ jD (f + 1) 4 h' v (fgC (xX (n / 9))) /\ dQ n0 hh h' := by
 obtain ⟨B1, b1, s1⟩ := hZ.call; have bR : ∀ args m, aB E 73 args m = jV args m := λ args m => cF hR args m
 intro k
 induction k with
 | zero =>
   intro i m hh v hk o a D; have hi : i = n / 9 := by omega
   have hL : (List.replicate n gN).length = n := List.length_replicate; show W (aGr E _ _ (sH E _ _ m) _ hh) _; unfold aGr aGg
   repeat' (first | with_reducible refine sT ?_ | with_reducible refine sF ?_ | with_reducible refine g1 ?_ | with_reducible refine g2 ?_ | with_reducible refine g3 ?_ | with_reducible refine g4 ?_ | refine sC bR (aFs D (by omega) (by omega) (by omega) (by omega)) ?_ | ((with_reducible apply sV); first | exact aD.read (by assumption) (by rfl) | exact aD.readN (by assumption) (Nat.le_of_ble_eq_true rfl) | exact fZ (by omega) | exact gE (by omega) | exact gtT (by omega) | exact gtF (by omega) | exact leT (by omega) | exact gF (by omega) | exact geT (by omega) | exact geF (by omega) | exact gG (by omega) | exact gH (by omega) | exact fS (by omega) | exact fY (by omega) | exact aJ (by omega) | exact cS (by omega) | exact aH (by omega) (by omega) | exact aI (by omega) _ | exact aO _ _ _ _ | exact aN _ _ _ _ | exact aM _ _ _ | exact rfl) | exact W.ret ⟨rfl, rfl⟩ | with_reducible refine W.ret ?_)
   exact ⟨rfl, v, o, hi ▸ a, dQ.refl _ _⟩
 | succ k ih =>
   intro i m hh v hk o a D; have hL : (List.replicate n gN).length = n := List.length_replicate; show W (aGr E _ _ (sH E _ _ (m + (k + 1))) _ hh) _; unfold aGr aLv aLw
   repeat' (first | with_reducible refine sT ?_ | with_reducible refine sF ?_ | with_reducible refine g1 ?_ | with_reducible refine g2 ?_ | with_reducible refine g3 ?_ | with_reducible refine g4 ?_ | refine sC bR (aAw D (aEn _) (by omega) (by omega) (by omega)) ?_ | ((with_reducible apply sV); first | exact aD.read (by assumption) (by rfl) | exact aD.readN (by assumption) (Nat.le_of_ble_eq_true rfl) | exact fZ (by omega) | exact gE (by omega) | exact gtT (by omega) | exact gtF (by omega) | exact leT (by omega) | exact gF (by omega) | exact geT (by omega) | exact geF (by omega) | exact gG (by omega) | exact gH (by omega) | exact fS (by omega) | exact fY (by omega) | exact aJ (by omega) | exact cS (by omega) | exact aH (by omega) (by omega) | exact aI (by omega) _ | exact aO _ _ _ _ | exact aN _ _ _ _ | exact aM _ _ _ | exact rfl) | exact W.ret ⟨rfl, rfl⟩ | with_reducible refine W.ret ?_)
   refine sN b1 (s1 _ hh (by rw [wB (by omega), List.length_replicate]) (by rw [wB (by omega)]; exact xK _) (λ j hj => by rw [wB (by omega), List.getElem?_replicate, if_pos (by omega)])) ?_
   rintro _ h9 ⟨rfl, g9⟩
   have z9 := g9.size; refine sA rfl λ h11 z11 g11 o11 => ?_
   refine sS o11 rfl rfl rfl λ h13 o13 k13 => ?_
   have G := (((gk g9 (Nat.le_refl _)).trans (gk g11 z9)).trans (k13.keeps z9)).grown; have of := o.grown G; have af := a.grown G
   repeat' (first | with_reducible refine sT ?_ | with_reducible refine sF ?_ | with_reducible refine g1 ?_ | with_reducible refine g2 ?_ | with_reducible refine g3 ?_ | with_reducible refine g4 ?_ | ((with_reducible apply sV); first | exact aD.read (by assumption) (by rfl) | exact aD.readN (by assumption) (Nat.le_of_ble_eq_true rfl) | exact fZ (by omega) | exact gE (by omega) | exact gtT (by omega) | exact gtF (by omega) | exact leT (by omega) | exact gF (by omega) | exact geT (by omega) | exact geF (by omega) | exact gG (by omega) | exact gH (by omega) | exact fS (by omega) | exact fY (by omega) | exact aJ (by omega) | exact cS (by omega) | exact aH (by omega) (by omega) | exact aI (by omega) _ | exact aO _ _ _ _ | exact aN _ _ _ _ | exact aM _ _ _ | exact rfl) | exact W.ret ⟨rfl, rfl⟩ | with_reducible refine W.ret ?_)
   refine sL rfl rfl λ h6 z6 g6 o6 => ?_
   have lf : f < hh.size := o.1; have hsrc : dO 4 h6.get (.slc h13.size 0 1 1 false) = some (fgC [fg0]) := by
     have := o6.cells (o := 0) (k := 4) (by decide)
     exact this
   have z13 := k13.size; obtain ⟨v8, h8, f8, a8, k8⟩ := (af.grown g6).app (x := .slc h13.size 0 1 1 false) (S := fgC [fg0]) (k := 1) (bytes := 32) (by omega) rfl hsrc rfl rfl (by decide) (λ q hq => by
     rw [mE, xX, List.length_replicate] at hq; unfold bU; omega)
   refine sW f8 ?_; have o8 : aD h8 f [.ptr d 0, v, .bool false] := (of.grown g6).keep k8 (by omega)
   repeat' (first | with_reducible refine sT ?_ | with_reducible refine sF ?_ | with_reducible refine g1 ?_ | with_reducible refine g2 ?_ | with_reducible refine g3 ?_ | with_reducible refine g4 ?_ | ((with_reducible apply sV); first | exact aD.read (by assumption) (by rfl) | exact aD.readN (by assumption) (Nat.le_of_ble_eq_true rfl) | exact fZ (by omega) | exact gE (by omega) | exact gtT (by omega) | exact gtF (by omega) | exact leT (by omega) | exact gF (by omega) | exact geT (by omega) | exact geF (by omega) | exact gG (by omega) | exact gH (by omega) | exact fS (by omega) | exact fY (by omega) | exact aJ (by omega) | exact cS (by omega) | exact aH (by omega) (by omega) | exact aI (by omega) _ | exact aO _ _ _ _ | exact aN _ _ _ _ | exact aM _ _ _ | exact rfl) | exact W.ret ⟨rfl, rfl⟩ | with_reducible refine W.ret ?_)
   refine sS1 (j := 1) o8 (Nat.le_of_ble_eq_true rfl) a8.one λ h12 o12 k12 => ?_
   repeat' (first | with_reducible refine sT ?_ | with_reducible refine sF ?_ | with_reducible refine g1 ?_ | with_reducible refine g2 ?_ | with_reducible refine g3 ?_ | with_reducible refine g4 ?_ | ((with_reducible apply sV); first | exact aD.read (by assumption) (by rfl) | exact aD.readN (by assumption) (Nat.le_of_ble_eq_true rfl) | exact fZ (by omega) | exact gE (by omega) | exact gtT (by omega) | exact gtF (by omega) | exact leT (by omega) | exact gF (by omega) | exact geT (by omega) | exact geF (by omega) | exact gG (by omega) | exact gH (by omega) | exact fS (by omega) | exact fY (by omega) | exact aJ (by omega) | exact cS (by omega) | exact aH (by omega) (by omega) | exact aI (by omega) _ | exact aO _ _ _ _ | exact aN _ _ _ _ | exact aM _ _ _ | exact rfl) | exact W.ret ⟨rfl, rfl⟩ | with_reducible refine W.ret ?_)
   have K : dQ f hh h12 := ((gk G (by omega)).trans (gk g6 (by have := G.size; omega))).trans ((aXf k8 (by omega)).trans (k12.keeps (Nat.le_refl _)))
   have e1 : xX i ++ [fg0] = xX (i + 1) := by unfold xX; rw [List.replicate_succ']
   rw [<- aHg, e1] at a8; have a12 : jD (f + 1) 4 h12 v8 (fgC (xX (i + 1))) := aNQ a8 k12 (by omega)
   refine W.mono (ih (i + 1) m h12 v8 (by omega) o12 a12 (bJu D K hd hb hm hf)) ?_
   rintro r h' ⟨rfl, v', p1, p2, p3⟩
   exact ⟨rfl, v', p1, p2, (aXf K hf).trans p3⟩
def pE (B : bB) : Prop := ∀ (d b mp n c : Nat) (h : H), vN h d b mp (List.replicate n gN) [] c -> 9 <= n -> n <= 2000 ->
 W (B [.ptr d 0] h) λ v h' => ∃ f bs, v = .tup [.ptr f 0, .int .i64 (.ofNat 0)] /\ h.size <= f /\ f < bs /\ aGi h' f d b mp bs (xX (n / 9)) (List.replicate n gN) c /\ bX h h'
theorem aFm {E : aX} (hR : E 73 = some jV) (hZ : kT E 74 yO) : pE (S46 E) := by
 intro d b mp n c h D h9 h2; have bR : ∀ args m, aB E 73 args m = jV args m := λ args m => cF hR args m
 have hL : (List.replicate n gN).length = n := List.length_replicate; have l1 := D.1.1; have l2 := D.2.1.1; have l3 := D.2.2.2.1; show W (aLx E (.ptr d 0) h) _; unfold aLx
 repeat' (first | with_reducible refine sT ?_ | with_reducible refine sF ?_ | with_reducible refine g1 ?_ | with_reducible refine g2 ?_ | with_reducible refine g3 ?_ | with_reducible refine g4 ?_ | refine sC bR (aAw D (aEn _) (by omega) (by omega) (by omega)) ?_ | ((with_reducible apply sV); first | exact aD.read (by assumption) (by rfl) | exact aD.readN (by assumption) (Nat.le_of_ble_eq_true rfl) | exact fZ (by omega) | exact gE (by omega) | exact gtT (by omega) | exact gtF (by omega) | exact leT (by omega) | exact gF (by omega) | exact geT (by omega) | exact geF (by omega) | exact gG (by omega) | exact gH (by omega) | exact fS (by omega) | exact fY (by omega) | exact aJ (by omega) | exact cS (by omega) | exact aH (by omega) (by omega) | exact aI (by omega) _ | exact aO _ _ _ _ | exact aN _ _ _ _ | exact aM _ _ _ | exact rfl) | exact W.ret ⟨rfl, rfl⟩ | with_reducible refine W.ret ?_)
 refine sX λ h1 z1 g1 o1 => ?_
 have := aEQ hR hZ (n0 := h.size) (f := h.size) h9 h2 l1 l2 l3 (Nat.le_refl _) (n / 9) 0 (aY - (n / 9 + 1)) h1 .nils (by omega) o1 jD.nil (D.grown g1)
 rw [show aY - (n / 9 + 1) + (n / 9 + 1) = aY from by unfold aY; omega] at this
 refine W.mono this ?_
 rintro _ h' ⟨rfl, v, of, a, k⟩
 have G : bX h h' := ((gk g1 (Nat.le_refl _)).trans k).grown; rcases a with ⟨_, e⟩ | ⟨bs, q, pl, t, p1, p2, p3, rfl, p5, p6⟩
 · have := congrArg List.length e; rw [mE, xX, List.length_replicate] at this; simp at this; omega
 have hq : q = n / 9 := by rw [mE, xX, List.length_replicate] at p3; omega
 subst hq; have lo : (xX (n / 9)).length = n / 9 := List.length_replicate; refine ⟨h.size, bs, rfl, Nat.le_refl _, by omega, ⟨⟨by rw [lo]; exact of, ⟨4, p2, Nat.le_refl _, pl, t, by rw [p5, mE, lo], p6⟩, by rw [lo]; omega⟩, D.grown G, ⟨by omega, by omega, by omega⟩, ⟨by omega, by omega, by omega⟩, by rw [lo, hL]; omega, by omega⟩, G⟩
structure fL where
 p : Nat
 d : Nat
 b : Nat
 mp : Nat
 f : Nat
 bs : Nat
def fL.has (B : fL) (c : Nat) : Prop := c = B.p \/ c = B.d \/ c = B.b \/ c = B.mp \/ c = B.f \/ c = B.bs
structure pC where
 dn : Bool
 ls : Bool
 M : List FgE
 L : List (Ln)
def mN (h : H) (B : fL) (X : pC) : Prop := ∃ c, aD h B.p [.ptr B.d 0, .ptr B.f 0, .bool X.dn, .bool X.ls] /\ aGi h B.f B.d B.b B.mp B.bs X.M X.L c /\ (B.p ≠ B.d /\ B.p ≠ B.b /\ B.p ≠ B.mp /\ B.p ≠ B.f /\ B.p ≠ B.bs)
theorem mN.lt {h : H} {B : fL} {X : pC} (r : mN h B X) {c : Nat} (hc : B.has c) : c < h.size := by
 obtain ⟨_, o, q, _⟩ := r; obtain ⟨⟨q1, ⟨_, q2⟩, _⟩, ⟨d1, d2, _, d4, _⟩, _⟩ := q; rcases hc with rfl | rfl | rfl | rfl | rfl | rfl
 · exact o.1
 · exact d1.1
 · exact d2.1
 · exact d4
 · exact q1.1
 · exact q2.1
theorem aGi.off {F : Nat -> Prop} {h h' : H} {f d b mp bs : Nat} {M : List FgE} {L : List (Ln)} {c : Nat} (q : aGi h f d b mp bs M L c) (k : sG F h h') (h1 : ¬ F f) (h2 : ¬ F d) (h3 : ¬ F b) (h4 : ¬ F mp) (h5 : ¬ F bs) : aGi h' f d b mp bs M L c := by
 obtain ⟨⟨q1, q2, q3⟩, ⟨d1, d2, d3, d4, d5⟩, q4⟩ := q; exact ⟨⟨q1.off k h1, q2.off k h5, q3⟩, ⟨d1.off k h2, oF d2 k h3, by rw [k.get mp d4 h4]; exact d3, Nat.lt_of_lt_of_le d4 k.size, d5⟩, q4⟩
theorem mN.off {F : Nat -> Prop} {h h' : H} {B : fL} {X : pC} (r : mN h B X) (k : sG F h h') (hF : ∀ c, B.has c -> ¬ F c) : mN h' B X := by
 obtain ⟨c, o, q, n⟩ := r; exact ⟨c, o.off k (hF _ (.inl rfl)), q.off k (hF _ (by simp [fL.has])) (hF _ (by simp [fL.has])) (hF _ (by simp [fL.has])) (hF _ (by simp [fL.has])) (hF _ (by simp [fL.has])), n⟩
theorem mN.grown {h h' : H} {B : fL} {X : pC} (r : mN h B X) (g : bX h h') : mN h' B X := r.off (g.off λ _ => False) λ _ _ => id
theorem eapp {n0 es : Nat} {h : H} {v : DV} {L : List DV} (o : jD n0 es h v L) (hn0 : n0 <= h.size) {x : DV} {S : List DV} {k bytes : Nat} (hk : eI x = some k) (hS : dO es h.get x = some S) (hSl : S.length = k * es) (h1 : S.all DV.one = true) (he : 0 < es)
   (hsz : ∀ n, L.length = n * es -> (n + k) * bytes < bU /\ n + k < bU) : ∃ v' h', cG es bytes v x h = some (v', h') /\ jD n0 es h' v' (L ++ S) /\ sG (λ c => ∃ n, v = .slc c 0 n n true) h h' /\ (0 < k -> ∃ m, v' = .slc h.size 0 m m true) := by
 rw [iK]; rcases o with ⟨rfl, rfl⟩ | ⟨b, n, pl, t, hb, hlt, hl, rfl, g, ht⟩
 · simp only [fT, hk, hS, Option.bind_some]; by_cases hk0 : k = 0
   · subst hk0; have : S = [] := List.eq_nil_of_length_eq_zero (by omega)
     subst this; exact ⟨.nils, h, rfl, .inl ⟨rfl, rfl⟩, sG.refl _ _, λ h => absurd h (by omega)⟩
   · have hb0 : Nat.beq k 0 = false := by rw [Bool.eq_false_iff]; intro hh; exact hk0 (Nat.eq_of_beq_eq_true hh)
     obtain ⟨s1, s2⟩ := hsz 0 (by simp)
     rw [Nat.zero_add] at s1 s2; rw [hb0, cond_false, dP s1, dP s2, Bool.and_self, cond_true, H.pushK_eq]; refine ⟨_, _, rfl, .inr ⟨h.size, k, true, Tr.ofL S, hn0, by simp, by simpa using hSl, rfl, by rw [H.get_push, if_pos rfl], λ j x hj => by rw [Tr.at_ofL]; simpa using hj⟩, (bX.push _ _).off _, λ _ => ⟨_, rfl⟩⟩
 · simp only [fT, hk, hS, Option.bind_some, aR]; by_cases hk0 : k = 0
   · subst hk0; have : S = [] := List.eq_nil_of_length_eq_zero (by omega)
     subst this; rw [Nat.ble_eq_true_of_le (by omega), cond_true]
     exact ⟨_, h, rfl, .inr ⟨b, n, pl, t, hb, hlt, by simpa using hl, rfl, g, by simpa using ht⟩, sG.refl _ _, λ h => absurd h (by omega)⟩
   · obtain ⟨s1, s2⟩ := hsz n hl; have e1 : Nat.beq (0 + n * es) (n * es) = true := by rw [Nat.zero_add]; exact Nat.beq_refl _
     have e2 : uO 0 n es ⟨n * es, es, false, pl, t⟩ S h.get b = some (Tr.ofF S (n * es) t) := rfl; rw [oX (by omega), cond_false, dP s1, dP s2, Bool.and_self, cond_true, g]
     simp only [e1, Nat.beq_refl, Bool.not_false, Nat.ble_eq_true_of_le (Nat.le_refl n), h1, Bool.and_self, cond_true, e2, Option.bind_some, H.pushK_eq, H.putK_eq]; refine ⟨_, _, rfl, .inr ⟨h.size, n + k, false, Tr.ofF S (n * es) t, hn0, by simp, by rw [List.length_append, hl, hSl, Nat.add_mul], rfl, ?_, λ j x hj => ?_⟩, ⟨by simp, λ c hc hf => ?_⟩, λ _ => ⟨_, rfl⟩⟩
     · rw [H.get_put, if_neg (by omega), H.get_push, if_pos rfl]
     · rw [Tr.at_ofF]; by_cases hj2 : n * es <= j
       · have hlt2 : j - L.length < S.length := by
           have := qX hj; rw [List.length_append] at this; omega
         rw [if_pos ⟨hj2, by rw [<- hl]; omega⟩]
         rw [List.getElem?_append_right (by omega), hl] at hj; exact hj
       · rw [if_neg (by omega)]
         rw [List.getElem?_append_left (by omega)] at hj
         exact ht j x hj
     · rw [H.get_put, if_neg (λ e => hf ⟨n, by rw [e]⟩), H.get_push, if_neg (by omega)]
theorem mx9 (s : Int) : rL (.int .i64 s) (.int .i64 (.ofNat 9)) = some (.int .i64 (.ofNat (max s.toNat 9))) := by
 show some (DV.int .i64 (bif iLt s (.ofNat 9) then .ofNat 9 else s)) = _; rw [kJ]; by_cases h : s < .ofNat 9
 · rw [decide_eq_true h, cond_true, Nat.max_eq_right (by simp only [Int.ofNat_eq_natCast] at h; omega)]
 · rw [decide_eq_false h, cond_false, Nat.max_eq_left (by simp only [Int.ofNat_eq_natCast] at h; omega)]
   congr 2
   simp only [Int.ofNat_eq_natCast] at h ⊢; omega
def zY (n : Nat) : pC := ⟨false, false, xX (n / 9), List.replicate n gN⟩
def aDy (h : H) (sv : Nat) (n : Nat) (S : List fL) : Prop := (∀ B ∈ S, mN h B (zY n)) /\ S.Pairwise (λ A B => ∀ x y, A.has x -> B.has y -> x < y) /\ ∀ B ∈ S, ∀ x, B.has x -> sv < x
theorem aLX {E : aX} (hN : kT E 45 rJ) (hO : kT E 46 pE) {sv n : Nat} {s : Int} (hs : s <= 2000) (hn : n <= 8) :
   ∀ (k i m : Nat) (hh : H) (v : DV) (S : List fL), i + k = n -> S.length = i -> aD hh sv [v] -> jD (sv + 1) 1 hh v (wC (S.map fL.p)) -> aDy hh sv (max s.toNat 9) S -> (∀ c q, v = .slc c 0 q q true -> ∀ B ∈ S, ∀ x, B.has x -> x < c) ->
   W (aCu E (.int .i64 s) (.ptr sv 0) (.int .i64 (.ofNat n)) (m + (k + 1)) (.int .i64 (.ofNat i)) hh) λ r h' => r = .ptr sv 0 /\ ∃ v S, S.length = n /\ aD h' sv [v] /\ jD (sv + 1) 1 h' v (wC (S.map fL.p)) /\ aDy h' sv (max s.toNat 9) S /\ (∀ c q, v = .slc c 0 q q true -> ∀ B ∈ S, ∀ x, B.has x -> x < c) /\ dQ sv hh h' := by
 obtain ⟨B1, b1, s1⟩ := hN.call; obtain ⟨B2, b2, s2⟩ := hO.call; intro k
 induction k with
 | zero =>
   intro i m hh v S hk hS o a N Z; have hi : i = n := by omega
   subst hi; show W (aGt E _ _ _ (aCu E _ _ _ m) _ hh) _; unfold aGt aLC
   repeat' (first | with_reducible refine sT ?_ | with_reducible refine sF ?_ | with_reducible refine g1 ?_ | with_reducible refine g2 ?_ | with_reducible refine g3 ?_ | with_reducible refine g4 ?_ | ((with_reducible apply sV); first | exact aD.read (by assumption) (by rfl) | exact aD.readN (by assumption) (Nat.le_of_ble_eq_true rfl) | exact fZ (by omega) | exact gE (by omega) | exact gtT (by omega) | exact gtF (by omega) | exact leT (by omega) | exact gF (by omega) | exact geT (by omega) | exact geF (by omega) | exact gG (by omega) | exact gH (by omega) | exact fS (by omega) | exact fY (by omega) | exact aJ (by omega) | exact cS (by omega) | exact aH (by omega) (by omega) | exact aI (by omega) _ | exact aO _ _ _ _ | exact aN _ _ _ _ | exact aM _ _ _ | exact rfl) | exact W.ret ⟨rfl, rfl⟩ | with_reducible refine W.ret ?_)
   exact ⟨rfl, v, S, hS, o, a, N, Z, dQ.refl _ _⟩
 | succ k ih =>
   intro i m hh v S hk hS o a N Z; show W (aGt E _ _ _ (aCu E _ _ _ (m + (k + 1))) _ hh) _; unfold aGt
   repeat' (first | with_reducible refine sT ?_ | with_reducible refine sF ?_ | with_reducible refine g1 ?_ | with_reducible refine g2 ?_ | with_reducible refine g3 ?_ | with_reducible refine g4 ?_ | ((with_reducible apply sV); first | exact mx9 s | exact aD.read (by assumption) (by rfl) | exact aD.readN (by assumption) (Nat.le_of_ble_eq_true rfl) | exact fZ (by omega) | exact gE (by omega) | exact gtT (by omega) | exact gtF (by omega) | exact leT (by omega) | exact gF (by omega) | exact geT (by omega) | exact geF (by omega) | exact gG (by omega) | exact gH (by omega) | exact fS (by omega) | exact fY (by omega) | exact aJ (by omega) | exact cS (by omega) | exact aH (by omega) (by omega) | exact aI (by omega) _ | exact aO _ _ _ _ | exact aN _ _ _ _ | exact aM _ _ _ | exact rfl) | exact W.ret ⟨rfl, rfl⟩ | with_reducible refine W.ret ?_)
   obtain ⟨d, b, mp, h4, f4, D4, g4, l1, l2, l3⟩ := s1 (max s.toNat 9) hh (by omega) (by omega)
   refine sC b1 f4 ?_; refine sN b2 (s2 d b mp _ 0 h4 D4 (by omega) (by omega)) ?_
   rintro _ h6 ⟨f, bs, rfl, lf, lbs, Q6, g6⟩
   have l4 := D4.1.1; have l5 := D4.2.1.1; have l6 := D4.2.2.2.1; have z4 := g4.size; have z6 := g6.size; have o6 := (o.grown g4).grown g6
   repeat' (first | with_reducible refine sT ?_ | with_reducible refine sF ?_ | with_reducible refine g1 ?_ | with_reducible refine g2 ?_ | with_reducible refine g3 ?_ | with_reducible refine g4 ?_ | ((with_reducible apply sV); first | exact aD.read (by assumption) (by rfl) | exact aD.readN (by assumption) (Nat.le_of_ble_eq_true rfl) | exact fZ (by omega) | exact gE (by omega) | exact gtT (by omega) | exact gtF (by omega) | exact leT (by omega) | exact gF (by omega) | exact geT (by omega) | exact geF (by omega) | exact gG (by omega) | exact gH (by omega) | exact fS (by omega) | exact fY (by omega) | exact aJ (by omega) | exact cS (by omega) | exact aH (by omega) (by omega) | exact aI (by omega) _ | exact aO _ _ _ _ | exact aN _ _ _ _ | exact aM _ _ _ | exact rfl) | exact W.ret ⟨rfl, rfl⟩ | with_reducible refine W.ret ?_)
   refine sX λ h7 z7 g7 o7 => ?_
   refine sL rfl rfl λ h8 z8 g8 o8 => ?_
   have G : bX hh h8 := ((((gk g4 (Nat.le_refl _)).trans (gk g6 z4)).trans (gk g7 (by omega))).trans (gk g8 (by omega))).grown
   have a8 := a.grown G; have lsv := o.1; have hsrc : dO 1 h8.get (.slc h7.size 0 1 1 false) = some [.ptr h6.size 0] := o8.cells (o := 0) (k := 1) (Nat.le_of_ble_eq_true rfl); obtain ⟨v9, h9, f9, a9, k9, w9⟩ := eapp a8 (x := .slc h7.size 0 1 1 false) (S := [.ptr h6.size 0]) (k := 1) (bytes := 8) (by omega) rfl hsrc rfl rfl (by decide) (λ q hq => by
     rw [wC, List.length_map, List.length_map] at hq; unfold bU; omega)
   refine sW f9 ?_; have ov := (o.grown G).off k9 (λ ⟨q, e⟩ => by
     rcases a with ⟨e', _⟩ | ⟨b', _, _, _, h1, _, _, e', _⟩
     · rw [e'] at e; cases e
     · rw [e'] at e; cases e; omega)
   have hv : ∀ c q, v = .slc c 0 q q true -> c < hh.size := λ c q e => by
     rcases a with ⟨e', _⟩ | ⟨b', _, _, _, h1, h2, _, e', _⟩
     · rw [e'] at e; cases e
     · rw [e'] at e; cases e; exact h2
   repeat' (first | with_reducible refine sT ?_ | with_reducible refine sF ?_ | with_reducible refine g1 ?_ | with_reducible refine g2 ?_ | with_reducible refine g3 ?_ | with_reducible refine g4 ?_ | ((with_reducible apply sV); first | exact aD.read (by assumption) (by rfl) | exact aD.readN (by assumption) (Nat.le_of_ble_eq_true rfl) | exact fZ (by omega) | exact gE (by omega) | exact gtT (by omega) | exact gtF (by omega) | exact leT (by omega) | exact gF (by omega) | exact geT (by omega) | exact geF (by omega) | exact gG (by omega) | exact gH (by omega) | exact fS (by omega) | exact fY (by omega) | exact aJ (by omega) | exact cS (by omega) | exact aH (by omega) (by omega) | exact aI (by omega) _ | exact aO _ _ _ _ | exact aN _ _ _ _ | exact aM _ _ _ | exact rfl) | exact W.ret ⟨rfl, rfl⟩ | with_reducible refine W.ret ?_)
   refine sS1 (j := 0) ov (Nat.le_of_ble_eq_true rfl) a9.one λ h12 o12 k12 => ?_
   repeat' (first | with_reducible refine sT ?_ | with_reducible refine sF ?_ | with_reducible refine g1 ?_ | with_reducible refine g2 ?_ | with_reducible refine g3 ?_ | with_reducible refine g4 ?_ | ((with_reducible apply sV); first | exact aD.read (by assumption) (by rfl) | exact aD.readN (by assumption) (Nat.le_of_ble_eq_true rfl) | exact fZ (by omega) | exact gE (by omega) | exact gtT (by omega) | exact gtF (by omega) | exact leT (by omega) | exact gF (by omega) | exact geT (by omega) | exact geF (by omega) | exact gG (by omega) | exact gH (by omega) | exact fS (by omega) | exact fY (by omega) | exact aJ (by omega) | exact cS (by omega) | exact aH (by omega) (by omega) | exact aI (by omega) _ | exact aO _ _ _ _ | exact aN _ _ _ _ | exact aM _ _ _ | exact rfl) | exact W.ret ⟨rfl, rfl⟩ | with_reducible refine W.ret ?_)
   have z7' := g7.size; have z8' := g8.size; have z9 := k9.size; have lfs : bs < h6.size := by obtain ⟨⟨_, ⟨_, q, _⟩, _⟩, _⟩ := Q6; exact q
   let B : fL := ⟨h6.size, d, b, mp, f, bs⟩
   have hB : ∀ x, B.has x -> hh.size <= x /\ x < h7.size := λ x hx => by
     have e : x = h6.size \/ x = d \/ x = b \/ x = mp \/ x = f \/ x = bs := hx; omega
   have kk : ∀ (A : fL), (∀ x, A.has x -> x ≠ sv /\ ∀ q, v ≠ .slc x 0 q q true) -> ∀ X, mN h8 A X -> mN h12 A X := λ A hA X r =>
     (r.off k9 λ x hx ⟨q, e⟩ => (hA x hx).2 q e).off (k12.off (F := λ c => c = sv) rfl) λ x hx e => (hA x hx).1 e
   have N12 : aDy h12 sv (max s.toNat 9) (S ++ [B]) := by
     refine ⟨λ A hA => ?_, ?_, λ A hA x hx => ?_⟩
     · rcases List.mem_append.1 hA with hA | hA
       · exact kk A (λ x hx => ⟨by have := N.2.2 A hA x hx; omega, λ q e => by have := Z x q e A hA x hx; omega⟩) _ ((N.1 A hA).grown G)
       · rw [List.mem_singleton] at hA; subst hA; refine kk B (λ x hx => ⟨by have := (hB x hx).1; omega, λ q e => by have := (hB x hx).1; have := hv x q e; omega⟩) _ ⟨0, (o7.grown g8), (Q6.grown g7).grown g8, by show h6.size ≠ d; omega, by show h6.size ≠ b; omega, by show h6.size ≠ mp; omega, by show h6.size ≠ f; omega, by show h6.size ≠ bs; omega⟩
     · rw [List.pairwise_append]; refine ⟨N.2.1, by simp, λ A hA C hC x y hx hy => ?_⟩
       rw [List.mem_singleton] at hC; subst hC; have := (N.1 A hA).lt hx; have := (hB y hy).1; omega
     · rcases List.mem_append.1 hA with hA | hA
       · exact N.2.2 A hA x hx
       · rw [List.mem_singleton] at hA; subst hA; have := (hB x hx).1; omega
   have e1 : wC (S.map fL.p) ++ [.ptr h6.size 0] = wC ((S ++ [B]).map fL.p) := by simp [wC, B]
   rw [e1] at a9; obtain ⟨mm, ev⟩ := w9 (by omega)
   have K : dQ sv hh h12 := ((gk G (by omega)).trans ⟨k9.size, λ c hc => k9.get c (by have := G.size; omega) λ ⟨q, e⟩ => by
     rcases a with ⟨e', _⟩ | ⟨b', _, _, _, h1, _, _, e', _⟩
     · rw [e'] at e; cases e
     · rw [e'] at e; cases e; omega⟩).trans (k12.keeps (Nat.le_refl _))
   refine W.mono (ih (i + 1) m h12 v9 (S ++ [B]) (by omega) (by simp [hS]) o12 (aNQ a9 k12 (by omega)) N12 (λ c q e A hA x hx => ?_)) ?_
   · rw [ev] at e; cases e; rcases List.mem_append.1 hA with hA | hA
     · have := (N.1 A hA).lt hx; omega
     · rw [List.mem_singleton] at hA; subst hA; have := (hB x hx).2; omega
   · rintro r h' ⟨rfl, v', S', p1, p2, p3, p4, p5, p6⟩
     exact ⟨rfl, v', S', p1, p2, p3, p4, p5, K.trans p6⟩
def rH (B : bB) : Prop := ∀ (n : Nat) (s : Int) (h : H), 1 <= n -> n <= 8 -> s <= 2000 -> W (B [.int .i64 (.ofNat n), .int .i64 s] h) λ v h' => ∃ sv lb S, v = .ptr sv 0 /\ S.length = n /\ h.size <= sv /\ aPG h' sv lb (S.map fL.p) /\ aDy h' sv (max s.toNat 9) S /\ (∀ B ∈ S, ∀ x, B.has x -> x < lb) /\ sv < lb /\ bX h h'
theorem aGD {E : aX} (hN : kT E 45 rJ) (hO : kT E 46 pE) : rH (S25 E) := by
 intro n s h h1 h8 hs; show W (aLD E (.int .i64 (.ofNat n)) (.int .i64 s) h) _; unfold aLD
 repeat' (first | with_reducible refine sT ?_ | with_reducible refine sF ?_ | with_reducible refine g1 ?_ | with_reducible refine g2 ?_ | with_reducible refine g3 ?_ | with_reducible refine g4 ?_ | ((with_reducible apply sV); first | exact aD.read (by assumption) (by rfl) | exact aD.readN (by assumption) (Nat.le_of_ble_eq_true rfl) | exact fZ (by omega) | exact gE (by omega) | exact gtT (by omega) | exact gtF (by omega) | exact leT (by omega) | exact gF (by omega) | exact geT (by omega) | exact geF (by omega) | exact gG (by omega) | exact gH (by omega) | exact fS (by omega) | exact fY (by omega) | exact aJ (by omega) | exact cS (by omega) | exact aH (by omega) (by omega) | exact aI (by omega) _ | exact aO _ _ _ _ | exact aN _ _ _ _ | exact aM _ _ _ | exact rfl) | exact W.ret ⟨rfl, rfl⟩ | with_reducible refine W.ret ?_)
 refine sX λ ha za ga oa => ?_
 repeat' (first | with_reducible refine sT ?_ | with_reducible refine sF ?_ | with_reducible refine g1 ?_ | with_reducible refine g2 ?_ | with_reducible refine g3 ?_ | with_reducible refine g4 ?_ | ((with_reducible apply sV); first | exact aD.read (by assumption) (by rfl) | exact aD.readN (by assumption) (Nat.le_of_ble_eq_true rfl) | exact fZ (by omega) | exact gE (by omega) | exact gtT (by omega) | exact gtF (by omega) | exact leT (by omega) | exact gF (by omega) | exact geT (by omega) | exact geF (by omega) | exact gG (by omega) | exact gH (by omega) | exact fS (by omega) | exact fY (by omega) | exact aJ (by omega) | exact cS (by omega) | exact aH (by omega) (by omega) | exact aI (by omega) _ | exact aO _ _ _ _ | exact aN _ _ _ _ | exact aM _ _ _ | exact rfl) | exact W.ret ⟨rfl, rfl⟩ | with_reducible refine W.ret ?_)
 have e : min (max n 1) 8 = n := by omega
 have := aLX hN hO hs h8 n 0 (aY - (n + 1)) ha .nils [] (by omega) rfl oa jD.nil ⟨(λ _ h => by cases h), List.Pairwise.nil, (λ _ h => by cases h)⟩ (λ _ _ e => by cases e)
 rw [show aY - (n + 1) + (n + 1) = aY from by unfold aY; omega, <- e] at this
 refine W.mono this ?_
 rintro _ h' ⟨rfl, v, S, p1, p2, p3, p4, p5, p6⟩
 rw [e] at p1; have G := ((gk ga (Nat.le_refl _)).trans p6).grown; rcases p3 with ⟨_, q⟩ | ⟨lb, q, pl, t, q1, q2, q3, rfl, q5, q6⟩
 · have := congrArg List.length q; simp [wC] at this; rw [this] at p1; simp at p1; omega
 have hq : q = (S.map fL.p).length := by simp [wC] at q3; simp; omega
 subst hq; have lp : (wC (S.map fL.p)).length = (S.map fL.p).length := by simp [wC]
 refine ⟨h.size, lb, S, rfl, p1, Nat.le_refl _, ⟨p2, ⟨q2, pl, t, by rw [q5, lp, Nat.mul_one], q6⟩, by simp; omega⟩, p4, λ B hB x hx => p5 lb _ rfl B hB x hx, by omega, G⟩
end Go.Proofs.YthpciaidbgjoeaaGreat
end
