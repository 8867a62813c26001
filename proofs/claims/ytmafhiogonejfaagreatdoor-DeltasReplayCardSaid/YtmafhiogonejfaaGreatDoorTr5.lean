/- The program's trees: what they compute. No condition. -/
import Derived.Test.YtmafhiogonejfaaGreatDoorTr4
import Derived.KernelRfl
set_option linter.unusedVariables false
set_option linter.unusedSimpArgs false
namespace Go.Proofs.YtmafhiogonejfaaGreatDoor
open Go.DI
def iI (h : H) (nv : DV) (n : bF) (k : Nat) (fp : Ln) : Prop :=
 (n.kind = 1 /\ ∃ f, nv = .ifc 141 (.ptr f 0) /\ aX h f [.str n.text, ii k] /\ fp = [f]) \/ (n.kind = 2 /\ ∃ d, nv = .ifc 120 (.agg [.ptr d 0]) /\ kI h d n.l fp)
structure cY (h : H) (t : Nat) (T : TreeP) (C : List DV) (FN : Nat -> Ln) : Prop where
 len : C.length = 514
 obj : aX h t C
 gen : C[512]? = some (ii T.gen)
 tot : C[513]? = some (ii (cT T.l))
 some_ : ∀ i n, bQ T.l i = some n -> C[i * 2]? = some (ii n.gen) /\ ∃ nv, C[i * 2 + 1]? = some nv /\ iI h nv n (aZ T.l i) (FN i)
 none_ : ∀ i, i < 256 -> bQ T.l i = none -> C[i * 2]? = some (ii 0) /\ C[i * 2 + 1]? = some .nili
 own : ∀ i, t ∉ FN i
 apart : ∀ i j, i ≠ j -> ∀ c ∈ FN i, c ∉ FN j
 void : ∀ i, bQ T.l i = none -> FN i = []
def Fp (t : Nat) (FN : Nat -> Ln) : Nat -> Prop := λ c => c = t \/ ∃ i, c ∈ FN i
theorem iI.off {h h' : H} {nv : DV} {n : bF} {k : Nat} {fp : Ln} (r : iI h nv n k fp) {F : Nat -> Prop} (g : kJ F h h') (hF : ∀ c ∈ fp, ¬ F c) : iI h' nv n k fp := by
 rcases r with ⟨h1, f, e, o, rfl⟩ | ⟨h1, d, e, o⟩
 · exact .inl ⟨h1, f, e, o.off g (hF f (by simp)), rfl⟩
 · exact .inr ⟨h1, d, e, o.off g hF⟩
theorem iI.lt {h : H} {nv : DV} {n : bF} {k : Nat} {fp : Ln} (r : iI h nv n k fp) : ∀ c ∈ fp, c < h.size := by
 rcases r with ⟨h1, f, e, o, rfl⟩ | ⟨h1, d, e, o⟩
 · intro c hc; simp at hc; subst hc; exact o.1
 · exact o.lt
theorem cY.off {h h' : H} {t : Nat} {T : TreeP} {C : List DV} {FN : Nat -> Ln} (r : cY h t T C FN) {F : Nat -> Prop} (g : kJ F h h') (hF : ∀ c, Fp t FN c -> ¬ F c) : cY h' t T C FN where
 len := r.len
 obj := r.obj.off g (hF t (.inl rfl))
 gen := r.gen
 tot := r.tot
 some_ := λ i n hn => by
   obtain ⟨h1, nv, h2, h3⟩ := r.some_ i n hn; exact ⟨h1, nv, h2, h3.off g λ c hc => hF c (.inr ⟨i, hc⟩)⟩
 none_ := r.none_
 own := r.own
 apart := r.apart
 void := r.void
theorem cY.grown {h h' : H} {t : Nat} {T : TreeP} {C : List DV} {FN : Nat -> Ln} (r : cY h t T C FN) (g : aH h h') : cY h' t T C FN := r.off (g.off λ _ => False) λ _ _ hf => hf
theorem cY.lt {h : H} {t : Nat} {T : TreeP} {C : List DV} {FN : Nat -> Ln} (r : cY h t T C FN) {c : Nat} (hc : Fp t FN c) : c < h.size := by
 rcases hc with rfl | ⟨i, hi⟩
 · exact r.obj.1
 · cases hg : bQ T.l i with
   | none => rw [r.void i hg] at hi; cases hi
   | some n =>
     obtain ⟨_, nv, _, h3⟩ := r.some_ i n hg; exact h3.lt c hi
theorem rH {t i : Nat} (hi : i < 256) (k : IntKind) : aI 0 (.ptr t 0) = some (.ptr t 0) /\ pF 256 2 (.ptr t 0) (.int k (.ofNat i)) = some (.ptr t (i * 2)) /\ aI 0 (.ptr t (i * 2)) = some (.ptr t (i * 2)) /\ aI 1 (.ptr t (i * 2)) = some (.ptr t (i * 2 + 1)) := by
 refine ⟨by rw [aJ], ?_, by rw [aJ, Nat.add_zero], aJ 1 t (i * 2)⟩
 rw [aHR hi, Nat.zero_add]
def qV (B : cF) : Prop := ∀ (t : Nat) (T : TreeP) (C : List DV) (FN : Nat -> Ln) (i : Nat) (n : bF) (h : H), cY h t T C FN -> bQ T.l i = some n -> i < 256 ->
 ∃ v h', B [.ptr t 0, ii i] h = some (v, h') /\ aH h h' /\ ((n.kind = 1 /\ v = .nilp) \/ (n.kind = 2 /\ ∃ d, v = .ptr d 0 /\ kI h d n.l (FN i) /\ C[i * 2 + 1]? = some (.ifc 120 (.agg [.ptr d 0]))))
theorem aVM {E : bJ} : qV (S87 E) := by
 intro t T C FN i n h r hn hi; obtain ⟨h1, nv, h2, h3⟩ := r.some_ i n hn; obtain ⟨p1, p2, p3, p4⟩ := rH (t := t) hi .i64; have rd : aF h.get (.ptr t (i * 2 + 1)) = some nv := r.obj.read h2; obtain ⟨h10, e10, g10, o10⟩ := aO h 1 1 [.nilp] rfl; show ∃ v h', aUn E (.ptr t 0) (ii i) h = _ /\ _; unfold aUn; rw [bA, aA, p1, aA, p2, aA, p4, aA, rd, aA]; rcases h3 with ⟨hk, f, rfl, o, _⟩ | ⟨hk, d, rfl, o⟩
 · obtain ⟨h12, f12, o12, k12⟩ := o10.set (v := .nilp) (j := 0) rfl (by simp)
   have f12' : bY 1 (.ptr h.size 0) (.agg [.nilp]) h10 = some (.tup [], h12) := f12; refine ⟨.nilp, h12, ?_, k12.grown g10 (Nat.le_refl _), .inl ⟨hk, rfl⟩⟩; have e : nF 120 (.agg [.nilp]) true (.ifc 141 (.ptr f 0)) = some (.tup [.agg [.nilp], .bool false]) := rfl; rw [e, aA, aL, aA, aK, aA, bG, <- e10, f12', aB, gJ, aA, Bool.not_false, aD]
 · obtain ⟨h12, f12, o12, k12⟩ := o10.set (v := .ptr d 0) (j := 0) rfl (by simp)
   have f12' : bY 1 (.ptr h.size 0) (.agg [.ptr d 0]) h10 = some (.tup [], h12) := f12; refine ⟨.ptr d 0, h12, ?_, k12.grown g10 (Nat.le_refl _), .inr ⟨hk, d, rfl, o, h2⟩⟩; have e : nF 120 (.agg [.nilp]) true (.ifc 120 (.agg [.ptr d 0])) = some (.tup [.agg [.ptr d 0], .bool true]) := rfl; rw [e, aA, aL, aA, aK, aA, bG, <- e10, f12', aB, gJ, aA, Bool.not_true, aC, aJ, aA, o12.read (j := 0 + 0) rfl, aA]
def pV (B : cF) : Prop := ∀ (t : Nat) (T : TreeP) (C : List DV) (FN : Nat -> Ln) (i : Nat) (n : bF) (h : H), cY h t T C FN -> bQ T.l i = some n -> i < 256 ->
 ∃ v, B [.ptr t 0, ii i] h = some (v, h) /\ ((n.kind = 2 /\ v = .nilp) \/ (n.kind = 1 /\ ∃ f, v = .ptr f 0 /\ aX h f [.str n.text, ii ((aZ T.l i))] /\ FN i = [f] /\ C[i * 2 + 1]? = some (.ifc 141 (.ptr f 0))))
theorem aPT {E : bJ} : pV (S86 E) := by
 intro t T C FN i n h r hn hi; obtain ⟨h1, nv, h2, h3⟩ := r.some_ i n hn; obtain ⟨p1, p2, p3, p4⟩ := rH (t := t) hi .i64; have rd : aF h.get (.ptr t (i * 2 + 1)) = some nv := r.obj.read h2; show ∃ v, aUo E (.ptr t 0) (ii i) h = _ /\ _; unfold aUo; rw [bA, aA, p1, aA, p2, aA, p4, aA, rd, aA]; rcases h3 with ⟨hk, f, rfl, o, hf⟩ | ⟨hk, d, rfl, o⟩
 · have e : nF 141 .nilp true (.ifc 141 (.ptr f 0)) = some (.tup [.ptr f 0, .bool true]) := rfl; exact ⟨.ptr f 0, by rw [e, aA, aL, aA, aK, aA], .inr ⟨hk, f, rfl, o, hf, h2⟩⟩
 · have e : nF 141 .nilp true (.ifc 120 (.agg [.ptr d 0])) = some (.tup [.nilp, .bool false]) := rfl; exact ⟨.nilp, by rw [e, aA, aL, aA, aK, aA], .inl ⟨hk, rfl⟩⟩
def aCF (B : cF) : Prop := ∀ (t : Nat) (T : TreeP) (C : List DV) (FN : Nat -> Ln) (k : Nat) (h : H), cY h t T C FN -> Inv k T -> B [.ptr t 0] h = some (ii ((if jV T.l = 256 then 0 else jV T.l)), h)
theorem aJk {E : bJ} {t : Nat} {T : TreeP} {C : List DV} {FN : Nat -> Ln} {k0 : Nat} {h : H} (r : cY h t T C FN) (hI : Inv k0 T) :
   ∀ (k j m : Nat), jV T.l - j = k -> 2 <= j -> j <= jV T.l -> aCW E (.ptr t 0) (m + (k + 1)) (ii j) h = some (ii ((if jV T.l = 256 then 0 else jV T.l)), h) := by
 obtain ⟨e1, e2, e3, e4⟩ := aBv hI; intro k
 induction k with
 | zero =>
   intro j m hk h2 hj; have : j = jV T.l := by omega
   subst this; show aGF E _ (aCW E _ m) _ h = _; unfold aGF; rw [aP, aA]; by_cases h256 : jV T.l = 256
   · rw [if_pos h256, decide_eq_false (by omega), aC]; rfl
   · obtain ⟨p1, p2, p3, p4⟩ := rH (t := t) (i := jV T.l) (by omega) .i64
     have rd : aF h.get (.ptr t (jV T.l * 2 + 1)) = some .nili := r.obj.read (r.none_ _ (by omega) e3).2
     rw [if_neg h256, decide_eq_true (by omega), aD, bA, aA, p1, aA, p2, aA, p4, aA, rd, aA]
     have e : eM .nilI false h.get .nili .nili = some (.bool true) := rfl; rw [e, aA, aD]
 | succ k ih =>
   intro j m hk h2 hj; have hlt : j < jV T.l := by omega
   obtain ⟨n, hn⟩ := e4 j h2 hlt; obtain ⟨_, nv, c1, c2⟩ := r.some_ j n hn; obtain ⟨p1, p2, p3, p4⟩ := rH (t := t) (i := j) (by omega) .i64
   have rd : aF h.get (.ptr t (j * 2 + 1)) = some nv := r.obj.read c1; show aGF E _ (aCW E _ (m + (k + 1))) _ h = _; unfold aGF; rw [aP, aA, decide_eq_true (by omega), aD, bA, aA, p1, aA, p2, aA, p4, aA, rd, aA]
   have e : eM .nilI false h.get nv .nili = some (.bool false) := by
     rcases c2 with ⟨_, f, rfl, _⟩ | ⟨_, d, rfl, _⟩ <;> rfl
   rw [e, aA, aC, bO (by omega), aA]
   exact ih (j + 1) m (by omega) (by omega) (by omega)
theorem aPR {E : bJ} : aCF (bAd E) := by
 intro t T C FN k h r hI; obtain ⟨e1, e2, e3, e4⟩ := aBv hI; show aLf E (.ptr t 0) h = _; unfold aLf; have := aJk (E := E) r hI (jV T.l - 2) 2 (aQ - (jV T.l - 2 + 1)) rfl (Nat.le_refl _) e1; rw [show aQ - (jV T.l - 2 + 1) + (jV T.l - 2 + 1) = aQ from by unfold aQ; omega] at this
 exact this
def yV (B : cF) : Prop := ∀ (t : Nat) (T : TreeP) (C : List DV) (FN : Nat -> Ln) (k : Nat) (w : DV) (names : List (Ln)) (h : H), cY h t T C FN -> Inv k T -> k < 900 -> dE h w (cU names) -> names.length < 1000000 ->
 ∃ h', B [.ptr t 0, w] h = some (.tup [ii ((eV T.l names 1).1), ii ((eV T.l names 1).2)], h') /\ aH h h'
theorem aJc {E : bJ} (hD : bL E 87 qV) (hL : bL E 145 xH) {t : Nat} {T : TreeP} {C : List DV} {FN : Nat -> Ln} {k0 : Nat} (hI : Inv k0 T) (hk0 : k0 < 900) {w : DV} {names : List (Ln)} (hnl : names.length < 1000000) :
   ∀ (k j at_ m : Nat) (h : H) (n : bF), names.length - j = k -> j <= names.length -> dE h w (cU names) -> cY h t T C FN -> bQ T.l at_ = some n ->
   ∃ h', aCZ E (.ptr t 0) w (ii names.length) (m + (k + 1)) (ii at_) (ii j) h = some (.tup [ii ((eV T.l (names.drop j) at_).1), ii ((eV T.l (names.drop j) at_).2)], h') /\ aH h h' := by
 obtain ⟨B1, b1, s1⟩ := hD.call; obtain ⟨B2, b2, s2⟩ := hL.call; intro k
 induction k with
 | zero =>
   intro j at_ m h n hk hj rw_ r hn; have : j = names.length := by omega
   subst this; refine ⟨h, ?_, aH.refl _⟩; show aGI E _ _ _ (aCZ E _ _ _ m) _ _ h = _; unfold aGI; rw [aP, aA, decide_eq_false (Nat.lt_irrefl _), aC]; unfold aLh; rw [List.drop_length]; rfl
 | succ k ih =>
   intro j at_ m h n hk hj rw_ r hn; have hlt : j < names.length := by omega
   obtain ⟨nm, hnm⟩ : ∃ nm, names[j]? = some nm := ⟨_, List.getElem?_eq_getElem hlt⟩; have hd : names.drop j = nm :: names.drop (j + 1) := by
     rw [List.drop_eq_getElem_cons hlt]; rw [List.getElem?_eq_getElem hlt] at hnm; rw [Option.some.inj hnm]
   obtain ⟨nb, no, i1, i2⟩ := rw_.at (j := j) (x := .str nm) (by unfold cU; rw [List.getElem?_map, hnm]; rfl) .i64
   have hok := hI.of hn; obtain ⟨v, h1, f1, g1, c1⟩ := s1 t T C FN at_ n h r hn (by have := hok.1.rng; omega)
   rw [hd]; simp only [eV, hn]; show ∃ h', aGI E _ _ _ (aCZ E _ _ _ (m + (k + 1))) _ _ h = _ /\ _; unfold aGI; rw [aP, aA, decide_eq_true hlt, aD, i1, aA, i2, aA, b1, f1, aB]; rcases c1 with ⟨hk1, rfl⟩ | ⟨hk2, d, rfl, hda, _⟩
   · rw [if_pos hk1]; have e : eM .ptr false h1.get .nilp .nilp = some (.bool true) := rfl; rw [e, aA, aD]; exact ⟨h1, rfl, g1⟩
   · rw [if_neg (by omega)]
     have e : eM .ptr false h1.get (.ptr d 0) .nilp = some (.bool false) := rfl; have hlen := hok.1.len; have hda1 := hda.off (g1.off λ _ => False) λ _ _ hf => hf
     obtain ⟨h2, f2, g2⟩ := s2 aPs d n.l nm h1 (hda1.view λ _ _ => trivial) hok.1.srt (by omega)
     rw [e, aA, aC, b2, f2, aB, aL, aA, aK, aA, bC, aA]; by_cases hh : eS n.l nm = true
     · have e0 : mK n.l nm = 0 := by unfold mK; rw [hh]; rfl
       obtain ⟨mm, hm⟩ := hI.ent _ (yG (dG hn).1 (mJ hh)); have G := g1.trans g2; obtain ⟨h3, f3, g3⟩ := ih (j + 1) (jU n.l nm) m h2 mm (by omega) (by omega) (rw_.grown G) (r.grown G) hm
       rw [if_pos hh]; refine ⟨h3, ?_, G.trans g3⟩; rw [e0]; simp only [decide_true, Bool.not_true]; rw [aC, bO (by omega), aA]
       exact f3
     · have e0 : mK n.l nm = 7 := by unfold mK; rw [if_neg hh]
       rw [if_neg hh, e0]; refine ⟨h2, ?_, g1.trans g2⟩; rw [show (!decide (7 = 0)) = true from rfl, aD]
theorem aPJ {E : bJ} (hD : bL E 87 qV) (hL : bL E 145 xH) : yV (bAe E) := by
 intro t T C FN k w names h r hI hk rw_ hnl; obtain ⟨r1, hr1, _⟩ := hI.root; obtain ⟨h', f, g⟩ := aJc (E := E) hD hL hI hk hnl names.length 0 1 (aQ - (names.length + 1)) h r1 (by omega) (by omega) rw_ r hr1
 rw [show aQ - (names.length + 1) + (names.length + 1) = aQ from by unfold aQ; omega, List.drop_zero] at f
 refine ⟨h', ?_, g⟩; show aLi E (.ptr t 0) w h = _; unfold aLi; rw [rw_.len, aA, bH]; exact f
def lL (B : cF) : Prop := ∀ (t : Nat) (T : TreeP) (C : List DV) (FN : Nat -> Ln) (k : Nat) (p : Ln) (h : H), cY h t T C FN -> Inv k T -> k < 900 -> p.length < 140737488355328 ->
 ∃ h', B [.ptr t 0, .str p] h = some (.tup [ii ((aU T p).1), ii ((aU T p).2)], h') /\ aH h h'
theorem aPP {E : bJ} (hS : bL E 137 jE) (hW : bL E 138 yV) : lL (S85 E) := by
 obtain ⟨B0, b0, s0⟩ := hS.call; obtain ⟨B1, b1, s1⟩ := hW.call; intro t T C FN k p h r hI hk hp; obtain ⟨w, h4, f4, r4, g4⟩ := s0 p h hp; show ∃ h', aUp E (.ptr t 0) (.str p) h = _ /\ _; unfold aUp aU; rw [cO, aA, aC, b0, f4, aB, aL, aA, aK, aA, bC, aA]; by_cases hE : eO p = 0
 · have hnl : (aT p).length < 1000000 := by have := (iJ p).2.2.1; omega
   obtain ⟨h5, f5, g5⟩ := s1 t T C FN k w (aT p) h4 (r.grown g4) hI hk r4 hnl; rw [if_pos hE, hE]; refine ⟨h5, ?_, g4.trans g5⟩; simp only [decide_true, Bool.not_true]; rw [aC, b1, f5, aB, aL, aA, aK, aA]
 · rw [if_neg hE]; refine ⟨h4, ?_, g4⟩; have d : (!decide (eO p = 0)) = true := by simp [hE]
   rw [d, aD]
theorem qM {T : TreeP} {p : Ln} {k : Nat} (hI : Inv k T) (h : (aU T p).2 = 0) : ∃ n, bQ T.l (aU T p).1 = some n := (oR hI (i := (aU T p).1) (by rw [<- h])).2.2
theorem cY.dirOf {h : H} {t : Nat} {T : TreeP} {C : List DV} {FN : Nat -> Ln} (r : cY h t T C FN) {i d : Nat} {n : bF} (hn : bQ T.l i = some n) (hc : C[i * 2 + 1]? = some (.ifc 120 (.agg [.ptr d 0]))) : n.kind = 2 /\ kI h d n.l (FN i) := by
 obtain ⟨_, nv, h2, h3⟩ := r.some_ i n hn; rw [hc] at h2; cases h2; rcases h3 with ⟨_, f, e, _⟩ | ⟨h1, d', e, o⟩
 · cases e
 · cases e; exact ⟨h1, o⟩
theorem cY.fileOf {h : H} {t : Nat} {T : TreeP} {C : List DV} {FN : Nat -> Ln} (r : cY h t T C FN) {i f : Nat} {n : bF} (hn : bQ T.l i = some n) (hc : C[i * 2 + 1]? = some (.ifc 141 (.ptr f 0))) : n.kind = 1 /\ aX h f [.str n.text, ii ((aZ T.l i))] /\ FN i = [f] := by
 obtain ⟨_, nv, h2, h3⟩ := r.some_ i n hn; rw [hc] at h2; cases h2; rcases h3 with ⟨h1, f', e, o, hf⟩ | ⟨_, d, e, _⟩
 · cases e; exact ⟨h1, o, hf⟩
 · cases e
def oY (B : cF) : Prop := ∀ (t : Nat) (T : TreeP) (C : List DV) (FN : Nat -> Ln) (k : Nat) (p : Ln) (h : H), cY h t T C FN -> Inv k T -> k < 900 -> p.length < 140737488355328 ->
 ∃ v nm h', B [.ptr t 0, .str p] h = some (.tup [.agg [v, .str nm], ii ((cH T p).2.2)], h') /\ aH h h' /\ v.one = true /\ ((cH T p).2.2 = 0 -> nm = (cH T p).2.1 /\ ∃ d n, v = .ptr d 0 /\ bQ T.l (cH T p).1 = some n /\ C[(cH T p).1 * 2 + 1]? = some (.ifc 120 (.agg [.ptr d 0])))
theorem aVJ {E : bJ} (hS : bL E 137 jE) (hW : bL E 138 yV) (hD : bL E 87 qV) : oY (S95 E) := by
 obtain ⟨B0, b0, s0⟩ := hS.call; obtain ⟨B1, b1, s1⟩ := hW.call; obtain ⟨B2, b2, s2⟩ := hD.call; intro t T C FN k p h r hI hk hp; obtain ⟨h1, eh, g1, o1⟩ := aO h 2 2 [.nilp, .str []] rfl; obtain ⟨w, h4, f4, r4, g4⟩ := s0 p h1 hp; have fin : ∀ {hh : H} (v : DV) (nm : Ln), aH h1 hh -> v.one = true -> ∃ hx, bY 2 (.ptr h.size 0) (.agg [v, .str nm]) hh = some (.tup [], hx) /\ aM 2 hx.get (.ptr h.size 0) = some (.agg [v, .str nm]) /\ aH h hx := by
   intro hh v nm g hv; obtain ⟨hx, a1, a2, a3⟩ := (o1.grown g).setAll (n := 2) (cs := [v, .str nm]) rfl rfl (by rw [List.all_cons, hv]; rfl)
   exact ⟨hx, a1, a2.all rfl, a3.grown (g1.trans g) (Nat.le_refl _)⟩
 have bad : dO [.nilp, .str []] [] = some (.agg [.nilp, .str []]) := rfl; show ∃ v nm h', aUh E (.ptr t 0) (.str p) h = _ /\ _; unfold aUh; rw [bG, <- eh, cO, aA, aC, b0, f4, aB, aL, aA, aK, aA, bC, aA]; unfold cH; by_cases hne : aT p = []
 · rw [if_pos hne]; have hl : cA w = some (ii 0) := by rw [r4.len, bH, hne]; rfl
   obtain ⟨hx, a1, a2, a3⟩ := fin .nilp [] g4 rfl; refine ⟨.nilp, [], hx, ?_, a3, rfl, λ x => by cases x⟩
   by_cases h0 : eO p = 0
   · simp only [decide_eq_true h0, Bool.not_true, dQ, hl, aA, cB, decide_true, bT]; rw [aD, bad, aA, a1, aB, a2, aA]
   · simp only [decide_eq_false h0, Bool.not_false, fL, eD, aA, bZ]; rw [aD, bad, aA, a1, aB, a2, aA]
 · have h0 : eO p = 0 := Classical.byContradiction λ h0 => hne (aET h0).1
   have hpos : 0 < (aT p).length := List.length_pos_iff.2 hne; have d0 : decide ((aT p).length = 0) = false := by
     simp only [decide_eq_false_iff_not]; omega
   have hnl : (aT p).length < 1000000 := by have := (iJ p).2.2.1; omega
   obtain ⟨w2, c1, c2⟩ := r4.cutTo (m := (aT p).length - 1) (by rw [bH]; omega) .i64
   rw [qD] at c2; obtain ⟨h5, f5, g5⟩ := s1 t T C FN k w2 _ h4 (r.grown (g1.trans g4)) hI hk c2 (by simp; omega)
   have G5 := g4.trans g5; rw [if_neg hne]; simp only [decide_eq_true h0, Bool.not_true, dQ, r4.len, bH, aA, cB, d0, bT]; rw [aC, fY (by omega) (by omega), aA, c1, aA, b1, f5, aB, aL, aA, aK, aA, bC, aA]
   generalize hwf : eV T.l ((aT p).take ((aT p).length - 1)) 1 = W at *; obtain ⟨i, e⟩ := W; simp only; by_cases he : e = 0
   · subst he; obtain ⟨r1, hr1, _⟩ := hI.root; obtain ⟨n, hn⟩ := aAO hI _ _ _ hr1 hwf; obtain ⟨v, h6, f6, g6, q⟩ := s2 t T C FN i n h5 (r.grown ((g1.trans g4).trans g5)) hn (by have := (hI.of hn).1.rng; have := (hI.of hn).2; omega)
     have G6 := G5.trans g6; rw [if_pos rfl, hn]; simp only [decide_true, Bool.not_true]; rw [aC, b2, f6, aB]; rcases q with ⟨hk1, rfl⟩ | ⟨hk2, d, rfl, hda, hcell⟩
     · rw [if_pos hk1]; obtain ⟨hx, a1, a2, a3⟩ := fin .nilp [] G6 rfl; have e' : eM .ptr false h6.get .nilp .nilp = some (.bool true) := rfl; refine ⟨.nilp, [], hx, ?_, a3, rfl, λ x => by cases x⟩
       rw [e', aA, aD, bad, aA, a1, aB, a2, aA]
     · rw [if_neg (by omega)]
       obtain ⟨b, o, k1, k2⟩ := ((r4.grown g5).grown g6).at (j := (aT p).length - 1) (kC (s := dT p) (by
         unfold dT; rw [List.getD_eq_getElem?_getD, List.getElem?_eq_getElem (by omega)]; rfl)) .i64
       obtain ⟨hx, a1, a2, a3⟩ := fin (.ptr d 0) (dT p) G6 rfl; have good : dO [.nilp, .str []] [(0, 1, .ptr d 0), (1, 1, .str (dT p))] = some (.agg [.ptr d 0, .str (dT p)]) := rfl; refine ⟨.ptr d 0, dT p, hx, ?_, a3, rfl, λ _ => ⟨rfl, d, n, rfl, hn, hcell⟩⟩
       rw [cO, aA, aC, k1, aA, k2, aA, good, aA, a1, aB, a2, aA]
   · rw [if_neg he]; obtain ⟨hx, a1, a2, a3⟩ := fin .nilp [] G5 rfl; refine ⟨.nilp, [], hx, ?_, a3, rfl, λ x => absurd x he⟩
     have d : (!decide (e = 0)) = true := by simp [he]
     rw [d, aD, bad, aA, a1, aB, a2, aA]
def qU (B : cF) : Prop := ∀ (d : Nat) (l : EL) (name : Ln) (h : H), aAG aPs h d l -> iC l -> l.length < 1000000 -> ∃ h', B [.agg [.ptr d 0, .str name]] h = some (.bool (eS l name), h') /\ aH h h'
theorem aMu {E : bJ} (hL : bL E 145 xH) : qU (S99 E) := by
 obtain ⟨B, hB, sB⟩ := hL.call; intro d l name h r hs hl; obtain ⟨h1, eh, g1, o1⟩ := aO h 2 2 [.ptr d 0, .str name] rfl; obtain ⟨h2, f2, g2⟩ := sB aPs d l name h1 (r.grown g1) hs hl; refine ⟨h2, ?_, g1.trans g2⟩; show aUd E (.agg [.ptr d 0, .str name]) h = _; unfold aUd; rw [nbx eh rfl, aJ, aA, o1.read (j := 0 + 0) rfl, aA, aJ, aA, o1.read (j := 0 + 1) rfl, aA, hB, f2, aB, aL, aA, aK, aA, cB, aA]; unfold mK; cases eS l name <;> rfl
def fset {α : Type} (F : Nat -> α) (i : Nat) (x : α) : Nat -> α := λ j => if j = i then x else F j
theorem dW {α : Type} (F : Nat -> α) (i : Nat) (x : α) : fset F i x i = x := by unfold fset; rw [if_pos rfl]
theorem cS {α : Type} (F : Nat -> α) {i j : Nat} (x : α) (h : j ≠ i) : fset F i x j = F j := by unfold fset; rw [if_neg h]
structure jW (h : H) (t : Nat) (G : Nat -> Option bF) (C : List DV) (FN : Nat -> Ln) (lk : Nat -> Nat) (g tot : Nat) : Prop where
 len : C.length = 514
 obj : aX h t C
 gen : C[512]? = some (ii g)
 tot : C[513]? = some (ii tot)
 some_ : ∀ i n, G i = some n -> C[i * 2]? = some (ii n.gen) /\ ∃ nv, C[i * 2 + 1]? = some nv /\ iI h nv n (lk i) (FN i)
 none_ : ∀ i, i < 256 -> G i = none -> C[i * 2]? = some (ii 0) /\ C[i * 2 + 1]? = some .nili
 own : ∀ i, t ∉ FN i
 apart : ∀ i j, i ≠ j -> ∀ c ∈ FN i, c ∉ FN j
 void : ∀ i, G i = none -> FN i = []
theorem cY.g {h : H} {t : Nat} {T : TreeP} {C : List DV} {FN : Nat -> Ln} (r : cY h t T C FN) : jW h t (bQ T.l) C FN (aZ T.l) T.gen (cT T.l) := ⟨r.len, r.obj, r.gen, r.tot, r.some_, r.none_, r.own, r.apart, r.void⟩
theorem iI.lk {h : H} {nv : DV} {n : bF} {k k' : Nat} {fp : Ln} (r : iI h nv n k fp) (e : n.kind = 1 -> k = k') : iI h nv n k' fp := by
 rcases r with ⟨h1, f, e1, o, e2⟩ | x
 · rw [e h1] at o; exact .inl ⟨h1, f, e1, o, e2⟩
 · exact .inr x
theorem jW.at_ {h : H} {t : Nat} {G : Nat -> Option bF} {C : List DV} {FN : Nat -> Ln} {lk : Nat -> Nat} {g tot : Nat} (r : jW h t G C FN lk g tot) {T : TreeP} (hG : ∀ i, bQ T.l i = G i) (hl : ∀ i n, bQ T.l i = some n -> n.kind = 1 -> lk i = aZ T.l i) (hg : T.gen = g) (ht : cT T.l = tot) : cY h t T C FN where
 len := r.len
 obj := r.obj
 gen := by rw [hg]; exact r.gen
 tot := by rw [ht]; exact r.tot
 some_ := λ i n hn => by
   obtain ⟨h1, nv, h2, h3⟩ := r.some_ i n (by rw [<- hG]; exact hn)
   exact ⟨h1, nv, h2, h3.lk λ hk => hl i n hn hk⟩
 none_ := λ i hi hn => r.none_ i hi (by rw [<- hG]; exact hn)
 own := r.own
 apart := r.apart
 void := λ i hn => r.void i (by rw [<- hG]; exact hn)
theorem jW.lt {h : H} {t : Nat} {G : Nat -> Option bF} {C : List DV} {FN : Nat -> Ln} {lk : Nat -> Nat} {g tot : Nat} (r : jW h t G C FN lk g tot) {c : Nat} (hc : Fp t FN c) : c < h.size := by
 rcases hc with rfl | ⟨i, hi⟩
 · exact r.obj.1
 · cases hg : G i with
   | none => rw [r.void i hg] at hi; cases hi
   | some n =>
     obtain ⟨_, nv, _, h3⟩ := r.some_ i n hg; exact h3.lt c hi
theorem jW.dirSet {h h' : H} {t : Nat} {G : Nat -> Option bF} {C : List DV} {FN : Nat -> Ln} {lk : Nat -> Nat} {g tot : Nat} (r : jW h t G C FN lk g tot) {d dp : Nat} {n : bF} {l' : EL} {fp' : Ln} (hn : G d = some n) (hk : n.kind = 2) (hc : C[d * 2 + 1]? = some (.ifc 120 (.agg [.ptr dp 0]))) (hd : kI h' dp l' fp') (k : kJ (λ x => x ∈ FN d) h h') (hfp : ∀ c ∈ fp', c ∈ FN d \/ h.size <= c) :
   jW h' t (fset G d (some { n with l := l' })) C (fset FN d fp') lk g tot where
 len := r.len
 obj := r.obj.off k (r.own d)
 gen := r.gen
 tot := r.tot
 some_ := λ i m hm => by
   by_cases hi : i = d
   · subst hi; rw [dW] at hm; cases hm; obtain ⟨h1, _⟩ := r.some_ i n hn; rw [dW]; exact ⟨h1, _, hc, .inr ⟨hk, dp, rfl, hd⟩⟩
   · rw [cS _ _ hi] at hm; obtain ⟨h1, nv, h2, h3⟩ := r.some_ i m hm; rw [cS _ _ hi]; exact ⟨h1, nv, h2, h3.off k λ c hc1 hc2 => r.apart i d hi c hc1 hc2⟩
 none_ := λ i hi hm => by
   by_cases hid : i = d
   · subst hid; rw [dW] at hm; cases hm
   · rw [cS _ _ hid] at hm; exact r.none_ i hi hm
 own := λ i hi => by
   by_cases hid : i = d
   · subst hid; rw [dW] at hi; rcases hfp t hi with x | x
     · exact r.own i x
     · exact absurd r.obj.1 (Nat.not_lt.2 x)
   · rw [cS _ _ hid] at hi; exact r.own i hi
 apart := λ i j hij c hi hj => by
   by_cases hid : i = d
   · subst hid; rw [dW] at hi; rw [cS _ _ (Ne.symm hij)] at hj; rcases hfp c hi with x | x
     · exact r.apart i j hij c x hj
     · exact absurd (r.lt (.inr ⟨j, hj⟩)) (Nat.not_lt.2 x)
   · rw [cS _ _ hid] at hi; by_cases hjd : j = d
     · subst hjd; rw [dW] at hj; rcases hfp c hj with x | x
       · exact r.apart i j hij c hi x
       · exact absurd (r.lt (.inr ⟨i, hi⟩)) (Nat.not_lt.2 x)
     · rw [cS _ _ hjd] at hj; exact r.apart i j hij c hi hj
 void := λ i hm => by
   by_cases hid : i = d
   · subst hid; rw [dW] at hm; cases hm
   · rw [cS _ _ hid] at hm; rw [cS _ _ hid]; exact r.void i hm
theorem jW.fileSet {h h' : H} {t : Nat} {G : Nat -> Option bF} {C : List DV} {FN : Nat -> Ln} {lk : Nat -> Nat} {g tot : Nat} (r : jW h t G C FN lk g tot) {i f k' : Nat} {n : bF} {s : Ln} (hn : G i = some n) (hk : n.kind = 1) (hc : C[i * 2 + 1]? = some (.ifc 141 (.ptr f 0))) (hf : FN i = [f]) (ho : aX h' f [.str s, ii k']) (k : kJ (λ x => x = f) h h') :
   jW h' t (fset G i (some { n with text := s })) C FN (fset lk i k') g tot where
 len := r.len
 obj := r.obj.off k λ e => r.own i (by rw [hf, e]; simp)
 gen := r.gen
 tot := r.tot
 some_ := λ j m hm => by
   by_cases hi : j = i
   · subst hi; rw [dW] at hm; cases hm; obtain ⟨h1, _⟩ := r.some_ j n hn; rw [dW]; exact ⟨h1, _, hc, .inl ⟨hk, f, rfl, ho, hf⟩⟩
   · rw [cS _ _ hi] at hm; obtain ⟨h1, nv, h2, h3⟩ := r.some_ j m hm; rw [cS _ _ hi]; exact ⟨h1, nv, h2, h3.off k λ c hc1 hc2 => r.apart j i hi c hc1 (by rw [hf, hc2]; simp)⟩
 none_ := λ j hj hm => by
   by_cases hid : j = i
   · subst hid; rw [dW] at hm; cases hm
   · rw [cS _ _ hid] at hm; exact r.none_ j hj hm
 own := r.own
 apart := r.apart
 void := λ j hm => by
   by_cases hid : j = i
   · subst hid; rw [dW] at hm; cases hm
   · rw [cS _ _ hid] at hm; exact r.void j hm
theorem jW.cells {h h' : H} {t : Nat} {G : Nat -> Option bF} {C C' : List DV} {FN : Nat -> Ln} {lk : Nat -> Nat} {g tot g' tot' : Nat} (r : jW h t G C FN lk g tot) (hl : C'.length = 514) (ho : aX h' t C') (k : kJ (λ x => x = t) h h') (hg : C'[512]? = some (ii g')) (ht : C'[513]? = some (ii tot')) (hc : ∀ j, j < 512 -> C'[j]? = C[j]?) (hG : ∀ i n, G i = some n -> i < 256) : jW h' t G C' FN lk g' tot' where
 len := hl
 obj := ho
 gen := hg
 tot := ht
 some_ := λ i n hn => by
   obtain ⟨h1, nv, h2, h3⟩ := r.some_ i n hn; have hi := hG i n hn; rw [hc _ (by omega), hc _ (by omega)]
   exact ⟨h1, nv, h2, h3.off k λ c hc1 hc2 => r.own i (by rw [<- hc2]; exact hc1)⟩
 none_ := λ i hi hn => by rw [hc _ (by omega), hc _ (by omega)]; exact r.none_ i hi hn
 own := r.own
 apart := r.apart
 void := r.void
theorem jW.clear {h h' : H} {t : Nat} {G : Nat -> Option bF} {C C' : List DV} {FN : Nat -> Ln} {lk : Nat -> Nat} {g tot : Nat} (r : jW h t G C FN lk g tot) {i : Nat} (hi : i < 256) (hl : C'.length = 514) (ho : aX h' t C') (k : kJ (λ x => x = t) h h') (h0 : C'[i * 2]? = some (ii 0)) (h1 : C'[i * 2 + 1]? = some .nili) (hc : ∀ j, j ≠ i * 2 -> j ≠ i * 2 + 1 -> C'[j]? = C[j]?) : jW h' t (fset G i none) C' (fset FN i []) lk g tot where
 len := hl
 obj := ho
 gen := by rw [hc _ (by omega) (by omega)]; exact r.gen
 tot := by rw [hc _ (by omega) (by omega)]; exact r.tot
 some_ := λ j n hn => by
   by_cases hj : j = i
   · subst hj; rw [dW] at hn; cases hn
   · rw [cS _ _ hj] at hn; obtain ⟨h1, nv, h2, h3⟩ := r.some_ j n hn; rw [hc _ (by omega) (by omega), hc _ (by omega) (by omega), cS _ _ hj]
     exact ⟨h1, nv, h2, h3.off k λ c hc1 hc2 => r.own j (by rw [<- hc2]; exact hc1)⟩
 none_ := λ j hj hn => by
   by_cases hji : j = i
   · subst hji; exact ⟨h0, h1⟩
   · rw [cS _ _ hji] at hn; rw [hc _ (by omega) (by omega), hc _ (by omega) (by omega)]; exact r.none_ j hj hn
 own := λ j hj => by
   by_cases hji : j = i
   · subst hji; rw [dW] at hj; cases hj
   · rw [cS _ _ hji] at hj; exact r.own j hj
 apart := λ a b hab c ha hb => by
   by_cases hai : a = i
   · subst hai; rw [dW] at ha; cases ha
   · by_cases hbi : b = i
     · subst hbi; rw [dW] at hb; cases hb
     · rw [cS _ _ hai] at ha; rw [cS _ _ hbi] at hb; exact r.apart a b hab c ha hb
 void := λ j hn => by
   by_cases hji : j = i
   · subst hji; rw [dW]
   · rw [cS _ _ hji] at hn; rw [cS _ _ hji]; exact r.void j hn
theorem jW.new_ {h h' : H} {t : Nat} {G : Nat -> Option bF} {C C' : List DV} {FN : Nat -> Ln} {lk : Nat -> Nat} {g tot k0 : Nat} {x : bF} {nv : DV} {fp : Ln} (r : jW h t G C FN lk g tot) {i : Nat} (hi : i < 256) (hl : C'.length = 514) (ho : aX h' t C') (k : kJ (λ x => x = t) h h') (h0 : C'[i * 2]? = some (ii x.gen)) (h1 : C'[i * 2 + 1]? = some nv) (hn : iI h nv x k0 fp) (hfp : ∀ c ∈ fp, ¬ Fp t FN c) (hc : ∀ j, j ≠ i * 2 -> j ≠ i * 2 + 1 -> C'[j]? = C[j]?) : jW h' t (fset G i (some x)) C' (fset FN i fp) (fset lk i k0) g tot where
 len := hl
 obj := ho
 gen := by rw [hc _ (by omega) (by omega)]; exact r.gen
 tot := by rw [hc _ (by omega) (by omega)]; exact r.tot
 some_ := λ j n hn2 => by
   by_cases hj : j = i
   · subst hj; rw [dW] at hn2; cases hn2; rw [dW, dW]; exact ⟨h0, nv, h1, hn.off k λ c hc1 hc2 => hfp c hc1 (.inl hc2)⟩
   · rw [cS _ _ hj] at hn2; obtain ⟨h1, nv, h2, h3⟩ := r.some_ j n hn2; rw [hc _ (by omega) (by omega), hc _ (by omega) (by omega), cS _ _ hj, cS _ _ hj]
     exact ⟨h1, nv, h2, h3.off k λ c hc1 hc2 => r.own j (by rw [<- hc2]; exact hc1)⟩
 none_ := λ j hj hn2 => by
   by_cases hji : j = i
   · subst hji; rw [dW] at hn2; cases hn2
   · rw [cS _ _ hji] at hn2; rw [hc _ (by omega) (by omega), hc _ (by omega) (by omega)]; exact r.none_ j hj hn2
 own := λ j hj => by
   by_cases hji : j = i
   · subst hji; rw [dW] at hj; exact hfp t hj (.inl rfl)
   · rw [cS _ _ hji] at hj; exact r.own j hj
 apart := λ a b hab c ha hb => by
   by_cases hai : a = i
   · subst hai; rw [dW] at ha; rw [cS _ _ (Ne.symm hab)] at hb; exact hfp c ha (.inr ⟨b, hb⟩)
   · rw [cS _ _ hai] at ha; by_cases hbi : b = i
     · subst hbi; rw [dW] at hb; exact hfp c hb (.inr ⟨a, ha⟩)
     · rw [cS _ _ hbi] at hb; exact r.apart a b hab c ha hb
 void := λ j hn2 => by
   by_cases hji : j = i
   · subst hji; rw [dW] at hn2; cases hn2
   · rw [cS _ _ hji] at hn2; rw [cS _ _ hji]; exact r.void j hn2
structure jY (t : Nat) (h : H) (FN : Nat -> Ln) (h' : H) (FN' : Nat -> Ln) : Prop where
 off : kJ (Fp t FN) h h'
 fp : ∀ c, Fp t FN' c -> Fp t FN c \/ h.size <= c
theorem jY.grown {t : Nat} {h h' : H} {FN : Nat -> Ln} (g : aH h h') : jY t h FN h' FN := ⟨g.off _, λ _ hc => .inl hc⟩
theorem jY.trans {t : Nat} {h h1 h2 : H} {FN F1 F2 : Nat -> Ln} (a : jY t h FN h1 F1) (b : jY t h1 F1 h2 F2) : jY t h FN h2 F2 where
 off := ⟨Nat.le_trans a.off.size b.off.size, λ c hc hf => (b.off.get c (Nat.lt_of_lt_of_le hc a.off.size) λ h1 => (a.fp c h1).elim hf λ x => absurd hc (Nat.not_lt.2 x)).trans (a.off.get c hc hf)⟩
 fp := λ c hc => by
   rcases b.fp c hc with x | x
   · exact a.fp c x
   · exact .inr (Nat.le_trans a.off.size x)
theorem iI.one {h : H} {nv : DV} {n : bF} {k : Nat} {fp : Ln} (r : iI h nv n k fp) : nv.one = true := by
 rcases r with ⟨_, f, rfl, _⟩ | ⟨_, d, rfl, _⟩ <;> rfl
theorem aXC {C : List DV} {i : Nat} {a b : DV} (hl : C.length = 514) (hi : i < 256) : (C.take (i * 2) ++ [a, b] ++ C.drop (i * 2 + 2)).length = 514 /\ (C.take (i * 2) ++ [a, b] ++ C.drop (i * 2 + 2))[i * 2]? = some a /\ (C.take (i * 2) ++ [a, b] ++ C.drop (i * 2 + 2))[i * 2 + 1]? = some b /\ ∀ j, j ≠ i * 2 -> j ≠ i * 2 + 1 -> (C.take (i * 2) ++ [a, b] ++ C.drop (i * 2 + 2))[j]? = C[j]? := by
 have ht : (C.take (i * 2)).length = i * 2 := by simp; omega
 refine ⟨by simp; omega, ?_, ?_, λ j h1 h2 => ?_⟩
 · rw [List.append_assoc, List.getElem?_append_right (by omega), ht, Nat.sub_self]; rfl
 · rw [List.append_assoc, List.getElem?_append_right (by omega), ht, show i * 2 + 1 - i * 2 = 1 from by omega]; rfl
 · rcases Nat.lt_or_ge j (i * 2) with h | h
   · rw [List.append_assoc, List.getElem?_append_left (by omega), List.getElem?_take, if_pos h]
   · rw [List.getElem?_append_right (by simp; omega), List.getElem?_drop]
     congr 1
     simp only [List.length_append, ht, List.length_cons, List.length_nil]; omega
theorem aYk {k : Nat} {T : TreeP} (h : Inv k T) {d i g kind : Nat} {n : bF} {name : Ln} (hn : bQ T.l d = some n) (hi : bQ T.l i = none) :
   (∀ j, bQ (qZ (gV T d name i) ⟨i, g, kind, [], []⟩) j = fset (fset (bQ T.l) i (some ⟨i, g, kind, [], []⟩)) d (some { n with l := gQ n.l name i }) j) /\
   (∀ j, aZ (qZ (gV T d name i) ⟨i, g, kind, [], []⟩) j = fset (aZ T.l) i 1 j) /\ cT (qZ (gV T d name i) ⟨i, g, kind, [], []⟩) = cT T.l := by
 have hdi : d ≠ i := λ e => by rw [e, hi] at hn; cases hn
 have hinc := nM (i := d) (kL λ l => gQ l name i) h.inc
 have hfree : bQ (gV T d name i) i = none := by
   unfold gV; rw [mW, hi]; rfl
 refine ⟨λ j => ?_, λ j => ?_, ?_⟩
 · have e1 : bQ (qZ (gV T d name i) ⟨i, g, kind, [], []⟩) j = if j = i then some ⟨i, g, kind, [], []⟩ else bQ (gV T d name i) j := aIo (L := gV T d name i) (x := ⟨i, g, kind, [], []⟩) hinc hfree j
   rw [e1]; by_cases hj : j = i
   · subst hj; rw [if_pos rfl, cS _ _ (Ne.symm hdi), dW]
   · rw [if_neg hj]; unfold gV; rw [mW]; by_cases hd : j = d
     · subst hd; rw [dW, hn, Option.map_some, if_pos rfl]; rfl
     · rw [cS _ _ hd, cS _ _ hj]; cases bQ T.l j with
       | none => rfl
       | some m => rw [Option.map_some, if_neg hd]
 · have := aAV (λ n => iD n.l j) (gV T d name i) ⟨i, g, kind, [], []⟩
   have e : iD ([] : EL) j = 0 := rfl; have e2 : aZ (qZ (gV T d name i) ⟨i, g, kind, [], []⟩) j = aZ T.l j + if i = j then 1 else 0 := by
     unfold aZ; rw [this, e]; exact sV h.inc hn name i j
   rw [e2]; by_cases hj : j = i
   · subst hj; have : aZ T.l j = 0 := by
       rcases Nat.lt_or_ge 0 (aZ T.l j) with hx | hx
       · obtain ⟨y, hy⟩ := h.ent j hx; rw [hi] at hy; cases hy
       · omega
     rw [this, dW, if_pos rfl]
   · rw [cS _ _ hj, if_neg λ e => hj e.symm]; rfl
 · have := aAV (λ n => n.text.length) (gV T d name i) ⟨i, g, kind, [], []⟩
   unfold cT; rw [this]; have e := lG h.inc hn (λ l => gQ l name i)
   unfold cT at e; show ((gV T d name i).map λ n => n.text.length).sum + 0 = _
   unfold gV; rw [e]; rfl
def aBJ (B : cF) : Prop := ∀ (t : Nat) (T : TreeP) (C : List DV) (FN : Nat -> Ln) (k : Nat) (p : Ln) (kind : Nat) (nv : DV) (fp : Ln) (h : H), cY h t T C FN -> Inv k T -> k < 900 -> bB p = true -> p.length < 140737488355328 ->
 iI h nv ⟨0, 0, kind, [], []⟩ 1 fp -> (∀ c ∈ fp, ¬ Fp t FN c) ->
 ∃ h' C' FN', B [.ptr t 0, .str p, nv] h = some (ii ((mkT T p kind).2), h') /\ cY h' t (mkT T p kind).1 C' FN' /\ kJ (Fp t FN) h h' /\ ∀ c, Fp t FN' c -> Fp t FN c \/ c ∈ fp \/ h.size <= c
theorem aVO {E : bJ} (hP : bL E 95 oY) (hT : bL E 99 qU) (hF : bL E 141 aCF) (hA : bL E 100 tL) : aBJ (S94 E) := by
 obtain ⟨B0, b0, s0⟩ := hP.call; obtain ⟨B1, b1, s1⟩ := hT.call; obtain ⟨B2, b2, s2⟩ := hF.call; obtain ⟨B3, b3, s3⟩ := hA.call; intro t T C FN k p kind nv fp h r hI hk hp hpl hnv hfp; obtain ⟨v, nm, h2, f2, g2, v1, q⟩ := s0 t T C FN k p h r hI hk hpl; obtain ⟨h6, eh, g6, o6⟩ := aO h2 2 2 [.nilp, .str []] rfl; obtain ⟨h8, f8, o8, k8⟩ := o6.setAll (n := 2) (cs := [v, .str nm]) rfl rfl (by rw [List.all_cons, v1]; rfl)
 have g8 : aH h h8 := g2.trans (k8.grown g6 (Nat.le_refl _)); show ∃ h' C' FN', aUi E (.ptr t 0) (.str p) nv h = _ /\ _; unfold aUi; rw [b0, f2, aB, aL, aA, aK, aA, bG, <- eh, f8, aB, bC, aA]; by_cases he : (cH T p).2.2 = 0
 · obtain ⟨rfl, d, n, rfl, hn, hc⟩ := q he; obtain ⟨hne, _, _, hnm⟩ := mV (T := T) (p := p) (d := (cH T p).1) (name := (cH T p).2.1) (by rw [<- he])
   have hnok := pK hp hne; rw [<- hnm] at hnok; have hok := hI.of hn; have r8 := r.grown g8; obtain ⟨hk2, hd8⟩ := r8.dirOf hn hc; obtain ⟨h12, f12, g12⟩ := s1 d n.l (cH T p).2.1 h8 (hd8.view λ _ _ => trivial) hok.1.srt (by have := hok.1.len; omega)
   have e0 : kP T (cH T p).1 (cH T p).2.1 = eS n.l (cH T p).2.1 := by unfold kP; rw [hn]
   have dec : (!decide ((cH T p).2.2 = 0)) = false := by rw [he]; rfl
   rw [dec, aC, o8.all (n := 2) rfl, aA, b1, f12, aB]; unfold mkT; rw [if_pos he, e0]; generalize hdn : (cH T p).1 = dn at *; generalize (cH T p).2.1 = name at *; cases hh : eS n.l name with
   | true =>
     rw [if_pos rfl, aD]; exact ⟨h12, C, FN, rfl, r.grown (g8.trans g12), (g8.trans g12).off _, λ c hc => .inl hc⟩
   | false =>
     have r12 := r.grown (g8.trans g12); have f14 := s2 t T C FN k h12 r12 hI; rw [if_neg (by simp), aC, b2, f14, aB, cB, aA]
     obtain ⟨e1, e2, e3, e4⟩ := aBv hI; cases hf : aBp T.l with
     | none =>
       have : jV T.l = 256 := by unfold jV; rw [hf]; rfl
       rw [this, if_pos rfl, decide_eq_true rfl, aD]; exact ⟨h12, C, FN, rfl, r12, (g8.trans g12).off _, λ c hc => .inl hc⟩
     | some i =>
       obtain ⟨i1, i2, i3, _⟩ := uR hf; have : jV T.l = i := by unfold jV; rw [hf]; rfl
       rw [this, if_neg (by omega), decide_eq_false (by omega), aC]
       have hgen := hI.gen; obtain ⟨p1, p2, p3, p4⟩ := rH (t := t) i2 .i64; have fa : aI 512 (.ptr t 0) = some (.ptr t 512) := by rw [aJ, Nat.zero_add]
       obtain ⟨h23, f23, o23, k23⟩ := r12.obj.set (v := ii ((T.gen + 1))) (j := 512) rfl (by rw [r.len]; omega)
       have l1 : (C.set 512 (ii (T.gen + 1))).length = 514 := by rw [List.length_set]; exact r.len
       have c512 : (C.set 512 (ii (T.gen + 1)))[512]? = some (ii (T.gen + 1)) := by rw [List.getElem?_set, if_pos rfl, if_pos (by rw [r.len]; omega)]
       have bld : dO [(ii 0), .nili] [(0, 1, ii ((T.gen + 1))), (1, 1, nv)] = some (.agg [ii ((T.gen + 1)), nv]) := by
         rcases hnv with ⟨_, f, rfl, _⟩ | ⟨_, d, rfl, _⟩ <;> rfl
       obtain ⟨h32, f32, o32, k32⟩ := o23.setN (o := i * 2) (n := 2) (cs := [ii ((T.gen + 1)), nv]) rfl (by rw [List.all_cons, List.all_cons, hnv.one]; rfl) (by rw [l1]; omega)
       obtain ⟨t1, t2, t3, t4⟩ := aXC (a := ii ((T.gen + 1))) (b := nv) l1 i2; generalize hC2 : (C.set 512 (ii ((T.gen + 1)))).take (i * 2) ++ [ii ((T.gen + 1)), nv] ++ (C.set 512 (ii ((T.gen + 1)))).drop (i * 2 + 2) = C2 at *; have off1 : kJ (λ x => x = t) h12 h23 := k23.off rfl
       have off2 : kJ (λ x => x = t) h23 h32 := k32.off rfl
       have rG1 := r12.g.cells (g' := T.gen + 1) l1 o23 off1 c512 (by rw [List.getElem?_set, if_neg (by omega)]; exact r.tot) (λ j hj => by rw [List.getElem?_set, if_neg (by omega)]) (λ j m hm => by have := (hI.of hm).1.rng; have := (hI.of hm).2; omega)
       have hnv23 : iI h23 nv ⟨i, T.gen + 1, kind, [], []⟩ 1 fp := by
         have : iI h23 nv ⟨0, 0, kind, [], []⟩ 1 fp := (hnv.off ((g8.trans g12).off λ _ => False) λ _ _ hf => hf).off off1 λ c hc1 hc2 => hfp c hc1 (.inl hc2)
         exact this
       have rG2 := rG1.new_ (k0 := 1) (x := ⟨i, T.gen + 1, kind, [], []⟩) i2 t1 o32 off2 t2 t3 hnv23 hfp t4; have hdi : dn ≠ i := λ e => by rw [e, i3] at hn; cases hn
       have hd32 : kI h32 d n.l (FN dn) := ((hd8.off (g12.off λ _ => False) λ _ _ hf => hf).off off1 λ c hc1 hc2 => r.own dn (by rw [<- hc2]; exact hc1)).off off2 λ c hc1 hc2 => r.own dn (by rw [<- hc2]; exact hc1)
       obtain ⟨h38, fp', f38, d38, off3, fpp⟩ := s3 d n.l (FN dn) name i h32 hd32 hok.1.srt (by have := hok.1.len; omega) (by omega) i2 hnok.1 hh
       have hne0 : h2.size ≠ t := by have := r.obj.1; have := g2.size; omega
       have o8' := ((o8.grown g12).off off1 λ e => hne0 e).off off2 λ e => hne0 e
       have rG3 := rG2.dirSet (d := dn) (dp := d) (n := n) (l' := gQ n.l name i) (fp' := fp') (by rw [cS _ _ hdi]; exact hn) hk2 (by rw [t4 _ (by omega) (by omega), List.getElem?_set, if_neg (by have := hok.1.rng; have := hok.2; omega)]; exact hc) d38 (by rw [cS _ _ hdi]; exact off3) (by rw [cS _ _ hdi]; exact fpp)
       obtain ⟨m1, m2, m3⟩ := aYk (g := T.gen + 1) (kind := kind) (name := name) hI hn i3; have offT : kJ (λ c => c = t \/ c ∈ FN dn) h h38 := (((g8.trans g12).off _).trans (off1.weak λ c _ hc => .inl hc)).trans ((off2.weak λ c _ hc => .inl hc).trans (off3.weak λ c _ hc => .inr hc))
       refine ⟨h38, C2, _, ?_, rG3.at_ (T := ⟨qZ (gV T dn name i) ⟨i, T.gen + 1, kind, [], []⟩, T.gen + 1⟩) m1 (λ j _ _ _ => (m2 j).symm) rfl m3, offT.weak λ c _ hc => hc.elim .inl λ x => .inr ⟨dn, x⟩, λ c hc => ?_⟩
       · rw [bA, aA, fa, aA, r12.obj.read r.gen, aA, bO (by omega), aA, aA, fa, aA, f23, aB, aA, fa, aA, o23.read c512, aA, bld, aA, aA, p1, aA, p2, aA, f32, aB, aJ, aA, o8'.read (j := 0 + 0) rfl, aA, aJ, aA, o8'.read (j := 0 + 1) rfl, aA, b3, f38, aB]
       · have hsz : h.size <= h32.size := Nat.le_trans (g8.trans g12).size (Nat.le_trans off1.size off2.size); rcases hc with rfl | ⟨j, hj⟩
         · exact .inl (.inl rfl)
         · by_cases hjd : j = dn
           · subst hjd; rw [dW] at hj; rcases fpp c hj with x | x
             · exact .inl (.inr ⟨j, x⟩)
             · exact .inr (.inr (Nat.le_trans hsz x))
           · rw [cS _ _ hjd] at hj; by_cases hji : j = i
             · subst hji; rw [dW] at hj; exact .inr (.inl hj)
             · rw [cS _ _ hji] at hj; exact .inl (.inr ⟨j, hj⟩)
 · have dec : (!decide ((cH T p).2.2 = 0)) = true := by simp [he]
   rw [dec, aD]; unfold mkT; rw [if_neg he]; exact ⟨h8, C, FN, rfl, r.grown g8, g8.off _, λ c hc => .inl hc⟩
def aBO (B : cF) : Prop := ∀ h : H, ∃ d h', B [] h = some (.ptr d 0, h') /\ h.size <= d /\ kI h' d [] [d] /\ aH h h'
theorem aWF {E : bJ} : aBO (S65 E) := by
 intro h; obtain ⟨h1, eh, g1, o1⟩ := aO h 1 1 [.nils] rfl; refine ⟨h.size, h1, ?_, Nat.le_refl _, ⟨.nils, o1, .inl ⟨rfl, rfl, rfl⟩⟩, g1⟩; show aUH E h = _; unfold aUH; have bld : dO [.nils] [] = some (.agg [.nils]) := rfl; rw [bld, aA, hU, eh]; rfl
def jX (op : TreeP -> Ln -> TreeP × Nat) (B : cF) : Prop := ∀ (t : Nat) (T : TreeP) (C : List DV) (FN : Nat -> Ln) (k : Nat) (p : Ln) (h : H), cY h t T C FN -> Inv k T -> k < 900 -> bB p = true -> p.length < 140737488355328 ->
 ∃ h' C' FN', B [.ptr t 0, .str p] h = some (ii ((op T p).2), h') /\ cY h' t (op T p).1 C' FN' /\ jY t h FN h' FN'
theorem aMx {E : bJ} (hN : bL E 65 aBO) (hA : bL E 94 aBJ) : jX (λ T p => mkT T p 2) (S40 E) := by
 obtain ⟨B0, b0, s0⟩ := hN.call; obtain ⟨B1, b1, s1⟩ := hA.call; intro t T C FN k p h r hI hk hp hpl; obtain ⟨d, h1, f1, hd, d1, g1⟩ := s0 h; have hfp : ∀ c ∈ [d], ¬ Fp t FN c := λ c hc hf => by
   simp at hc; subst hc; exact absurd (r.lt hf) (Nat.not_lt.2 hd)
 obtain ⟨h2, C', FN', f2, r2, o2, p2⟩ := s1 t T C FN k p 2 (.ifc 120 (.agg [.ptr d 0])) [d] h1 (r.grown g1) hI hk hp hpl (.inr ⟨rfl, d, rfl, d1⟩) hfp; refine ⟨h2, C', FN', ?_, r2, (g1.off _).trans o2, λ c hc => ?_⟩
 · show aVd E (.ptr t 0) (.str p) h = _; unfold aVd; have bld : dO [.nilp] [(0, 1, .ptr d 0)] = some (.agg [.ptr d 0]) := rfl; rw [b0, f1, aB, bld, aA, b1, f2, aB]
 · rcases p2 c hc with x | x | x
   · exact .inl x
   · simp at x; subst x; exact .inr hd
   · exact .inr (Nat.le_trans g1.size x)
theorem aJl {E : bJ} (hA : bL E 94 aBJ) : jX (λ T p => mkT T p 1) (S41 E) := by
 obtain ⟨B1, b1, s1⟩ := hA.call; intro t T C FN k p h r hI hk hp hpl; obtain ⟨h1, eh, g1, o1⟩ := aO h 2 2 [.str [], ii 1] rfl; have hfp : ∀ c ∈ [h.size], ¬ Fp t FN c := λ c hc hf => by
   simp at hc; subst hc; exact absurd (r.lt hf) (Nat.lt_irrefl _)
 obtain ⟨h2, C', FN', f2, r2, o2, p2⟩ := s1 t T C FN k p 1 (.ifc 141 (.ptr h.size 0)) [h.size] h1 (r.grown g1) hI hk hp hpl (.inl ⟨rfl, h.size, rfl, o1, rfl⟩) hfp; refine ⟨h2, C', FN', ?_, r2, (g1.off _).trans o2, λ c hc => ?_⟩
 · show aVc E (.ptr t 0) (.str p) h = _; unfold aVc; have bld : dO [(.str []), (ii 0)] [(1, 1, (ii 1))] = some (.agg [.str [], ii 1]) := rfl; rw [bld, aA, nbx eh rfl, b1, f2, aB]
 · rcases p2 c hc with x | x | x
   · exact .inl x
   · simp at x; subst x; exact .inr (Nat.le_refl _)
   · exact .inr (Nat.le_trans g1.size x)
theorem yI {α : Type} (F : Nat -> α) (i : Nat) : fset F i (F i) = F := by
 funext j
 unfold fset; split
 · rename_i h; rw [h]
 · rfl
theorem vY {T : TreeP} {d : Nat} {m : bF} (f : EL -> EL) (hm : bQ T.l d = some m) (j : Nat) : bQ (gA T.l d (dZ f)) j = fset (bQ T.l) d (some { m with l := f m.l }) j := by
 rw [mW]; by_cases hd : j = d
 · subst hd; rw [dW, hm, Option.map_some, if_pos rfl]; rfl
 · rw [cS _ _ hd]; cases bQ T.l j with
   | none => rfl
   | some m => rw [Option.map_some, if_neg hd]
theorem aXE {B0 B1 : cF} (s0 : oY B0) (s1 : tK B1) {t : Nat} {T : TreeP} {C : List DV} {FN : Nat -> Ln} {k : Nat} {p : Ln} {h : H} (r : cY h t T C FN) (hI : Inv k T) (hk : k < 900) (hpl : p.length < 140737488355328) (e0 : (aU T p).2 = 0) (hi : (aU T p).1 ≠ 1) :
   ∃ d m dp h10 h16 h22, B0 [.ptr t 0, .str p] h = some (.tup [.agg [.ptr dp 0, .str (dT p)], ii 0], h10) /\ cH T p = (d, dT p, 0) /\ bQ T.l d = some m /\ m.kind = 2 /\ eS m.l (dT p) = true /\ jU m.l (dT p) = (aU T p).1 /\ C[d * 2 + 1]? = some (.ifc 120 (.agg [.ptr dp 0])) /\
     bY 2 (.ptr h10.size 0) (.agg [.ptr dp 0, .str (dT p)]) (h10.push (.blk ⟨2, 2, false, true, Tr.ofL [.nilp, .str []]⟩)) = some (.tup [], h16) /\ aF h16.get (.ptr h10.size 0) = some (.ptr dp 0) /\ aF h16.get (.ptr h10.size 1) = some (.str (dT p)) /\
     B1 [.ptr dp 0, .str (dT p)] h16 = some (.tup [ii ((aU T p).1), ii 0], h22) /\ kJ (λ x => x ∈ FN d) h h22 /\ jW h22 t (bQ (eC T d (dT p))) C FN (aZ T.l) T.gen (cT T.l) := by
 obtain ⟨d, m, q1, q2, q3, q4, q5⟩ := oQ hI (p := p) (i := (aU T p).1) (by rw [<- e0]) hi
 obtain ⟨v, nm, h10, f10, g10, _, q⟩ := s0 t T C FN k p h r hI hk hpl; rw [q1] at f10 q; obtain ⟨rfl, dp, m', rfl, hm', hc⟩ := q rfl; change bQ T.l d = some m' at hm'; rw [q2] at hm'; cases hm'; obtain ⟨h14, eh, g14, o14⟩ := aO h10 2 2 [.nilp, .str []] rfl; obtain ⟨h16, f16, o16, k16⟩ := o14.setAll (n := 2) (cs := [.ptr dp 0, .str (dT p)]) rfl rfl rfl; have g16 : aH h h16 := g10.trans (k16.grown g14 (Nat.le_refl _)); have r16 := r.grown g16; obtain ⟨_, hd16⟩ := r16.dirOf q2 hc; have hok := hI.of q2; obtain ⟨h22, f22, d22, off⟩ := s1 dp m.l (FN d) (dT p) h16 hd16 hok.1.srt (by have := hok.1.len; omega) q4
 rw [q5] at f22; have rG := r16.g.dirSet q2 q3 hc d22 off λ c hc => .inl hc
 rw [yI] at rG; refine ⟨d, m, dp, h10, h16, h22, f10, q1, q2, q3, q4, q5, hc, by rw [<- eh]; exact f16, o16.read rfl, o16.read rfl, f22, (g16.off _).trans off, ?_⟩
 have e : bQ (eC T d (dT p)) = fset (bQ T.l) d (some { m with l := gF m.l (dT p) }) := funext λ j => vY _ q2 j
 rw [e]; exact rG
theorem aIB {L : NL} (hL : kV L) {i : Nat} {n : bF} (hn : bQ L i = some n) (hl : n.l = []) (j : Nat) : aZ (jN L i) j = aZ L j := by
 have := vX (λ n => iD n.l j) hL hn
 have e : iD n.l j = 0 := by rw [hl]; rfl
 unfold aZ; omega
theorem aIA {L : NL} (hL : kV L) {i : Nat} {n : bF} (hn : bQ L i = some n) : cT (jN L i) + n.text.length = cT L := vX (λ n => n.text.length) hL hn
theorem aJp {t d : Nat} {h h' : H} {FN FN' : Nat -> Ln} (o : kJ (λ c => c = t \/ c ∈ FN d \/ ∃ i, c ∈ FN i) h h') (hfp : ∀ i, ∀ c ∈ FN' i, c ∈ FN i) : jY t h FN h' FN' where
 off := o.weak λ c _ hc => by
   rcases hc with x | x | ⟨i, x⟩
   · exact .inl x
   · exact .inr ⟨d, x⟩
   · exact .inr ⟨i, x⟩
 fp := λ c hc => by
   rcases hc with x | ⟨i, x⟩
   · exact .inl (.inl x)
   · exact .inl (.inr ⟨i, hfp i c x⟩)
theorem aNM (FN : Nat -> Ln) (i : Nat) : ∀ j, ∀ c ∈ fset FN i [] j, c ∈ FN j := by
 intro j c hc; by_cases hj : j = i
 · subst hj; rw [dW] at hc; cases hc
 · rw [cS _ _ hj] at hc; exact hc
theorem aNz {k i : Nat} : ∀ {L : NL}, (∀ n ∈ L, n.l.length <= k) -> aZ L i <= L.length * k
 | [], _ => by simp [aZ]
 | n :: L, h => by
   have h1 := aNz (k := k) (i := i) (L := L) λ m hm => h m (by simp [hm])
   have h2 : iD n.l i <= n.l.length := List.countP_le_length; have h3 := h n (by simp)
   unfold aZ at *; rw [List.map_cons, List.sum_cons, List.length_cons, Nat.succ_mul]; omega
theorem Inv.links_lt {k : Nat} {T : TreeP} (hI : Inv k T) (hk : k < 900) (i : Nat) : aZ T.l i < 1000000 := by
 have h1 := aNz (k := k) (i := i) (L := T.l) λ n hn => (hI.ok n hn).len
 have h2 := Nat.mul_le_mul hI.llen (Nat.le_of_lt hk); omega
theorem aJd {E : bJ} (hL : bL E 85 lL) (hF : bL E 86 pV) (hP : bL E 95 oY) (hR : bL E 96 tK) : jX iL (S42 E) := by
 obtain ⟨B0, b0, s0⟩ := hL.call; obtain ⟨B1, b1, s1⟩ := hF.call; obtain ⟨B2, b2, s2⟩ := hP.call; obtain ⟨B3, b3, s3⟩ := hR.call; intro t T C FN k p h r hI hk hp hpl; obtain ⟨h2, f2, g2⟩ := s0 t T C FN k p h r hI hk hpl; show ∃ h' C' FN', aVb E (.ptr t 0) (.str p) h = _ /\ _; unfold aVb; rw [b0, f2, aB, aL, aA, aK, aA, bC, aA]; unfold iL; by_cases e0 : (aU T p).2 = 0
 · obtain ⟨n, hn⟩ := qM hI e0; have hok := hI.of hn; have r2 := r.grown g2; obtain ⟨v, f7, c7⟩ := s1 t T C FN (aU T p).1 n h2 r2 hn (by have := hok.1.rng; omega)
   have dec : (!decide ((aU T p).2 = 0)) = false := by rw [e0]; rfl
   rw [dec, aC, b1, f7, aB, if_pos e0, iT hn]; rcases c7 with ⟨hk2, rfl⟩ | ⟨hk1, f, rfl, of, hff, hcf⟩
   · rw [if_pos hk2]; have e : eM .ptr false h2.get .nilp .nilp = some (.bool true) := rfl; rw [e, aA, aD]; exact ⟨h2, C, FN, rfl, r2, jY.grown g2⟩
   · rw [if_neg (by omega), cO, aA, aC]
     have hi : (aU T p).1 ≠ 1 := by
       intro hx; obtain ⟨r, hr, hrk⟩ := hI.root; rw [hx, hr] at hn; cases hn; omega
     obtain ⟨d, m, dp, h10, h16, h22, f10, q1, q2, q3, q4, q5, hcd, f16, l1, l2, f22, off, rG⟩ := aXE s2 s3 r2 hI hk hpl e0 hi; have q1' : (cH T p).1 = d /\ (cH T p).2.1 = dT p := by rw [q1]; exact ⟨rfl, rfl⟩
     rw [q1'.1, q1'.2]; generalize dT p = name at *; generalize hii : (aU T p).1 = i at *; have hdi : i ≠ d := λ e => by rw [e, q2] at hn; cases hn; omega
     have hlk := lK hI.inc q2 q4 i; rw [q5, if_pos rfl] at hlk; change aZ (eC T d name) i + 1 = aZ T.l i at hlk; have hlt := hI.links_lt hk i; have fi : FN d ≠ FN i -> True := λ _ => trivial
     have offF : ¬ (f ∈ FN d) := λ x => r.apart d i (Ne.symm hdi) f x (by rw [hff]; simp)
     have of22 := of.off off offF; obtain ⟨h30, f30, o30, k30⟩ := of22.set (v := ii ((aZ (eC T d name) i))) (j := 1) rfl (by simp)
     have o30' : aX h30 f [.str n.text, ii ((aZ (eC T d name) i))] := o30; have hn1 : bQ (eC T d name) i = some n := by
       unfold eC; rw [vY _ q2, cS _ _ hdi]; exact hn
     have off30 : kJ (λ x => x = f) h22 h30 := k30.off rfl
     have rG2 := rG.fileSet (s := n.text) (k' := aZ (eC T d name) i) hn1 hk1 hcf hff o30' off30; have hsub : fM (ii (aZ T.l i)) (ii 1) = some (ii (aZ (eC T d name) i)) := by
       rw [fY (by omega) (by omega), <- hlk]; rfl
     have fa1 : aI 1 (.ptr f 0) = some (.ptr f 1) := by rw [aJ, Nat.zero_add]
     have fa0 : aI 0 (.ptr f 0) = some (.ptr f 0) := by rw [aJ]
     have fb0 : aI 0 (.ptr h10.size 0) = some (.ptr h10.size 0) := by rw [aJ]
     have fb1 : aI 1 (.ptr h10.size 0) = some (.ptr h10.size 1) := by rw [aJ, Nat.zero_add]
     rw [b2, f10, aB, aL, aA, aK, aA, bG, f16, aB, fb0, aA, l1, aA, fb1, aA, l2, aA, b3, f22, aB, bA, aA, fa1, aA, of22.read (j := 1) rfl, aA, hsub, aA, aA, fa1, aA, f30, aB, aA, fa1, aA, o30'.read (j := 1) rfl, aA, cB, aA]; have hli : ∀ j x, bQ (eC T d name) j = some x -> x.kind = 1 -> j ≠ i -> aZ T.l j = aZ (eC T d name) j := λ j x hx hxk hji => by
       have := lK hI.inc q2 q4 j; rw [q5, if_neg (Ne.symm hji)] at this; exact this.symm
     have htot : cT (eC T d name) = cT T.l := lG hI.inc q2 _; have hinc1 : kV (eC T d name) := nM (kL _) hI.inc; have off3 : kJ (λ c => c = t \/ c ∈ FN d \/ ∃ j, c ∈ FN j) h h30 := ((g2.off _).trans (off.weak λ c _ hc => .inr (.inl hc))).trans (off30.weak λ c _ hc => .inr (.inr ⟨i, by rw [hff, hc]; simp⟩))
     have hfs : fset (bQ (eC T d name)) i (some { n with text := n.text }) = bQ (eC T d name) := by
       have : (some { n with text := n.text } : Option bF) = bQ (eC T d name) i := hn1.symm
       rw [this, yI]
     rw [hfs] at rG2; by_cases hz : aZ (eC T d name) i = 0
     · rw [decide_eq_true hz, aD, if_pos hz]; have hi256 : i < 256 := by have := hok.1.rng; omega
       obtain ⟨p1, p2, p3, p4⟩ := rH (t := t) hi256 .i64; have hdt := aIA hinc1 hn1; rw [htot] at hdt; have hTb := hI.tot; have fa : aI 513 (.ptr t 0) = some (.ptr t 513) := by rw [aJ, Nat.zero_add]
       have ot30 := rG2.obj; obtain ⟨h46, f46, o46, k46⟩ := ot30.set (v := ii ((cT (jN (eC T d name) i)))) (j := 513) rfl (by rw [r.len]; omega)
       have l1 : (C.set 513 (ii (cT (jN (eC T d name) i)))).length = 514 := by rw [List.length_set]; exact r.len
       obtain ⟨h52, f52, o52, k52⟩ := o46.setN (o := i * 2) (n := 2) (cs := [ii 0, .nili]) rfl rfl (by rw [l1]; omega)
       obtain ⟨t1, t2, t3, t4⟩ := aXC (a := ii 0) (b := .nili) l1 hi256; have sub2 : fM (ii (cT T.l)) (ii n.text.length) = some (ii (cT (jN (eC T d name) i))) := by
         rw [fY (by omega) (by omega), <- hdt, Nat.add_sub_cancel]
       have bld : dO [(ii 0), .nili] [] = some (.agg [ii 0, .nili]) := rfl; have hG : ∀ j x, bQ (eC T d name) j = some x -> j < 256 := λ j x hx => by
         obtain ⟨y, hy, _⟩ := aAW _ hx; have := (hI.of hy).1.rng; have := (hI.of hy).2; omega
       have rG3 := rG2.cells (g' := T.gen) (tot' := cT (jN (eC T d name) i)) l1 o46 (k46.off rfl) (by rw [List.getElem?_set, if_neg (by omega)]; exact r.gen) (by rw [List.getElem?_set, if_pos rfl, if_pos (by rw [r.len]; omega)]) (λ j hj => by rw [List.getElem?_set, if_neg (by omega)]) hG
       have rG4 := rG3.clear hi256 t1 o52 (k52.off rfl) t2 t3 t4; refine ⟨h52, _, _, ?_, rG4.at_ (T := ⟨jN (eC T d name) i, T.gen⟩) (λ j => ?_) (λ j x hx hxk => ?_) rfl rfl, aJp (d := d) (off3.trans (((k46.off (F := λ x => x = t) rfl).weak λ c _ hc => .inl hc).trans ((k52.off (F := λ x => x = t) rfl).weak λ c _ hc => .inl hc))) (aNM FN i)⟩
       · rw [bA, aA, fa, aA, ot30.read r.tot, aA, aA, fa0, aA, o30'.read (j := 0) rfl, aA, aY, aA, sub2, aA, aA, fa, aA, f46, aB, bld, aA, aA, p1, aA, p2, aA, f52, aB]
         rfl
       · show bQ (jN (eC T d name) i) j = _; rw [mM]; rfl
       · replace hx : bQ (jN (eC T d name) i) j = some x := hx
         rw [mM] at hx; by_cases hji : j = i
         · rw [if_pos hji] at hx; cases hx
         · rw [if_neg hji] at hx; have hnl : n.l = [] := by
             rcases hok.1.knd with ⟨_, x⟩ | ⟨x, _⟩
             · exact x
             · omega
           rw [cS _ _ hji]; show _ = aZ (jN (eC T d name) i) j; rw [aIB hinc1 hn1 hnl]; exact hli j x hx hxk hji
     · rw [decide_eq_false hz, aC, if_neg hz]; refine ⟨h30, C, FN, rfl, rG2.at_ (T := ⟨eC T d name, T.gen⟩) (λ j => rfl) (λ j x hx hxk => ?_) rfl htot, aJp (d := d) off3 λ i c hc => hc⟩
       by_cases hji : j = i
       · subst hji; rw [dW]
       · rw [cS _ _ hji]; exact hli j x hx hxk hji
 · have dec : (!decide ((aU T p).2 = 0)) = true := by simp [e0]
   rw [dec, aD, if_neg e0]; exact ⟨h2, C, FN, rfl, r.grown g2, jY.grown g2⟩
theorem aMv {E : bJ} (hL : bL E 85 lL) (hD : bL E 87 qV) (hN : bL E 97 aEw) (hP : bL E 95 oY) (hR : bL E 96 tK) : jX kR (S43 E) := by
 obtain ⟨B0, b0, s0⟩ := hL.call; obtain ⟨B1, b1, s1⟩ := hD.call; obtain ⟨B2, b2, s2⟩ := hP.call; obtain ⟨B3, b3, s3⟩ := hR.call; obtain ⟨B4, b4, s4⟩ := hN.call; intro t T C FN k p h r hI hk hp hpl; obtain ⟨h2, f2, g2⟩ := s0 t T C FN k p h r hI hk hpl; show ∃ h' C' FN', aVa E (.ptr t 0) (.str p) h = _ /\ _; unfold aVa; rw [b0, f2, aB, aL, aA, aK, aA, bC, aA]; unfold kR; by_cases e0 : (aU T p).2 = 0
 · obtain ⟨n, hn⟩ := qM hI e0; have hok := hI.of hn; have r2 := r.grown g2; obtain ⟨v, h7, f7, g7, c7⟩ := s1 t T C FN (aU T p).1 n h2 r2 hn (by have := hok.1.rng; omega)
   have r7 := r2.grown g7; have dec : (!decide ((aU T p).2 = 0)) = false := by rw [e0]; rfl
   rw [dec, aC, b1, f7, aB, if_pos e0, iT hn]; rcases c7 with ⟨hk1, rfl⟩ | ⟨hk2, dp0, rfl, hd2, hcd0⟩
   · rw [if_pos hk1]; have e : eM .ptr false h7.get .nilp .nilp = some (.bool true) := rfl; rw [e, aA, aD]; exact ⟨h7, C, FN, rfl, r7, jY.grown (g2.trans g7)⟩
   · rw [if_neg (by omega), cO, aA, aC, cB, aA]
     by_cases hi : (aU T p).1 = 1
     · rw [if_pos hi, decide_eq_true hi, aD]; exact ⟨h7, C, FN, rfl, r7, jY.grown (g2.trans g7)⟩
     · obtain ⟨_, hd7⟩ := r7.dirOf hn hcd0; have f11 := s4 aPs dp0 n.l h7 (hd7.view λ _ _ => trivial)
       have esz : aHY T (aU T p).1 = n.l.length := by unfold aHY; rw [hn]
       rw [if_neg hi, decide_eq_false hi, aC, b4, f11, aB, esz, cW, aA]; by_cases hz : 0 < n.l.length
       · rw [if_pos hz, decide_eq_true hz, aD]; exact ⟨h7, C, FN, rfl, r7, jY.grown (g2.trans g7)⟩
       · rw [if_neg hz, decide_eq_false hz, aC]; have hnl : n.l = [] := List.eq_nil_of_length_eq_zero (by omega)
         obtain ⟨d, m, dp, h10, h16, h22, f10, q1, q2, q3, q4, q5, hcd, f16, l1, l2, f22, off, rG⟩ := aXE s2 s3 r7 hI hk hpl e0 hi; have q1' : (cH T p).1 = d /\ (cH T p).2.1 = dT p := by rw [q1]; exact ⟨rfl, rfl⟩
         rw [q1'.1, q1'.2]; generalize dT p = name at *; generalize hii : (aU T p).1 = i at *; have hdi : i ≠ d := λ e => by rw [e, q2] at hn; cases hn; rw [hnl] at q4; simp [eS] at q4
         have hi256 : i < 256 := by have := hok.1.rng; omega
         obtain ⟨p1, p2, p3, p4⟩ := rH (t := t) hi256 .i64; have hn1 : bQ (eC T d name) i = some n := by
           unfold eC; rw [vY _ q2, cS _ _ hdi]; exact hn
         have htot : cT (eC T d name) = cT T.l := lG hI.inc q2 _; have hinc1 : kV (eC T d name) := nM (kL _) hI.inc; have htx : n.text = [] := by
           rcases hok.1.knd with ⟨x, _⟩ | ⟨_, x⟩
           · omega
           · exact x
         have hdt := aIA hinc1 hn1; rw [htot, htx, List.length_nil, Nat.add_zero] at hdt; have ot := rG.obj; obtain ⟨h32, f32, o32, k32⟩ := ot.setN (o := i * 2) (n := 2) (cs := [ii 0, .nili]) rfl rfl (by rw [r.len]; omega)
         obtain ⟨t1, t2, t3, t4⟩ := aXC (a := ii 0) (b := .nili) r.len hi256; have bld : dO [(ii 0), .nili] [] = some (.agg [ii 0, .nili]) := rfl; have rG4 := rG.clear hi256 t1 o32 (k32.off rfl) t2 t3 t4; have fb0 : aI 0 (.ptr h10.size 0) = some (.ptr h10.size 0) := by rw [aJ]
         have fb1 : aI 1 (.ptr h10.size 0) = some (.ptr h10.size 1) := by rw [aJ, Nat.zero_add]
         have off3 : kJ (λ c => c = t \/ c ∈ FN d \/ ∃ j, c ∈ FN j) h h32 := (((g2.trans g7).off _).trans (off.weak λ c _ hc => .inr (.inl hc))).trans ((k32.off (F := λ x => x = t) rfl).weak λ c _ hc => .inl hc)
         refine ⟨h32, _, _, ?_, rG4.at_ (T := ⟨jN (eC T d name) i, T.gen⟩) (λ j => ?_) (λ j x hx hxk => ?_) rfl hdt, aJp (d := d) off3 (aNM FN i)⟩
         · rw [b2, f10, aB, aL, aA, aK, aA, bG, f16, aB, fb0, aA, l1, aA, fb1, aA, l2, aA, b3, f22, aB, bld, aA, bA, aA, p1, aA, p2, aA, f32, aB]
         · show bQ (jN (eC T d name) i) j = _; rw [mM]; rfl
         · replace hx : bQ (jN (eC T d name) i) j = some x := hx
           rw [mM] at hx; by_cases hji : j = i
           · rw [if_pos hji] at hx; cases hx
           · show _ = aZ (jN (eC T d name) i) j; rw [aIB hinc1 hn1 hnl]; have := lK hI.inc q2 q4 j; rw [q5, if_neg (Ne.symm hji)] at this; exact this.symm
 · have dec : (!decide ((aU T p).2 = 0)) = true := by simp [e0]
   rw [dec, aD, if_neg e0]; exact ⟨h2, C, FN, rfl, r.grown g2, jY.grown g2⟩
theorem kI.mem {h : H} {d : Nat} {l : EL} {fp : Ln} (r : kI h d l fp) : d ∈ fp := by
 obtain ⟨v, _, h2⟩ := r; rcases h2 with ⟨_, _, rfl⟩ | ⟨_, _, _, _, _, rfl⟩ <;> simp
theorem kI.at_ {h : H} {d : Nat} {l : EL} {fp : Ln} (r : kI h d l fp) : ∃ v, aX h d [v] := by
 obtain ⟨v, h1, _⟩ := r; exact ⟨v, h1⟩
theorem jW.dirOf {h : H} {t : Nat} {G : Nat -> Option bF} {C : List DV} {FN : Nat -> Ln} {lk : Nat -> Nat} {g tot : Nat} (r : jW h t G C FN lk g tot) {i d : Nat} {n : bF} (hn : G i = some n) (hc : C[i * 2 + 1]? = some (.ifc 120 (.agg [.ptr d 0]))) : n.kind = 2 /\ kI h d n.l (FN i) := by
 obtain ⟨_, nv, h2, h3⟩ := r.some_ i n hn; rw [hc] at h2; cases h2; rcases h3 with ⟨_, f, e, _⟩ | ⟨h1, d', e, o⟩
 · cases e
 · cases e; exact ⟨h1, o⟩
theorem bFe {B1 : cF} (s1 : tL B1) {t : Nat} {T : TreeP} {C : List DV} {FN : Nat -> Ln} {lk : Nat -> Nat} {g tot k d dp i : Nat} {m : bF} {name : Ln} {h : H} (r : jW h t (bQ T.l) C FN lk g tot) (hI : Inv k T) (hk : k < 900) (hm : bQ T.l d = some m) (hc : C[d * 2 + 1]? = some (.ifc 120 (.agg [.ptr dp 0]))) (hn : eJ name = true) (hh : eS m.l name = false) (h1 : 1 <= i) (h2 : i < 256) :
   ∃ h' fp', B1 [.ptr dp 0, .str name, ii i] h = some (ii 0, h') /\ kJ (λ x => x ∈ FN d) h h' /\ (∀ c ∈ fp', c ∈ FN d \/ h.size <= c) /\ jW h' t (bQ (gV T d name i)) C (fset FN d fp') lk g tot := by
 obtain ⟨hk2, hd⟩ := r.dirOf hm hc; have hok := hI.of hm; obtain ⟨h', fp', f', d', off, fpp⟩ := s1 dp m.l (FN d) name i h hd hok.1.srt (by have := hok.1.len; omega) h1 h2 hn hh
 refine ⟨h', fp', f', off, fpp, ?_⟩; have := r.dirSet hm hk2 hc d' off fpp; have e : bQ (gV T d name i) = fset (bQ T.l) d (some { m with l := gQ m.l name i }) := funext λ j => vY _ hm j
 rw [e]; exact this
theorem aMC {t d : Nat} {h h1 h' : H} {FN : Nat -> Ln} {fp' : Ln} (o : kJ (λ c => c = t \/ c ∈ FN d \/ ∃ i, c ∈ FN i) h h') (hs : h.size <= h1.size) (hfp : ∀ c ∈ fp', c ∈ FN d \/ h1.size <= c) : jY t h FN h' (fset FN d fp') where
 off := o.weak λ c _ hc => by
   rcases hc with x | x | ⟨i, x⟩
   · exact .inl x
   · exact .inr ⟨d, x⟩
   · exact .inr ⟨i, x⟩
 fp := λ c hc => by
   rcases hc with x | ⟨i, x⟩
   · exact .inl (.inl x)
   · by_cases hi : i = d
     · subst hi; rw [dW] at x; rcases hfp c x with y | y
       · exact .inl (.inr ⟨i, y⟩)
       · exact .inr (Nat.le_trans hs y)
     · rw [cS _ _ hi] at x; exact .inl (.inr ⟨i, x⟩)
def sX (op : TreeP -> Ln -> Ln -> TreeP × Nat) (B : cF) : Prop := ∀ (t : Nat) (T : TreeP) (C : List DV) (FN : Nat -> Ln) (k : Nat) (p o : Ln) (h : H), cY h t T C FN -> Inv k T -> k < 900 -> bB o = true -> p.length < 140737488355328 -> o.length < 140737488355328 ->
 ∃ h' C' FN', B [.ptr t 0, .str p, .str o] h = some (ii ((op T p o).2), h') /\ cY h' t (op T p o).1 C' FN' /\ jY t h FN h' FN'
theorem aPQ {E : bJ} (hL : bL E 85 lL) (hP : bL E 95 oY) (hF : bL E 86 pV) (hT : bL E 99 qU) (hA : bL E 100 tL) : sX oS (S45 E) := by
 obtain ⟨B0, b0, s0⟩ := hL.call; obtain ⟨B1, b1, s1⟩ := hF.call; obtain ⟨B2, b2, s2⟩ := hP.call; obtain ⟨B3, b3, s3⟩ := hT.call; obtain ⟨B4, b4, s4⟩ := hA.call; intro t T C FN k p o h r hI hk ho hpl hol; obtain ⟨h2, f2, g2⟩ := s0 t T C FN k p h r hI hk hpl; obtain ⟨v, nm, h7, f7, g7, v1, q⟩ := s2 t T C FN k o h2 (r.grown g2) hI hk hol; obtain ⟨h11, eh, g11, o11⟩ := aO h7 2 2 [.nilp, .str []] rfl; obtain ⟨h13, f13, o13, k13⟩ := o11.setAll (n := 2) (cs := [v, .str nm]) rfl rfl (by rw [List.all_cons, v1]; rfl)
 have g13 : aH h h13 := (g2.trans g7).trans (k13.grown g11 (Nat.le_refl _)); have r13 := r.grown g13; show ∃ h' C' FN', aUY E (.ptr t 0) (.str p) (.str o) h = _ /\ _; unfold aUY; rw [b0, f2, aB, aL, aA, aK, aA, bC, aA]; unfold oS; by_cases e0 : (aU T p).2 = 0
 · obtain ⟨n, hn⟩ := qM hI e0; have hok := hI.of hn; have dec : (!decide ((aU T p).2 = 0)) = false := by rw [e0]; rfl
   rw [dec, aC, if_pos e0, b2, f7, aB, aL, aA, aK, aA, bG, <- eh, f13, aB, bC, aA]; by_cases e1 : (cH T o).2.2 = 0
   · obtain ⟨rfl, d, m, rfl, hm, hc⟩ := q e1; obtain ⟨hne, _, _, hnm⟩ := mV (T := T) (p := o) (d := (cH T o).1) (name := (cH T o).2.1) (by rw [<- e1])
     have hnok := pK ho hne; rw [<- hnm] at hnok; have dec : (!decide ((cH T o).2.2 = 0)) = false := by rw [e1]; rfl
     rw [dec, aC, if_pos e1]; have hi256 : (aU T p).1 < 256 := by have := hok.1.rng; omega
     obtain ⟨v, f16, c16⟩ := s1 t T C FN (aU T p).1 n h13 r13 hn hi256; rw [b1, f16, aB, iT hn]; obtain ⟨hk2, hd13⟩ := r13.dirOf hm hc; rcases c16 with ⟨hk2', rfl⟩ | ⟨hk1, f, rfl, of, hff, hcf⟩
     · rw [if_pos hk2']; have e : eM .ptr false h13.get .nilp .nilp = some (.bool true) := rfl; rw [e, aA, aD]; exact ⟨h13, C, FN, rfl, r13, jY.grown g13⟩
     · have hokm := hI.of hm; obtain ⟨h20, f20, g20⟩ := s3 d m.l (cH T o).2.1 h13 (hd13.view λ _ _ => trivial) hokm.1.srt (by have := hokm.1.len; omega)
       have et : kP T (cH T o).1 (cH T o).2.1 = eS m.l (cH T o).2.1 := by unfold kP; rw [hm]
       rw [if_neg (by omega), cO, aA, aC, o13.all (n := 2) rfl, aA, b3, f20, aB, et]
       have g20' := g13.trans g20; cases hh : eS m.l (cH T o).2.1 with
       | true =>
         rw [if_pos rfl, aD]; exact ⟨h20, C, FN, rfl, r.grown g20', jY.grown g20'⟩
       | false =>
         have of20 := of.grown g20; have fa1 : aI 1 (.ptr f 0) = some (.ptr f 1) := by rw [aJ, Nat.zero_add]
         rw [if_neg (by simp), aC, bA, aA, fa1, aA, of20.read (j := 1) rfl, aA, fZ, aA]
         by_cases hm100 : 100 <= aZ T.l (aU T p).1
         · rw [if_pos hm100, decide_eq_true hm100, aD]; exact ⟨h20, C, FN, rfl, r.grown g20', jY.grown g20'⟩
         · rw [if_neg hm100, decide_eq_false hm100, aC]; generalize hii : (aU T p).1 = i at *; generalize hdd : (cH T o).1 = dn at *; generalize (cH T o).2.1 = name at *; have hdi : i ≠ dn := λ e => by rw [e, hm] at hn; cases hn; omega
           have hrng : 1 <= i /\ i < 256 := by have := hok.1.rng; rw [hok.2] at this; exact this
           obtain ⟨h32, f32, o32, k32⟩ := of20.set (v := ii ((aZ T.l i + 1))) (j := 1) rfl (by simp)
           have o32' : aX h32 f [.str n.text, ii ((aZ T.l i + 1))] := o32; have off32 : kJ (λ x => x = f) h20 h32 := k32.off rfl
           have rG := (r.grown g20').g.fileSet (s := n.text) (k' := aZ T.l i + 1) hn hk1 hcf hff o32' off32; have hfs : fset (bQ T.l) i (some { n with text := n.text }) = bQ T.l := by
             have : (some { n with text := n.text } : Option bF) = bQ T.l i := hn.symm
             rw [this, yI]
           rw [hfs] at rG; have hne0 : h7.size ≠ f := by
             have := (r.grown (g2.trans g7)).lt (c := f) (.inr ⟨i, by rw [hff]; simp⟩)
             omega
           have o13' := (o13.grown g20).off off32 hne0; obtain ⟨h38, fp', f38, off38, fpp, rG2⟩ := bFe s4 rG hI hk hm hc hnok.1 hh hrng.1 hrng.2; have hlk := sV hI.inc hm name i; refine ⟨h38, C, _, ?_, rG2.at_ (T := ⟨gV T dn name i, T.gen⟩) (λ j => rfl) (λ j x hx hxk => ?_) rfl (lG hI.inc hm _), aMC (h1 := h32) (((g20'.off _).trans (off32.weak λ c _ hc => .inr (.inr ⟨i, by rw [hff, hc]; simp⟩))).trans (off38.weak λ c _ hc => .inr (.inl hc))) (Nat.le_trans g20'.size off32.size) fpp⟩
           · rw [aA, fa1, aA, of20.read (j := 1) rfl, aA, bO (by omega), aA, aA, fa1, aA, f32, aB, aJ, aA, o13'.read (j := 0 + 0) rfl, aA, aJ, aA, o13'.read (j := 0 + 1) rfl, aA, b4, f38, aB]
           · show _ = aZ (gV T dn name i) j; unfold gV; rw [hlk]; by_cases hji : j = i
             · subst hji; rw [dW, if_pos rfl]
             · rw [cS _ _ hji, if_neg (Ne.symm hji)]; rfl
   · have dec : (!decide ((cH T o).2.2 = 0)) = true := by simp [e1]
     rw [dec, aD, if_neg e1]; exact ⟨h13, C, FN, rfl, r13, jY.grown g13⟩
 · have dec : (!decide ((aU T p).2 = 0)) = true := by simp [e0]
   rw [dec, aD, if_neg e0]; exact ⟨h2, C, FN, rfl, r.grown g2, jY.grown g2⟩
theorem aBQ {L : NL} {a : List (Ln)} {x : Ln} {i : Nat} (e : eV L (a ++ [x]) 1 = (i, 0)) : ∃ d n, eV L a 1 = (d, 0) /\ bQ L d = some n /\ n.kind ≠ 1 /\ eS n.l x = true /\ jU n.l x = i := by
 have h0 : (eV L a 1).2 = 0 := Classical.byContradiction λ h => by
   have := aBR L a [x] 1 h; rw [e] at this; rw [<- this] at h; exact h rfl
 generalize hw : eV L a 1 = W at h0; obtain ⟨d, z⟩ := W; simp only at h0; subst h0; rw [tO L a [x] 1 d hw] at e; simp only [eV] at e; split at e
 · rename_i n hn; split at e
   · cases e
   · rename_i hk; split at e
     · rename_i hh; simp only [Prod.mk.injEq, and_true] at e; exact ⟨d, n, rfl, hn, hk, hh, e⟩
     · cases e
 · cases e
theorem bCY {l : EL} {x y : Ln} {i : Nat} (hx : eS l x = true) (hy : eS l y = true) (ex : jU l x = i) (ey : jU l y = i) (hxy : x ≠ y) : 2 <= iD l i := by
 have h1 := aOt hx i; rw [ex, if_pos rfl] at h1; have hm := mJ hy; rw [ey] at hm; obtain ⟨n, q1, q2⟩ := oU hx; have hlt := (List.getElem?_eq_some_iff.1 q1).1; have e : l.drop (dY l x) = (x, n) :: l.drop (dY l x + 1) := by
   rw [List.drop_eq_getElem_cons hlt]; rw [List.getElem?_eq_getElem hlt] at q1; rw [Option.some.inj q1]
 rw [<- List.take_append_drop (dY l x) l, e, List.mem_append, List.mem_cons] at hm; have : (y, i) ∈ gF l x := by
   unfold gF; rw [List.mem_append]; rcases hm with hm | hm | hm
   · exact .inl hm
   · simp only [Prod.mk.injEq] at hm; exact absurd hm.1.symm hxy
   · exact .inr hm
 have := aEq this; omega
theorem aWp {L : NL} (hL : kV L) {a b : Nat} {na nb : bF} (ha : bQ L a = some na) (hb : bQ L b = some nb) (hab : a ≠ b) {i : Nat} (h1 : 1 <= iD na.l i) (h2 : 1 <= iD nb.l i) : 2 <= aZ L i := by
 have q1 := vX (λ n => iD n.l i) hL ha
 have hb' : bQ (jN L a) b = some nb := by rw [mM, if_neg (Ne.symm hab)]; exact hb
 have q2 := aCm (f := λ n => iD n.l i) (dG hb').1
 unfold aZ; omega
theorem aHP {k : Nat} {T : TreeP} (hI : Inv k T) {b : List (Ln)} (h : eV T.l b 1 = (1, 0)) : b = [] := by
 refine Classical.byContradiction λ hb => ?_
 rw [nJ hb] at h; obtain ⟨d, n, _, hn, _, hh, e⟩ := aBQ h; have := yG (dG hn).1 (mJ hh); rw [e, hI.rt0] at this; omega
theorem aVB {k : Nat} {T : TreeP} (hI : Inv k T) : ∀ (m : Nat) (a b : List (Ln)) (i : Nat) (n : bF), a.length = m -> eV T.l a 1 = (i, 0) -> eV T.l b 1 = (i, 0) -> bQ T.l i = some n -> n.kind = 2 -> a = b := by
 intro m
 induction m with
 | zero =>
   intro a b i n ha wa wb hn hk; have : a = [] := List.eq_nil_of_length_eq_zero ha; subst this; simp only [eV, Prod.mk.injEq, and_true] at wa; subst wa; exact (aHP hI wb).symm
 | succ m ih =>
   intro a b i n ha wa wb hn hk; have hane : a ≠ [] := λ e => by rw [e] at ha; cases ha
   have hbne : b ≠ [] := λ e => by
     rw [e] at wb; simp only [eV, Prod.mk.injEq, and_true] at wb; subst wb; exact hane (aHP hI wa)
   have sa := nJ hane; have sb := nJ hbne; have one := hI.one i n hn hk; generalize hx : a.getD (a.length - 1) [] = x at sa; generalize hy : b.getD (b.length - 1) [] = y at sb; have wa' := wa; have wb' := wb; rw [sa] at wa'; rw [sb] at wb'; obtain ⟨d1, n1, w1, q1, k1, h1, e1⟩ := aBQ wa'; obtain ⟨d2, n2, w2, q2, k2, h2, e2⟩ := aBQ wb'; have c1 : 1 <= iD n1.l i := by have := aEq (mJ h1); rw [e1] at this; exact this
   have c2 : 1 <= iD n2.l i := by have := aEq (mJ h2); rw [e2] at this; exact this
   by_cases hd : d1 = d2
   · subst hd; rw [q1] at q2; cases q2; by_cases hxy : x = y
     · have := ih (a.take (a.length - 1)) (b.take (b.length - 1)) d1 n1 (by rw [List.length_take]; omega) w1 w2 q1 (aDI hI q1 k1)
       rw [sa, sb, <- this, hxy]
     · have z1 := bCY h1 h2 e1 e2 hxy; have z2 := aCm (f := λ n => iD n.l i) (dG q1).1
       unfold aZ at one; omega
   · have := aWp hI.inc q1 q2 hd c1 c2; omega
theorem bBT {k : Nat} {T : TreeP} (hI : Inv k T) {p o : Ln} {d d' : Nat} {nm nm' : Ln} (hp : cH T p = (d, nm, 0)) (ho : cH T o = (d', nm', 0)) : (d = d' /\ nm = nm') ↔ aT p = aT o := by
 obtain ⟨n1, w1, ⟨m1, q1, k1⟩, e1⟩ := mV hp; obtain ⟨n2, w2, ⟨m2, q2, k2⟩, e2⟩ := mV ho; constructor
 · rintro ⟨rfl, rfl⟩
   have h := aVB hI _ _ _ _ _ rfl w1 w2 q1 (aDI hI q1 k1); rw [nJ n1, nJ n2, h]
   congr 2
   unfold dT at e1 e2; rw [<- e1, <- e2]
 · intro h; unfold dT at e1 e2; rw [h] at w1 e1; rw [w1] at w2; simp only [Prod.mk.injEq, and_true] at w2; exact ⟨w2, by rw [e1, e2]⟩
theorem aHH {h : H} {b c : Nat} {L M : List DV} (hb : aX h b L) (hc : aX h c M) : nH h.get .ptr (.ptr b 0) (.ptr c 0) = some (decide (b = c)) := by
 obtain ⟨_, e1, t1, g1, _⟩ := hb; obtain ⟨_, e2, t2, g2, _⟩ := hc; show (bif Nat.beq b c then some (Nat.beq 0 0) else match h.get b, h.get c with
   | some (.blk B), some (.blk B') => bif B.pl && B'.pl then some false else none
   | _, _ => none) = _
 by_cases e : b = c
 · subst e; rw [Nat.beq_refl, decide_eq_true rfl]; rfl
 · rw [decide_eq_false e, aAg e, g1, g2]; rfl
theorem aYo (rd : Rd) (a b : Ln) : nH rd .str (.str a) (.str b) = some (decide (a = b)) := by
 show some (sEq a b) = _; rw [tZ]
 congr 1
 by_cases h : a = b <;> simp [h]
theorem aPF {h : H} {b c : Nat} {L M : List DV} (hb : aX h b L) (hc : aX h c M) (s u : Ln) : aEG false (.leaf .ptr 0 (.leaf .str 1 .nil)) h.get (.agg [.ptr b 0, .str s]) (.agg [.ptr c 0, .str u]) = some (.bool (decide (b = c) && decide (s = u))) := by
 show (match nH h.get .ptr (.ptr b 0) (.ptr c 0) with
   | some x => bif x then (match nH h.get .str (.str s) (.str u) with
     | some x => bif x then some true else some false
     | none => none) else some false
   | none => none).bind (λ b => fF (bif false then !b else b)) = _
 rw [aHH hb hc, aYo]; by_cases h1 : b = c <;> by_cases h2 : s = u <;> simp [h1, h2, gH]
theorem aJf {E : bJ} (hL : bL E 85 lL) (hP : bL E 95 oY) (hW : bL E 98 nP) (hT : bL E 99 qU) (hR : bL E 96 tK) (hA : bL E 100 tL) : sX iS (S44 E) := by
 obtain ⟨B0, b0, s0⟩ := hL.call; obtain ⟨B1, b1, s1⟩ := hW.call; obtain ⟨B2, b2, s2⟩ := hP.call; obtain ⟨B3, b3, s3⟩ := hT.call; obtain ⟨B4, b4, s4⟩ := hA.call; obtain ⟨B5, b5, s5⟩ := hR.call; intro t T C FN k p o h r hI hk ho hpl hol; obtain ⟨h2, f2, g2⟩ := s0 t T C FN k p h r hI hk hpl; obtain ⟨v, nm, h7, f7, g7, v1, q⟩ := s2 t T C FN k o h2 (r.grown g2) hI hk hol; obtain ⟨h11, eh, g11, o11⟩ := aO h7 2 2 [.nilp, .str []] rfl; obtain ⟨h13, f13, o13, k13⟩ := o11.setAll (n := 2) (cs := [v, .str nm]) rfl rfl (by rw [List.all_cons, v1]; rfl)
 have g713 : aH h7 h13 := k13.grown g11 (Nat.le_refl _); have g13 : aH h h13 := (g2.trans g7).trans g713; have r13 := r.grown g13; show ∃ h' C' FN', aUZ E (.ptr t 0) (.str p) (.str o) h = _ /\ _; unfold aUZ; rw [b0, f2, aB, aL, aA, aK, aA, bC, aA]; unfold iS; by_cases e0 : (aU T p).2 = 0
 · obtain ⟨n, hn⟩ := qM hI e0; have hok := hI.of hn; have dec : (!decide ((aU T p).2 = 0)) = false := by rw [e0]; rfl
   rw [dec, aC, if_pos e0, b2, f7, aB, aL, aA, aK, aA, bG, <- eh, f13, aB, bC, aA]; by_cases e1 : (cH T o).2.2 = 0
   · obtain ⟨rfl, d, m, rfl, hm, hc⟩ := q e1; obtain ⟨hne, _, _, hnm⟩ := mV (T := T) (p := o) (d := (cH T o).1) (name := (cH T o).2.1) (by rw [<- e1])
     have hnok := pK ho hne; rw [<- hnm] at hnok; have dec : (!decide ((cH T o).2.2 = 0)) = false := by rw [e1]; rfl
     rw [dec, aC, if_pos e1, cB, aA]; have bad : ∃ (h21 : H) (c : Bool), aH h13 h21 /\ (c = true ↔ ((aU T p).1 = 1 \/ nQ p o = true)) /\ ∀ (K : DV -> H -> aV),
         (bR (.bool (decide ((aU T p).1 = 1))) false (λ kk => kk (.str p) h13) h13 λ x16 h17 => bR (.bool (decide ((aU T p).1 = 1))) false (λ kk => kk (.str o) h17) h17 λ x18 h19 =>
           bR (.bool (decide ((aU T p).1 = 1))) false (λ kk => wK (aE E 98 [x16, x18] h19) kk) h19 λ x20 h21 => vK (bE (.bool (decide ((aU T p).1 = 1))) (.bool true) x20) λ x22 => K x22 h21) = K (.bool c) h21 := by
       by_cases h1 : (aU T p).1 = 1
       · refine ⟨h13, true, aH.refl _, ⟨λ _ => .inl h1, λ _ => rfl⟩, λ K => ?_⟩
         simp only [decide_eq_true h1, fL, eD, bZ, aA]
       · obtain ⟨h37, f37, g37⟩ := s1 p o h13 hpl hol; refine ⟨h37, nQ p o, g37, ⟨λ y => .inr y, λ y => y.elim (λ z => absurd z h1) id⟩, λ K => ?_⟩
         simp only [decide_eq_false h1, dQ, b1, f37, aB, bT, aA]
     obtain ⟨h21, c, g21, hcc, hbad⟩ := bad; rw [hbad]; cases c with
     | true =>
       rw [aD, if_pos (hcc.1 rfl)]; exact ⟨h21, C, FN, rfl, r13.grown g21, jY.grown (g13.trans g21)⟩
     | false =>
       have hnc : ¬ ((aU T p).1 = 1 \/ nQ p o = true) := λ y => by have := hcc.2 y; cases this
       have hi1 : (aU T p).1 ≠ 1 := λ y => hnc (.inl y)
       have g021 := g13.trans g21; have r21 := r.grown g021; obtain ⟨d0, m0, q1, q2, q3, q4, q5⟩ := oQ hI (p := p) (i := (aU T p).1) (by rw [<- e0]) hi1
       obtain ⟨v', nm', h24, f24, g24, _, q'⟩ := s2 t T C FN k p h21 r21 hI hk hpl; rw [q1] at f24 q'; obtain ⟨rfl, dp, m', rfl, hm', hc0⟩ := q' rfl; change bQ T.l d0 = some m' at hm'; rw [q2] at hm'; cases hm'; change C[d0 * 2 + 1]? = _ at hc0; obtain ⟨h28, eh2, g28, o28⟩ := aO h24 2 2 [.nilp, .str []] rfl; obtain ⟨h30, f30, o30, k30⟩ := o28.setAll (n := 2) (cs := [.ptr dp 0, .str (dT p)]) rfl rfl rfl; have g2430 : aH h24 h30 := k30.grown g28 (Nat.le_refl _); have g1330 : aH h13 h30 := (g21.trans g24).trans g2430; have g030 := g13.trans g1330; have r30 := r.grown g030; have o13' := o13.grown g1330; obtain ⟨hk2, hd30⟩ := r30.dirOf hm hc; obtain ⟨_, hd0⟩ := r30.dirOf q2 hc0; obtain ⟨_, od⟩ := hd30.at_; obtain ⟨_, od0⟩ := hd0.at_; have hq1 : cH T p = (d0, dT p, 0) := q1; have hse := bBT hI hq1 (o := o) (d' := (cH T o).1) (nm' := (cH T o).2.1) (by rw [<- e1])
       have hdd : dp = d ↔ d0 = (cH T o).1 := by
         constructor
         · intro e; refine Classical.byContradiction λ hne2 => ?_
           exact r.apart d0 _ hne2 dp hd0.mem (by rw [e]; exact hd30.mem)
         · intro e; rw [e, hc] at hc0; cases hc0; rfl
       have heq : (decide (dp = d) && decide (dT p = (cH T o).2.1)) = decide (aT p = aT o) := by
         rw [Bool.eq_iff_iff, Bool.and_eq_true, decide_eq_true_eq, decide_eq_true_eq, decide_eq_true_eq, hdd]; exact hse
       rw [aC, if_neg hnc, b2, f24, aB, aL, aA, aK, aA, bG, <- eh2, f30, aB, o30.all (n := 2) rfl, aA, o13'.all (n := 2) rfl, aA, aPF od0 od, aA, heq]; by_cases hsp : aT p = aT o
       · rw [decide_eq_true hsp, aD, if_pos hsp]; exact ⟨h30, C, FN, rfl, r30, jY.grown g030⟩
       · rw [decide_eq_false hsp, aC, if_neg hsp]; have hokm := hI.of hm; obtain ⟨h36, f36, g36⟩ := s3 d m.l (cH T o).2.1 h30 (hd30.view λ _ _ => trivial) hokm.1.srt (by have := hokm.1.len; omega)
         have et : kP T (cH T o).1 (cH T o).2.1 = eS m.l (cH T o).2.1 := by unfold kP; rw [hm]
         have g036 := g030.trans g36; rw [aA, b3, f36, aB, et]; cases hh : eS m.l (cH T o).2.1 with
         | true =>
           rw [if_pos rfl, aD]; exact ⟨h36, C, FN, rfl, r.grown g036, jY.grown g036⟩
         | false =>
           rw [if_neg (by simp), aC, q1]
           generalize hii : (aU T p).1 = i at *; generalize hdn : (cH T o).1 = dn at *; generalize (cH T o).2.1 = name at *; simp only; have r36 := r.grown g036; obtain ⟨_, hd36⟩ := r36.dirOf q2 hc0; have hok0 := hI.of q2; obtain ⟨h42, f42, d42, off42⟩ := s5 dp m0.l (FN d0) (dT p) h36 hd36 hok0.1.srt (by have := hok0.1.len; omega) q4
           have rG := r36.g.dirSet q2 q3 hc0 d42 off42 λ c hc => .inl hc
           rw [yI] at rG; have eG : bQ (eC T d0 (dT p)) = fset (bQ T.l) d0 (some { m0 with l := gF m0.l (dT p) }) := funext λ j => vY _ q2 j
           rw [<- eG] at rG; have hIr := uH hI q2 q3 q4; have hrng : 1 <= i /\ i < 256 := by have := hok.1.rng; rw [hok.2] at this; exact this
           have hm2 : ∃ m2, bQ (eC T d0 (dT p)) dn = some m2 /\ eS m2.l name = false := by
             unfold eC; rw [mW, hm]; refine ⟨_, rfl, ?_⟩; split
             · exact aFv hokm.1.srt hh
             · exact hh
           obtain ⟨m2, hm2, hh2⟩ := hm2; obtain ⟨h48, fp', f48, off48, fpp, rG2⟩ := bFe (T := ⟨eC T d0 (dT p), T.gen⟩) s4 rG hIr hk hm2 hc hnok.1 hh2 hrng.1 hrng.2; have n1 : h24.size ∉ FN d0 := λ x => absurd (r36.lt (c := h24.size) (.inr ⟨d0, x⟩)) (by
             intro _; have := (r21.grown g24).lt (c := h24.size) (.inr ⟨d0, x⟩); omega)
           have n2 : h7.size ∉ FN d0 := λ x => by
             have := (r.grown (g2.trans g7)).lt (c := h7.size) (.inr ⟨d0, x⟩); omega
           have o30' := o30.grown g36; have o13'' := ((o13'.grown g36).off off42 n2); have hli := lK hI.inc q2 q4; have hla := sV hIr.inc (d := dn) (n := m2) hm2 name i; have htr : cT (eC T d0 (dT p)) = cT T.l := lG hI.inc q2 _; refine ⟨h48, C, _, ?_, rG2.at_ (T := ⟨gV ⟨eC T d0 (dT p), T.gen⟩ dn name i, T.gen⟩) (λ j => rfl) (λ j x hx hxk => ?_) rfl ?_, aMC (h1 := h42) (((g036.off _).trans (off42.weak λ c _ hc => .inr (.inr ⟨d0, hc⟩))).trans (off48.weak λ c _ hc => .inr (.inl hc))) (Nat.le_trans g036.size off42.size) fpp⟩
           · rw [aJ, aA, o30'.read (j := 0 + 0) rfl, aA, aJ, aA, o30'.read (j := 0 + 1) rfl, aA, b5, f42, aB, aJ, aA, o13''.read (j := 0 + 0) rfl, aA, aJ, aA, o13''.read (j := 0 + 1) rfl, aA, b4, f48, aB]
           · show _ = aZ (gA (eC T d0 (dT p)) dn (dZ λ l => gQ l name i)) j
             have a := hli j; have b := hla j; rw [q5] at a; change aZ (eC T d0 (dT p)) j + (if i = j then 1 else 0) = aZ T.l j at a
             change aZ (gA (eC T d0 (dT p)) dn (dZ λ l => gQ l name i)) j = aZ (eC T d0 (dT p)) j + (if i = j then 1 else 0) at b
             rw [b, a]
           · show cT (gA (eC T d0 (dT p)) dn (dZ λ l => gQ l name i)) = _
             have := lG hIr.inc (d := dn) (n := m2) hm2 (λ l => gQ l name i)
             rw [<- htr]; exact this
   · have dec : (!decide ((cH T o).2.2 = 0)) = true := by simp [e1]
     rw [dec, aD, if_neg e1]; exact ⟨h13, C, FN, rfl, r13, jY.grown g13⟩
 · have dec : (!decide ((aU T p).2 = 0)) = true := by simp [e0]
   rw [dec, aD, if_neg e0]; exact ⟨h2, C, FN, rfl, r.grown g2, jY.grown g2⟩
def sY (B : cF) : Prop := ∀ (t : Nat) (T : TreeP) (C : List DV) (FN : Nat -> Ln) (k : Nat) (p : Ln) (h : H), cY h t T C FN -> Inv k T -> k < 900 -> p.length < 140737488355328 ->
 ∃ v h', B [.ptr t 0, .str p] h = some (.tup [v, ii ((eR T p).2)], h') /\ aH h h' /\ ((eR T p).2 = 0 -> ∃ n f, v = .ptr f 0 /\ bQ T.l (eR T p).1 = some n /\ C[(eR T p).1 * 2 + 1]? = some (.ifc 141 (.ptr f 0)))
theorem aPO {E : bJ} (hL : bL E 85 lL) (hF : bL E 86 pV) : sY (S83 E) := by
 obtain ⟨B0, b0, s0⟩ := hL.call; obtain ⟨B1, b1, s1⟩ := hF.call; intro t T C FN k p h r hI hk hpl; obtain ⟨h2, f2, g2⟩ := s0 t T C FN k p h r hI hk hpl; have r2 := r.grown g2; show ∃ v h', aUr E (.ptr t 0) (.str p) h = _ /\ _; unfold aUr; rw [b0, f2, aB, aL, aA, aK, aA, bC, aA]; unfold eR; by_cases e0 : (aU T p).2 = 0
 · obtain ⟨n, hn⟩ := qM hI e0; have hok := hI.of hn; obtain ⟨v, f7, c7⟩ := s1 t T C FN (aU T p).1 n h2 r2 hn (by have := hok.1.rng; omega)
   have dec : (!decide ((aU T p).2 = 0)) = false := by rw [e0]; rfl
   rw [dec, aC, b1, f7, aB, if_pos e0, iT hn]; rcases c7 with ⟨hk2, rfl⟩ | ⟨hk1, f, rfl, of, hff, hcf⟩
   · rw [if_pos hk2]; have e : eM .ptr false h2.get .nilp .nilp = some (.bool true) := rfl; rw [e, aA, aD]; exact ⟨_, h2, rfl, g2, λ x => by cases x⟩
   · rw [if_neg (by omega), cO, aA, aC, e0]
     exact ⟨_, h2, rfl, g2, λ _ => ⟨n, f, rfl, hn, hcf⟩⟩
 · have dec : (!decide ((aU T p).2 = 0)) = true := by simp [e0]
   rw [dec, aD, if_neg e0]; exact ⟨_, h2, rfl, g2, λ x => absurd x e0⟩
theorem bEY {n : Int} (h : iB n) : IntKind.i64.wrap n = n := by
 rw [IntKind.wrap_i64]; unfold iB at h; omega
theorem aVT {k : Nat} {T : TreeP} (hI : Inv k T) {i : Nat} {n : bF} (hn : bQ T.l i = some n) (s : Ln) (j : Nat) : aZ (gA T.l i (gC s)) j = aZ T.l j := by
 have := qC (λ n => iD n.l j) hI.inc hn (gC s)
 have e : iD (gC s n).l j = iD n.l j := rfl; rw [e] at this; unfold aZ; omega
theorem aVS {k : Nat} {T : TreeP} (hI : Inv k T) {i : Nat} {n : bF} (hn : bQ T.l i = some n) (s : Ln) : cT (gA T.l i (gC s)) + n.text.length = cT T.l + s.length :=
 qC (λ n => n.text.length) hI.inc hn (gC s)
theorem aXG {T : TreeP} {i : Nat} {n : bF} (hn : bQ T.l i = some n) (s : Ln) (j : Nat) : bQ (gA T.l i (gC s)) j = fset (bQ T.l) i (some { n with text := s }) j := by
 have hi : ∀ n : bF, (gC s n).inode = n.inode := λ _ => rfl
 rw [aCq hi]; by_cases hd : j = i
 · subst hd; rw [dW, hn, Option.map_some, if_pos rfl]; rfl
 · rw [cS _ _ hd]; cases bQ T.l j with
   | none => rfl
   | some m => rw [Option.map_some, if_neg hd]
theorem vT {T : TreeP} {i : Nat} {n : bF} (hn : bQ T.l i = some n) : mH T i = n.text := by unfold mH; rw [hn]
theorem Inv.idx {k : Nat} {T : TreeP} (hI : Inv k T) {i : Nat} {n : bF} (hn : bQ T.l i = some n) : 1 <= i /\ i < 256 := by
 have := hI.of hn; have h2 := this.1.rng; rw [this.2] at h2; exact h2
def yW (B : cF) : Prop := ∀ (t : Nat) (T : TreeP) (C : List DV) (FN : Nat -> Ln) (k i f : Nat) (n : bF) (s : Ln) (h : H), cY h t T C FN -> Inv k T -> bQ T.l i = some n -> C[i * 2 + 1]? = some (.ifc 141 (.ptr f 0)) -> s.length <= 100000 ->
 ∃ h' C', B [.ptr t 0, .ptr f 0, .str s] h = some (ii ((oV T i s).2), h') /\ cY h' t (oV T i s).1 C' FN /\ kJ (Fp t FN) h h'
theorem aPS {E : bJ} : yW (bAE E) := by
 intro t T C FN k i f n s h r hI hn hc hs; obtain ⟨hk1, of, hff⟩ := r.fileOf hn hc; have hT := hI.tot; have hle := aCm (f := λ n => n.text.length) (dG hn).1
 have hle' : n.text.length <= cT T.l := hle; have hst := aVS hI hn s; have fa : aI 513 (.ptr t 0) = some (.ptr t 513) := by rw [aJ, Nat.zero_add]
 have fa0 : aI 0 (.ptr f 0) = some (.ptr f 0) := by rw [aJ]
 show ∃ h' C', aLQ E (.ptr t 0) (.ptr f 0) (.str s) h = _ /\ _; unfold aLQ oV; rw [vT hn, bA, aA, fa, aA, r.obj.read r.tot, aA, bA, aA, fa0, aA, of.read (j := 0) rfl, aA, aY, aA, fY hle' (by omega), aA, aY, aA, bO (by omega), aA, cW, aA]
 by_cases hb : 65536 < cT T.l - n.text.length + s.length
 · rw [decide_eq_true hb, aD, if_pos hb]; exact ⟨h, C, rfl, r, kJ.refl _ _⟩
 · rw [decide_eq_false hb, aC, if_neg hb]; have hadd : (fM (ii s.length) (ii n.text.length)).bind (λ x => bN (ii (cT T.l)) x) = some (ii (cT (gA T.l i (gC s)))) := by
     rw [aBS, Option.bind_some, aBY]; rw [bEY (show iB (Int.ofNat s.length - Int.ofNat n.text.length) from by unfold iB; simp only [Int.ofNat_eq_natCast]; omega)]
     have e : Int.ofNat (cT T.l) + (Int.ofNat s.length - Int.ofNat n.text.length) = Int.ofNat (cT (gA T.l i (gC s))) := by simp only [Int.ofNat_eq_natCast]; omega
     rw [e, bEY (show iB (Int.ofNat (cT (gA T.l i (gC s)))) from by unfold iB; simp only [Int.ofNat_eq_natCast]; omega)]
   obtain ⟨x, hx1, hx2⟩ := Option.bind_eq_some_iff.1 hadd; obtain ⟨h25, f25, o25, k25⟩ := r.obj.set (v := ii ((cT (gA T.l i (gC s))))) (j := 513) rfl (by rw [r.len]; omega)
   have l1 : (C.set 513 (ii (cT (gA T.l i (gC s))))).length = 514 := by rw [List.length_set]; exact r.len
   have off25 : kJ (λ x => x = t) h h25 := k25.off rfl
   have rG := r.g.cells (g' := T.gen) (tot' := cT (gA T.l i (gC s))) l1 o25 off25 (by rw [List.getElem?_set, if_neg (by omega)]; exact r.gen) (by rw [List.getElem?_set, if_pos rfl, if_pos (by rw [r.len]; omega)]) (λ j hj => by rw [List.getElem?_set, if_neg (by omega)]) (λ j m hm => (hI.idx hm).2)
   have hft : f ≠ t := λ e => r.own i (by rw [hff, e]; simp)
   have of25 := of.off off25 hft; obtain ⟨h29, f29, o29, k29⟩ := of25.set (v := .str s) (j := 0) rfl (by simp)
   have o29' : aX h29 f [.str s, ii ((aZ T.l i))] := o29; have off29 : kJ (λ x => x = f) h25 h29 := k29.off rfl
   have hi := hI.idx hn; have rG2 := rG.fileSet (s := s) (k' := aZ T.l i) hn hk1 (by rw [List.getElem?_set, if_neg (by omega)]; exact hc) hff o29' off29
   refine ⟨h29, _, ?_, rG2.at_ (T := ⟨gA T.l i (gC s), T.gen⟩) (λ j => aXG hn s j) (λ j x hx hxk => ?_) rfl rfl, (off25.weak λ c _ hc => .inl hc).trans (off29.weak λ c _ hc => .inr ⟨i, by rw [hff, hc]; simp⟩)⟩
   · rw [aA, fa, aA, r.obj.read r.tot, aA, aA, aA, fa0, aA, of.read (j := 0) rfl, aA, aY, aA, hx1, aA, hx2, aA, aA, fa, aA, f25, aB, aA, fa0, aA, f29, aB]
   · show _ = aZ (gA T.l i (gC s)) j; rw [aVT hI hn]; by_cases hji : j = i
     · subst hji; rw [dW]
     · rw [cS _ _ hji]
def aAr (B : cF) : Prop := ∀ (t : Nat) (T : TreeP) (C : List DV) (FN : Nat -> Ln) (k i f : Nat) (n : bF) (a : Int) (s : Ln) (h : H), cY h t T C FN -> Inv k T -> bQ T.l i = some n -> C[i * 2 + 1]? = some (.ifc 141 (.ptr f 0)) -> bB s = true -> iB a ->
 ∃ h' C', B [.ptr t 0, .ptr f 0, .int .i64 a, .str s] h = some (ii ((pW T i a s).2), h') /\ cY h' t (pW T i a s).1 C' FN /\ kJ (Fp t FN) h h'
theorem aMt {E : bJ} (hP : bL E 140 aEv) (hF : bL E 102 yW) : aAr (S92 E) := by
 obtain ⟨B0, b0, s0⟩ := hP.call; obtain ⟨B1, b1, s1⟩ := hF.call; intro t T C FN k i f n a s h r hI hn hc hok ha; obtain ⟨hk1, of, hff⟩ := r.fileOf hn hc; have fa0 : aI 0 (.ptr f 0) = some (.ptr f 0) := by rw [aJ]
 show ∃ h' C', aUk E (.ptr t 0) (.ptr f 0) (.int .i64 a) (.str s) h = _ /\ _; unfold aUk pW; rw [eY, aA]; by_cases h0 : a < 0
 · rw [decide_eq_true (show a < Int.ofNat 0 from h0), aD, if_pos h0]
   exact ⟨h, C, rfl, r, kJ.refl _ _⟩
 · rw [decide_eq_false (show ¬ a < Int.ofNat 0 from h0), aC, if_neg h0, aY, aA, cW, aA]
   obtain ⟨an, rfl⟩ : ∃ an : Nat, a = .ofNat an := ⟨a.toNat, by simp only [Int.ofNat_eq_natCast]; omega⟩
   have cond : ∀ (K : DV -> H -> aV), (bR (.bool (decide (16384 < s.length))) false (λ kk => kk (ii an) h) h λ x12 h13 =>
       bR (.bool (decide (16384 < s.length))) false (λ kk => kk (.str s) h13) h13 λ x14 h15 =>
       bR (.bool (decide (16384 < s.length))) false (λ kk => vK (cJ x14) λ v => kk v h15) h15 λ x16 h17 =>
       bR (.bool (decide (16384 < s.length))) false (λ kk => vK (fM (ii 16384) x16) λ v => kk v h17) h17 λ x18 h19 =>
       bR (.bool (decide (16384 < s.length))) false (λ kk => vK (eI x12 x18) λ v => kk v h19) h19 λ x20 h21 =>
       vK (bE (.bool (decide (16384 < s.length))) (.bool true) x20) λ x22 => K x22 h21) = K (.bool (decide (16384 < s.length \/ (16384 - s.length : Int) < Int.ofNat an))) h := by
     intro K; by_cases hb : 16384 < s.length
     · have d2 : decide (16384 < s.length \/ (16384 - s.length : Int) < Int.ofNat an) = true := by simp [hb]
       simp only [decide_eq_true hb, fL, eD, bZ, aA, d2]
     · have d2 : decide (16384 < s.length \/ (16384 - s.length : Int) < Int.ofNat an) = decide (16384 - s.length < an) := by
         by_cases hc : 16384 - s.length < an
         · rw [decide_eq_true hc, decide_eq_true]; right; simp only [Int.ofNat_eq_natCast]; omega
         · rw [decide_eq_false hc, decide_eq_false]; rintro (y | y)
           · exact hb y
           · simp only [Int.ofNat_eq_natCast] at y; omega
       simp only [decide_eq_false hb, dQ, aY, aA, fY (show s.length <= 16384 by omega) (show 16384 < 9223372036854775808 by omega), cW, bT, d2]
   rw [cond]; by_cases hb : 16384 < s.length \/ (16384 - s.length : Int) < Int.ofNat an
   · rw [decide_eq_true hb, aD, if_pos hb]; exact ⟨h, C, rfl, r, kJ.refl _ _⟩
   · rw [decide_eq_false hb, aC, if_neg hb, gI, aA]; by_cases ht0 : s = []
     · rw [ht0, show (([] : Ln) == []) = true from rfl, aD, if_pos rfl]
       exact ⟨h, C, rfl, r, kJ.refl _ _⟩
     · have hne : (s == []) = false := by rw [beq_eq_false_iff_ne]; exact ht0
       have hlt : s.length <= 16384 /\ an + s.length <= 16384 := by
         simp only [Int.ofNat_eq_natCast, not_or] at hb; omega
       have hx0 := (hI.of hn).1.txt; have hpv := s0 n.text s an h hx0.1 hok (by omega) (by omega)
       have hpl : (zG n.text an s).length <= 100000 := by rw [rP]; omega
       obtain ⟨h24, C', f24, r24, off⟩ := s1 t T C FN k i f n (zG n.text an s) h r hI hn hc hpl; refine ⟨h24, C', ?_, ?_, off⟩
       · rw [hne, aC, if_neg ht0, bA, aA, fa0, aA, of.read (j := 0) rfl, aA, b0, hpv, aB, aL, aA, aK, aA, b1, f24, aB, vT hn]; rfl
       · rw [if_neg ht0, vT hn]; exact r24
def aCB (B : cF) : Prop := ∀ (f l : Nat) (s : Ln) (a n : Int) (h : H), aX h f [.str s, ii l] -> s.length <= 100000 -> iB a -> iB n ->
 B [.ptr f 0, .int .i64 a, .int .i64 n] h = some (.tup [.str (if a < 0 \/ n < 0 then [] else (s.drop a.toNat).take n.toNat), ii ((if a < 0 \/ n < 0 then 1 else 0))], h)
theorem aWR (s : Ln) (a n : Nat) : (s.drop (min a s.length)).take (min n (s.drop (min a s.length)).length) = (s.drop a).take n := by
 have e1 : s.drop (min a s.length) = s.drop a := by
   rcases Nat.le_total a s.length with h | h
   · rw [Nat.min_eq_left h]
   · rw [Nat.min_eq_right h, List.drop_length, List.drop_of_length_le h]
 rw [e1]; rcases Nat.le_total n (s.drop a).length with h | h
 · rw [Nat.min_eq_left h]
 · rw [Nat.min_eq_right h, List.take_of_length_le (Nat.le_refl _), List.take_of_length_le h]
theorem aPN {E : bJ} : aCB (S84 E) := by
 intro f l s a n h of hs ha hn; have fa0 : aI 0 (.ptr f 0) = some (.ptr f 0) := by rw [aJ]
 show aUq E (.ptr f 0) (.int .i64 a) (.int .i64 n) h = _; unfold aUq; rw [eY, aA]; by_cases h0 : a < 0
 · simp only [decide_eq_true (show a < Int.ofNat 0 from h0), fL, eD, bZ, aA]
   rw [aD, if_pos (.inl h0), if_pos (.inl h0)]
 · by_cases h2 : n < 0
   · simp only [decide_eq_false (show ¬ a < Int.ofNat 0 from h0), dQ, eY, decide_eq_true (show n < Int.ofNat 0 from h2), aA, bT]
     rw [aD, if_pos (.inr h2), if_pos (.inr h2)]
   · simp only [decide_eq_false (show ¬ a < Int.ofNat 0 from h0), dQ, eY, decide_eq_false (show ¬ n < Int.ofNat 0 from h2), aA, bT]
     obtain ⟨an, rfl⟩ : ∃ an : Nat, a = .ofNat an := ⟨a.toNat, by simp only [Int.ofNat_eq_natCast]; omega⟩
     obtain ⟨nn, rfl⟩ : ∃ nn : Nat, n = .ofNat nn := ⟨n.toNat, by simp only [Int.ofNat_eq_natCast]; omega⟩
     rw [aC, if_neg (by omega), if_neg (by omega), bA, aA, fa0, aA, of.read (j := 0) rfl, aA, aA, fa0, aA, of.read (j := 0) rfl, aA, aY, aA, oF, aA, tP (by omega), aA, aY, aA, oF, aA, vN (by omega), aA, aWR]
     rfl
theorem jY.off_ {t : Nat} {h h' : H} {FN : Nat -> Ln} (o : kJ (Fp t FN) h h') : jY t h FN h' FN := ⟨o, λ _ hc => .inl hc⟩
def uX (B : cF) : Prop := ∀ (t : Nat) (T : TreeP) (C : List DV) (FN : Nat -> Ln) (k : Nat) (p : Ln) (a : Int) (s : Ln) (h : H), cY h t T C FN -> Inv k T -> k < 900 -> p.length < 140737488355328 -> bB s = true -> iB a ->
 ∃ h' C' FN', B [.ptr t 0, .str p, .int .i64 a, .str s] h = some (ii ((kK T p a s).2), h') /\ cY h' t (kK T p a s).1 C' FN' /\ jY t h FN h' FN'
theorem aMz {E : bJ} (hO : bL E 83 sY) (hW : bL E 92 aAr) : uX (S46 E) := by
 obtain ⟨B0, b0, s0⟩ := hO.call; obtain ⟨B1, b1, s1⟩ := hW.call; intro t T C FN k p a s h r hI hk hpl hok ha; obtain ⟨v, h2, f2, g2, q⟩ := s0 t T C FN k p h r hI hk hpl; have r2 := r.grown g2; show ∃ h' C' FN', aUX E (.ptr t 0) (.str p) (.int .i64 a) (.str s) h = _ /\ _; unfold aUX; rw [b0, f2, aB, aL, aA, aK, aA, bC, aA]; unfold kK; by_cases e0 : (eR T p).2 = 0
 · obtain ⟨n, f, rfl, hn, hc⟩ := q e0; obtain ⟨h7, C', f7, r7, off⟩ := s1 t T C FN k _ f n a s h2 r2 hI hn hc hok ha; have dec : (!decide ((eR T p).2 = 0)) = false := by rw [e0]; rfl
   rw [dec, aC, if_pos e0, b1, f7, aB]; exact ⟨h7, C', FN, rfl, r7, .off_ ((g2.off _).trans off)⟩
 · have dec : (!decide ((eR T p).2 = 0)) = true := by simp [e0]
   rw [dec, aD, if_neg e0]; exact ⟨h2, C, FN, rfl, r2, jY.grown g2⟩
def aUc (B : cF) : Prop := ∀ (s : Ln) (n : Nat) (h : H), n <= 65536 -> s.length <= n -> B [.str s, ii n] h = some (.tup [.str (gO s n), ii 0], h)
def uY (B : cF) : Prop := ∀ (t : Nat) (T : TreeP) (C : List DV) (FN : Nat -> Ln) (k : Nat) (p : Ln) (n : Int) (h : H), cY h t T C FN -> Inv k T -> k < 900 -> p.length < 140737488355328 -> iB n ->
 ∃ h' C' FN', B [.ptr t 0, .str p, .int .i64 n] h = some (ii ((kN T p n).2), h') /\ cY h' t (kN T p n).1 C' FN' /\ jY t h FN h' FN'
theorem aMA {E : bJ} (hO : bL E 83 sY) (hP : bL E 101 aUc) (hF : bL E 102 yW) : uY (S47 E) := by
 obtain ⟨B0, b0, s0⟩ := hO.call; obtain ⟨B1, b1, s1⟩ := hP.call; obtain ⟨B2, b2, s2⟩ := hF.call; intro t T C FN k p n h r hI hk hpl ha; obtain ⟨v, h2, f2, g2, q⟩ := s0 t T C FN k p h r hI hk hpl; have r2 := r.grown g2; show ∃ h' C' FN', aUW E (.ptr t 0) (.str p) (.int .i64 n) h = _ /\ _; unfold aUW; rw [b0, f2, aB, aL, aA, aK, aA, bC, aA]; unfold kN; by_cases e0 : (eR T p).2 = 0
 · obtain ⟨x, f, rfl, hn, hc⟩ := q e0; obtain ⟨hk1, of, hff⟩ := r2.fileOf hn hc; have hxl := (hI.of hn).1.txt.2; have fa0 : aI 0 (.ptr f 0) = some (.ptr f 0) := by rw [aJ]
   have dec : (!decide ((eR T p).2 = 0)) = false := by rw [e0]; rfl
   rw [dec, aC, if_pos e0, eY, aA]; have cond : ∀ (K : DV -> H -> aV), (bR (.bool (decide (n < Int.ofNat 0))) false (λ kk => kk (.int .i64 n) h2) h2 λ x16 h17 =>
       bR (.bool (decide (n < Int.ofNat 0))) false (λ kk => vK (eI x16 (ii 16384)) λ v => kk v h17) h17 λ x18 h19 =>
       vK (bE (.bool (decide (n < Int.ofNat 0))) (.bool true) x18) λ x20 => K x20 h19) = K (.bool (decide (n < 0 \/ 16384 < n))) h2 := by
     intro K; by_cases hb : n < 0
     · have d2 : decide (n < 0 \/ 16384 < n) = true := by simp [hb]
       simp only [decide_eq_true (show n < Int.ofNat 0 from hb), fL, eD, bZ, aA, d2]
     · have d2 : decide (n < 0 \/ 16384 < n) = decide (Int.ofNat 16384 < n) := by
         simp only [Int.ofNat_eq_natCast]; by_cases hc : 16384 < n
         · rw [decide_eq_true (show n < 0 \/ 16384 < n from .inr hc), decide_eq_true]; omega
         · rw [decide_eq_false (show ¬ (n < 0 \/ 16384 < n) from by omega), decide_eq_false]; omega
       simp only [decide_eq_false (show ¬ n < Int.ofNat 0 from hb), dQ, xW, aA, bT, d2]
   rw [cond]; by_cases hb : n < 0 \/ 16384 < n
   · rw [decide_eq_true hb, aD, if_pos hb]; exact ⟨h2, C, FN, rfl, r2, jY.grown g2⟩
   · obtain ⟨nn, rfl⟩ : ∃ nn : Nat, n = .ofNat nn := ⟨n.toNat, by simp only [Int.ofNat_eq_natCast]; omega⟩
     have hnn : nn <= 16384 := by simp only [Int.ofNat_eq_natCast] at hb; omega
     have emin : x.text.take (min nn x.text.length) = x.text.take nn := by
       rcases Nat.le_total nn x.text.length with y | y
       · rw [Nat.min_eq_left y]
       · rw [Nat.min_eq_right y, List.take_of_length_le (Nat.le_refl _), List.take_of_length_le y]
     have hlt : (x.text.take nn).length <= nn := by rw [List.length_take]; omega
     have fp := s1 (x.text.take nn) nn h2 (by omega) hlt
     have hpl2 : (gO (x.text.take nn) nn).length <= 100000 := by rw [lI hlt]; omega
     obtain ⟨h26, C', f26, r26, off⟩ := s2 t T C FN k _ f x (gO (x.text.take nn) nn) h2 r2 hI hn hc hpl2; rw [decide_eq_false hb, aC, if_neg hb, bA, aA, fa0, aA, of.read (j := 0) rfl, aA, aA, fa0, aA, of.read (j := 0) rfl, aA, aY, aA, oF, aA, vN (by omega), aA, emin, b1, fp, aB, aL, aA, aK, aA, b2, f26, aB, vT hn]
     exact ⟨h26, C', FN, rfl, r26, .off_ ((g2.off _).trans off)⟩
 · have dec : (!decide ((eR T p).2 = 0)) = true := by simp [e0]
   rw [dec, aD, if_neg e0]; exact ⟨h2, C, FN, rfl, r2, jY.grown g2⟩
def aCD (B : cF) : Prop := ∀ (t : Nat) (T : TreeP) (C : List DV) (FN : Nat -> Ln) (k : Nat) (p : Ln) (a n : Int) (h : H), cY h t T C FN -> Inv k T -> k < 900 -> p.length < 140737488355328 -> iB a -> iB n ->
 ∃ h', B [.ptr t 0, .str p, .int .i64 a, .int .i64 n] h = some (.tup [.str (vE T p a n).1, ii ((vE T p a n).2)], h') /\ aH h h'
theorem aXT {T : TreeP} {i : Nat} {x : bF} (hn : bQ T.l i = some x) (a n : Int) : aIf T i a n = (if a < 0 \/ n < 0 then [] else (x.text.drop a.toNat).take n.toNat, if a < 0 \/ n < 0 then 1 else 0) := by
 unfold aIf; rw [vT hn]; split <;> rfl
theorem aPV {E : bJ} (hO : bL E 83 sY) (hR : bL E 84 aCB) : aCD (S33 E) := by
 obtain ⟨B0, b0, s0⟩ := hO.call; obtain ⟨B1, b1, s1⟩ := hR.call; intro t T C FN k p a n h r hI hk hpl ha hn'; obtain ⟨v, h2, f2, g2, q⟩ := s0 t T C FN k p h r hI hk hpl; have r2 := r.grown g2; show ∃ h', aVg E (.ptr t 0) (.str p) (.int .i64 a) (.int .i64 n) h = _ /\ _; unfold aVg; rw [b0, f2, aB, aL, aA, aK, aA, bC, aA]; unfold vE; refine ⟨h2, ?_, g2⟩; by_cases e0 : (eR T p).2 = 0
 · obtain ⟨x, f, rfl, hn, hc⟩ := q e0; obtain ⟨hk1, of, hff⟩ := r2.fileOf hn hc; have fr := s1 f _ x.text a n h2 of (by have := (hI.of hn).1.txt.2; omega) ha hn'
   have dec : (!decide ((eR T p).2 = 0)) = false := by rw [e0]; rfl
   rw [dec, aC, if_pos e0, b1, fr, aB, aL, aA, aK, aA, aXT hn]
 · have dec : (!decide ((eR T p).2 = 0)) = true := by simp [e0]
   rw [dec, aD, if_neg e0]
def aCE (B : cF) : Prop := ∀ (t : Nat) (T : TreeP) (C : List DV) (FN : Nat -> Ln) (k : Nat) (p : Ln) (h : H), cY h t T C FN -> Inv k T -> k < 900 -> p.length < 140737488355328 ->
 ∃ w h', B [.ptr t 0, .str p] h = some (.tup [w, ii ((mL T p).2)], h') /\ dE h' w (cU (mL T p).1) /\ aH h h'
theorem aPW {E : bJ} (hL : bL E 85 lL) (hD : bL E 87 qV) (hN : bL E 88 aGf) : aCE (S35 E) := by
 obtain ⟨B0, b0, s0⟩ := hL.call; obtain ⟨B1, b1, s1⟩ := hD.call; obtain ⟨B2, b2, s2⟩ := hN.call; intro t T C FN k p h r hI hk hpl; obtain ⟨h2, f2, g2⟩ := s0 t T C FN k p h r hI hk hpl; have r2 := r.grown g2; show ∃ w h', aVe E (.ptr t 0) (.str p) h = _ /\ _; unfold aVe; rw [b0, f2, aB, aL, aA, aK, aA, bC, aA]; unfold mL; by_cases e0 : (aU T p).2 = 0
 · obtain ⟨n, hn⟩ := qM hI e0; obtain ⟨v, h7, f7, g7, c7⟩ := s1 t T C FN (aU T p).1 n h2 r2 hn (hI.idx hn).2; have dec : (!decide ((aU T p).2 = 0)) = false := by rw [e0]; rfl
   rw [dec, aC, b1, f7, aB, if_pos e0, iT hn]; rcases c7 with ⟨hk1, rfl⟩ | ⟨hk2, d, rfl, hd, hc⟩
   · have e : eM .ptr false h7.get .nilp .nilp = some (.bool true) := rfl; rw [if_pos hk1, e, aA, aD]; exact ⟨.nils, h7, rfl, dE.nil _, g2.trans g7⟩
   · obtain ⟨_, hd7⟩ := (r2.grown g7).dirOf hn hc; have hlen := (hI.of hn).1.len; obtain ⟨w, h10, f10, r10, g10⟩ := s2 d n.l h7 (hd7.view λ c hc => hd7.lt c hc) (by omega)
     rw [if_neg (by omega), cO, aA, aC, b2, f10, aB, hn]
     exact ⟨w, h10, rfl, r10, (g2.trans g7).trans g10⟩
 · have dec : (!decide ((aU T p).2 = 0)) = true := by simp [e0]
   rw [dec, aD, if_neg e0]; exact ⟨.nils, h2, rfl, dE.nil _, g2⟩
theorem bCm {h : H} {b : Nat} {L : List DV} (o : aX h b L) {i : Nat} {x y : DV} (hx : L[i]? = some x) (hy : L[i + 1]? = some y) : aM 2 h.get (.ptr b i) = some (.agg [x, y]) := by
 have hlt := (List.getElem?_eq_some_iff.1 hy).1; have e : (L.drop i).take 2 = [x, y] := by
   rw [List.drop_eq_getElem_cons (show i < L.length by omega), List.drop_eq_getElem_cons hlt]
   rw [List.getElem?_eq_getElem (by omega)] at hx hy
   rw [Option.some.inj hx, Option.some.inj hy]; rfl
 simp only [aM, cM, o.cells (o := i) (k := 2) (by omega), e]; rfl
theorem aXW {h : H} {nv : DV} {n : bF} {k : Nat} {fp : Ln} (r : iI h nv n k fp) : vL (some nv) nv = true := by
 rcases r with ⟨_, f, rfl, _⟩ | ⟨_, d, rfl, _⟩
 · show rB _ _ = true; simp [rB, Nat.beq_refl]
 · show rB _ _ = true; simp [rB, aBx, Nat.beq_refl]
structure aGe (E : bJ) : Prop where
 k1 : ∀ (f : Nat) (h : H), aE E 221 [.ptr f 0] h = some (ii 1, h)
 k2 : ∀ (d : Nat) (h : H), ∃ h', aE E 217 [.agg [.ptr d 0]] h = some (ii 2, h') /\ aH h h'
 s1 : ∀ (f l : Nat) (s : Ln) (h : H), aX h f [.str s, ii l] -> aE E 222 [.ptr f 0] h = some (ii s.length, h)
 s2 : ∀ (d : Nat) (l : EL) (h : H), aAG (λ c => c < h.size) h d l -> ∃ h', aE E 218 [.agg [.ptr d 0]] h = some (ii l.length, h') /\ aH h h'
theorem aIi {E : bJ} (M : aGe E) {h : H} {nv : DV} {n : bF} {k : Nat} {fp : Ln} (r : iI h nv n k fp) : ∃ h', wX E [(120, 217), (141, 221)] nv [] h = some (ii n.kind, h') /\ aH h h' := by
 rcases r with ⟨hk, f, rfl, o, _⟩ | ⟨hk, d, rfl, o⟩
 · exact ⟨h, by rw [hk]; exact M.k1 f h, aH.refl _⟩
 · obtain ⟨h', e, g⟩ := M.k2 d h; exact ⟨h', by rw [hk]; exact e, g⟩
theorem aWm {E : bJ} (M : aGe E) {h : H} {nv : DV} {n : bF} {k : Nat} {fp : Ln} (r : iI h nv n k fp) : ∃ h', wX E [(120, 218), (141, 222)] nv [] h = some (ii ((if n.kind = 1 then n.text.length else n.l.length)), h') /\ aH h h' := by
 rcases r with ⟨hk, f, rfl, o, _⟩ | ⟨hk, d, rfl, o⟩
 · exact ⟨h, by rw [if_pos hk]; exact M.s1 f _ _ h o, aH.refl _⟩
 · obtain ⟨h', e, g⟩ := M.s2 d n.l h (o.view λ c hc => o.lt c hc)
   exact ⟨h', by rw [if_neg (by omega)]; exact e, g⟩
theorem aQZ {E : bJ} (d : Nat) (h : H) : ∃ h', aZH E [.agg [.ptr d 0]] h = some (ii 2, h') /\ aH h h' := by
 refine ⟨h.push (.blk ⟨1, 1, false, true, Tr.ofL [.ptr d 0]⟩), ?_, aH.push _ _⟩; show aKF E (.agg [.ptr d 0]) h = _; unfold aKF; rw [hU]; rfl
theorem aQY {E : bJ} {B : cF} (b : ∀ args h, aE E 97 args h = B args h) (s : aEw B) (d : Nat) (l : EL) (h : H) (r : aAG (λ c => c < h.size) h d l) : ∃ h', aZG E [.agg [.ptr d 0]] h = some (ii l.length, h') /\ aH h h' := by
 obtain ⟨h1, eh, g1, o1⟩ := aO h 1 1 [.ptr d 0] rfl; refine ⟨h1, ?_, g1⟩; have f := s (λ c => c < h.size) d l h1 (r.grown g1)
 show aKE E (.agg [.ptr d 0]) h = _; unfold aKE; rw [nbx eh rfl, aJ, aA, o1.read (j := 0 + 0) rfl, aA, b, f, aB]
theorem aRb {E : bJ} (f l : Nat) (s : Ln) (h : H) (o : aX h f [.str s, ii l]) : aZD E [.ptr f 0] h = some (ii s.length, h) := by
 show aKA E (.ptr f 0) h = _; unfold aKA; rw [bA, aA, aJ, aA, o.read (j := 0 + 0) rfl, aA, aY, aA]
def aCC (B : cF) : Prop := ∀ (t : Nat) (T : TreeP) (C : List DV) (FN : Nat -> Ln) (k : Nat) (p : Ln) (h : H), cY h t T C FN -> Inv k T -> k < 900 -> p.length < 140737488355328 ->
 ∃ h', B [.ptr t 0, .str p] h = some (.tup [.agg (cX (tV T p).1), ii ((tV T p).2)], h') /\ aH h h'
theorem aPU {E : bJ} (hL : bL E 85 lL) (hF : bL E 86 pV) (M : aGe E) : aCC (S34 E) := by
 obtain ⟨B0, b0, s0⟩ := hL.call; obtain ⟨B1, b1, s1⟩ := hF.call; intro t T C FN k p h r hI hk hpl; have z5 : [(ii 0), (ii 0), (ii 0), (ii 0), (ii 0)] = cX [0, 0, 0, 0, 0] := rfl; obtain ⟨h2, eh2, g2, o2⟩ := aO h 5 5 (cX [0, 0, 0, 0, 0]) rfl; obtain ⟨h4, f4, g4⟩ := s0 t T C FN k p h2 (r.grown g2) hI hk hpl; have G4 := g2.trans g4; have r4 := r.grown G4; have one5 : ∀ l : Ln, (cX l).all DV.one = true := λ l => by
   unfold cX; rw [List.all_eq_true]; intro x hx; obtain ⟨y, _, rfl⟩ := List.mem_map.1 hx
   rfl
 show ∃ h', aVf E (.ptr t 0) (.str p) h = _ /\ _; unfold aVf; rw [z5, bG, <- eh2, b0, f4, aB, aL, aA, aK, aA, bC, aA]; unfold tV; by_cases e0 : (aU T p).2 = 0
 · obtain ⟨n, hn⟩ := qM hI e0; have hok := hI.of hn; have hi := hI.idx hn; generalize hii : (aU T p).1 = i at *; obtain ⟨p1, p2, p3, p4⟩ := rH (t := t) hi.2 .i64; obtain ⟨c1, nv, c2, c3⟩ := r.some_ i n hn; have c3' := (r4.some_ i n hn).2; obtain ⟨nv', c2', c3'⟩ := c3'; rw [c2] at c2'; cases c2'; obtain ⟨h17, eh17, g17, o17⟩ := aO h4 2 2 [ii 0, .nili] rfl; obtain ⟨h19, f19, o19, k19⟩ := o17.setAll (n := 2) (cs := [ii n.gen, nv]) rfl rfl (by rw [List.all_cons, List.all_cons, c3.one]; rfl)
   have g419 : aH h4 h19 := k19.grown g17 (Nat.le_refl _); obtain ⟨h27, eh27, g27, o27⟩ := aO h19 5 5 (cX [0, 0, 0, 0, 0]) rfl; have off0 : ∀ {ha hb : H}, aH ha hb -> kJ (λ _ => False) ha hb := λ g => g.off _
   have nd27 := (c3'.off (off0 g419) λ _ _ hf => hf).off (off0 g27) λ _ _ hf => hf
   obtain ⟨h29, f29, g29⟩ := aIi M nd27; have nd29 := nd27.off (off0 g29) λ _ _ hf => hf
   obtain ⟨h31, f31, g31⟩ := aWm M nd29; have o19b := (o19.grown g27).grown g29; have o19c := o19b.grown g31; obtain ⟨h34, f34, o34, k34⟩ := ((o27.grown g29).grown g31).setAll (n := 5) (cs := cX [i, n.gen, n.kind, if n.kind = 1 then n.text.length else n.l.length, 1]) rfl rfl (one5 _)
   have G31 : aH h h31 := (((G4.trans g419).trans g27).trans g29).trans g31; have z19 : h.size < h19.size := by
     have a := o2.1; have b := (o2.grown g4).1; have c := g419.size; omega
   have K34 : aH h h34 := k34.grown G31 (Nat.le_of_lt z19); have r34 := r.grown K34; have K234 : aH h2 h34 := k34.grown ((((g4.trans g419).trans g27).trans g29).trans g31) (by have a := o2.1; have := g4.size; have := g419.size; omega)
   obtain ⟨v, f36, c36⟩ := s1 t T C FN i n h34 r34 hn hi.2; have fx : ∀ q, aI q (.ptr h4.size 0) = some (.ptr h4.size q) := λ q => by rw [aJ, Nat.zero_add]
   have fs : ∀ q, aI q (.ptr h19.size 0) = some (.ptr h19.size q) := λ q => by rw [aJ, Nat.zero_add]
   have bld : dO (cX [0, 0, 0, 0, 0]) [(0, 1, ii i), (1, 1, ii n.gen), (2, 1, ii n.kind), (3, 1, ii ((if n.kind = 1 then n.text.length else n.l.length))), (4, 1, ii 1)] = some (.agg (cX [i, n.gen, n.kind, if n.kind = 1 then n.text.length else n.l.length, 1])) := rfl
   have fin : ∀ (hh : H) (l : Ln), l.length = 5 -> aX hh h19.size (cX l) -> aH h2 hh -> ∃ h', aOV E (.ptr h.size 0) (.ptr h19.size 0) hh = some (.tup [.agg (cX l), ii 0], h') /\ aH h h' := by
     intro hh l hl ob gg; obtain ⟨h', q1, q2, q3⟩ := (o2.grown gg).setAll (n := 5) (cs := cX l) rfl (pP hl) (one5 _); refine ⟨h', ?_, q3.grown (g2.trans gg) (Nat.le_refl _)⟩; unfold aOV; rw [ob.all (pP hl), aA, q1, aB, q2.all (pP hl), aA]
   have hst : aEQ T i = [n.inode, n.gen, n.kind, if n.kind = 1 then n.text.length else n.l.length, if n.kind = 1 then aZ T.l n.inode else 1] := by unfold aEQ; rw [hn]
   have dec : (!decide ((aU T p).2 = 0)) = false := by rw [e0]; rfl
   rw [if_pos e0, dec, aC, bA, aA, p1, aA, p2, aA, bCm r4.obj c1 c2, aA, bG, <- eh17, f19, aB, fx, aA, o19.read (j := 0) rfl, aA, fx, aA, o19.read (j := 1) rfl, aA, aA, o19.read (j := 1) rfl, aA, bG, <- eh27, f29, aB, (o19.grown g27 |>.grown g29).read (j := 1) rfl, aXW c3, eQ, o19b.read (j := 0) rfl, gS, eQ, f31, aB, o19c.read (j := 0) rfl, gS, eQ, bld, aA, f34, aB, b1, f36, aB, hst, hok.2]; rcases c36 with ⟨hk2, rfl⟩ | ⟨hk1, f, rfl, of, hff, hcf⟩
   · have e : eM .ptr true h34.get .nilp .nilp = some (.bool false) := rfl; obtain ⟨h', y1, y2⟩ := fin h34 [i, n.gen, n.kind, if n.kind = 1 then n.text.length else n.l.length, 1] rfl o34 K234
     refine ⟨h', ?_, y2⟩; rw [e, aA, aC, y1, if_neg (by omega), if_neg (by omega)]
   · have fa1 : aI 1 (.ptr f 0) = some (.ptr f 1) := by rw [aJ, Nat.zero_add]
     obtain ⟨h43, f43, o43, k43⟩ := o34.set (v := ii ((aZ T.l i))) (j := 4) rfl (by simp [cX])
     obtain ⟨h', y1, y2⟩ := fin h43 [i, n.gen, n.kind, if n.kind = 1 then n.text.length else n.l.length, aZ T.l i] rfl o43 (k43.grown K234 (by have a := o2.1; have := g4.size; have := g419.size; omega))
     refine ⟨h', ?_, y2⟩; rw [mR, aA, aD, bA, aA, fa1, aA, of.read (j := 1) rfl, aA, fs, aA, f43, aB, y1, if_pos hk1, if_pos hk1]
 · have dec : (!decide ((aU T p).2 = 0)) = true := by simp [e0]
   obtain ⟨h', y1, y2, y3⟩ := (o2.grown g4).setAll (n := 5) (cs := cX [0, 0, 0, 0, 0]) rfl rfl rfl; have bld : dO (cX [0, 0, 0, 0, 0]) [] = some (.agg (cX [0, 0, 0, 0, 0])) := rfl; refine ⟨h', ?_, y3.grown G4 (Nat.le_refl _)⟩; rw [if_neg e0, dec, aD, bld, aA, y1, aB, y2.all (n := 5) rfl, aA]
theorem aFg {n0 : Nat} {h : H} {v : DV} {s : Ln} (o : bS n0 h v (bU s)) (hn0 : n0 <= h.size) (t : Ln) (hs : s.length + t.length <= 1000000000) :
   ∃ v' h', cE 1 1 v (.str t) h = some (v', h') /\ bS n0 h' v' (bU (s ++ t)) /\ cK n0 h h' := by
 have e1 : (t.map λ b => DV.int .u8 (.ofNat b)) = bU t := rfl
 by_cases ht : t = []
 · subst ht; refine ⟨v, h, ?_, by simpa using o, cK.refl _ _⟩
   rw [eN]; rcases o with ⟨rfl, e⟩ | ⟨b, _, rfl, hb⟩
   · simp only [fR, srcLen, dR, bD, List.length_nil, Option.bind_some, Nat.beq_refl, cond_true]
   · simp only [fR, srcLen, dR, bD, List.length_nil, Option.bind_some, Nat.beq_refl, cond_true, Nat.add_zero, Nat.ble_eq_true_of_le (Nat.le_refl _)]; rfl
 · have := o.append (x := .str t) (new := bU t) (bytes := 1) hn0 (by simp only [srcLen, bD, cC]) (by simp only [dR, Nat.beq_refl, cond_true, e1]) (sK t) (by intro e; exact ht (by simpa [bU] using e)) (by simp only [cC]; unfold aR; omega) (by simp only [cC]; unfold aR; omega)
   rw [eK]; exact this
def aGw (N bb : Nat) (h : H) (s : Ln) : Prop := ∃ v, aX h bb [v] /\ bS N h v (bU s)
def FB (N bb : Nat) : Nat -> Prop := λ c => c = bb \/ N <= c
theorem aGw.grown {N bb : Nat} {h h' : H} {s : Ln} (b : aGw N bb h s) (g : aH h h') : aGw N bb h' s := by
 obtain ⟨v, o, w⟩ := b; exact ⟨v, o.grown g, w.keep (g.keeps (Nat.le_refl _)) (Nat.le_refl _)⟩
def bIZ (F : bJ) (f : DV) (h : H) (new : Ln) : Prop := ∀ (wb : Nat) (h1 : H), aH h h1 -> h.size <= wb -> mY h1 wb [] -> ∃ v h2, kZ F f [.ptr wb 0] h1 = some (v, h2) /\ mY h2 wb new /\ kJ (λ c => c = wb) h1 h2
theorem aTi {F : bJ} (hN : bL F 48 nB) (hD : bL F 52 jD) {N bb : Nat} {s new : Ln} {f : DV} {h : H} (b : aGw N bb h s) (hbb : bb < N) (hNs : N <= h.size) (hf : bIZ F f h new) (hok : bB new = true) (hl : s.length + new.length <= 1000000000) :
   ∃ h', S74 F [f, .ptr bb 0] h = some (.tup [], h') /\ aGw N bb h' (s ++ new) /\ kJ (FB N bb) h h' := by
 obtain ⟨B0, b0, s0⟩ := hN.call; obtain ⟨B1, b1, s1⟩ := hD.call; obtain ⟨h2, f2, w2, g2⟩ := s0 h; obtain ⟨x3, h4, f4, w4, p4⟩ := hf h.size h2 g2 (Nat.le_refl _) w2; have k4 : cK h.size h h4 := (g2.keeps (Nat.le_refl _)).trans (wH p4 w2); have f6 := s1 h.size new h4 w4 hok; obtain ⟨v, o, w⟩ := b; have o4 := o.grown k4.grown; have w4' := w.keep k4 (Nat.le_refl _); obtain ⟨v', h11, f11, w11, k11⟩ := aFg w4' (Nat.le_trans hNs k4.size) new hl; have o11 : aX h11 bb [v] := o4.off (F := λ c => N <= c) ⟨k11.size, λ c hc hF => k11.get c (Nat.lt_of_not_le hF)⟩ (Nat.not_le.2 hbb)
 obtain ⟨h13, f13, o13, k13⟩ := o11.set (v := v') (j := 0) (by rcases w11 with ⟨rfl, _⟩ | ⟨_, _, rfl, _⟩ <;> rfl) (by simp)
 refine ⟨h13, ?_, ⟨v', o13, aOH w11 hbb k13⟩, ((k4.grown.off _).trans ⟨k11.size, λ c hc hF => k11.get c (Nat.lt_of_not_le λ x => hF (.inr x))⟩).trans ((k13.off (F := λ c => c = bb) rfl).weak λ c _ hc => .inl hc)⟩
 show aUy F f (.ptr bb 0) h = _; unfold aUy; rw [b0, f2, aB, f4, aB, b1, f6, aB, aL, aA, aK, aA, o4.read (j := 0) rfl, aA, f11, aB, f13, aB]
theorem bPP {h : H} {b : Nat} {s : Ln} (w : mY h b s) : b < h.size := by obtain ⟨v, ho, _⟩ := w; exact ho.1
theorem aYq {G : bJ} (hI : bL G 50 lD) {t : Nat} {T : TreeP} {C : List DV} {FN : Nat -> Ln} {k tb nb wb : Nat} {h : H} (r : cY h t T C FN) (hInv : Inv k T) (hk : k < 900) (ot : aX h tb [.ptr t 0]) (on : aX h nb [ii T.l.length]) (w : mY h wb []) (h1 : t ≠ wb) (h2 : tb ≠ wb) (h3 : nb ≠ wb) :
   ∃ h', S75 G [.ptr wb 0, .ptr tb 0, .ptr nb 0] h = some (.tup [], h') /\ mY h' wb (fK (.ofNat T.gen) ++ fK (.ofNat T.l.length)) /\ kJ (λ c => c = wb) h h' := by
 obtain ⟨B0, b0, s0⟩ := hI.call; have hg := hInv.gen; have hl := hInv.llen; obtain ⟨h6, f6, w6, p6⟩ := s0 wb [] (.ofNat T.gen) h w (fU (by omega)) (by simp)
 have on6 := on.off p6 h3; have l1 := (dF (.ofNat T.gen)).2; obtain ⟨h9, f9, w9, p9⟩ := s0 wb _ (.ofNat T.l.length) h6 w6 (fU (by omega)) (by rw [List.nil_append]; omega)
 refine ⟨h9, ?_, by simpa using w9, p6.trans p9⟩
 have fa : aI 512 (.ptr t 0) = some (.ptr t 512) := by rw [aJ, Nat.zero_add]
 show aUx G (.ptr wb 0) (.ptr tb 0) (.ptr nb 0) h = _; unfold aUx; rw [ot.read (j := 0) rfl, aA, bA, aA, fa, aA, r.obj.read r.gen, aA, b0, f6, aB, on6.read (j := 0) rfl, aA, b0, f9, aB]
structure aOQ (E : bJ) : Prop where
 t1 : ∀ (f l : Nat) (s : Ln) (h : H), aX h f [.str s, ii l] -> aE E 223 [.ptr f 0] h = some (.str s, h)
 t2 : ∀ (d : Nat) (l : EL) (h : H), aAG (λ c => c < h.size) h d l -> l.length <= 256 -> (∀ e ∈ l, vF e) -> ∃ h', aE E 219 [.agg [.ptr d 0]] h = some (.str (zN l), h') /\ aH h h'
theorem aWl {E : bJ} (M : aOQ E) {h : H} {nv : DV} {n : bF} {k kk g : Nat} {fp : Ln} (r : iI h nv n k fp) (ok : NOk kk g n) (hk : kk <= 256) : ∃ h', wX E [(120, 219), (141, 223)] nv [] h = some (.str (qL n), h') /\ aH h h' := by
 rcases r with ⟨hk1, f, rfl, o, _⟩ | ⟨hk1, d, rfl, o⟩
 · exact ⟨h, by unfold qL; rw [if_pos hk1]; exact M.t1 f _ _ h o, aH.refl _⟩
 · obtain ⟨h', e, g⟩ := M.t2 d n.l h (o.view λ c hc => o.lt c hc) (Nat.le_trans ok.len hk) (aFi ok)
   exact ⟨h', by unfold qL; rw [if_neg (by omega)]; exact e, g⟩
theorem aRa {E : bJ} (f l : Nat) (s : Ln) (h : H) (o : aX h f [.str s, ii l]) : aZC E [.ptr f 0] h = some (.str s, h) := by
 show aKz E (.ptr f 0) h = _; unfold aKz; rw [bA, aA, aJ, aA, o.read (j := 0 + 0) rfl, aA]
theorem aQX {E : bJ} {B : cF} (b : ∀ args h, aE E 220 args h = B args h) (s : aDo B) (d : Nat) (l : EL) (h : H) (r : aAG (λ c => c < h.size) h d l) (hl : l.length <= 256) (hok : ∀ e ∈ l, vF e) : ∃ h', aZF E [.agg [.ptr d 0]] h = some (.str (zN l), h') /\ aH h h' := by
 obtain ⟨h1, eh, g1, o1⟩ := aO h 1 1 [.ptr d 0] rfl; have r1 : aAG (λ c => c < h1.size) h1 d l := by
   obtain ⟨v, a, b⟩ := r.grown g1; exact ⟨v, a, b.weak λ c hc _ => Nat.lt_of_lt_of_le hc g1.size⟩
 obtain ⟨h', f, g⟩ := s d l h1 r1 hl hok; refine ⟨h', ?_, g1.trans g⟩; show aKD E (.agg [.ptr d 0]) h = _; unfold aKD; rw [nbx eh rfl, aJ, aA, o1.read (j := 0 + 0) rfl, aA, b, f, aB]
theorem aYp {G : bJ} (hI : bL G 50 lD) (hB : bL G 49 pU) (hT : bL G 51 mO) (M : aGe G) (MT : aOQ G) {n : bF} {kk g ib xb wb k : Nat} {nv : DV} {fp : Ln} {h : H} (nd : iI h nv n k fp) (ok : NOk kk g n) (hk : kk <= 256) (hg : g <= 1000) (oi : aX h ib [ii n.inode]) (ox : aX h xb [ii n.gen, nv]) (w : mY h wb []) (h1 : ∀ c ∈ fp, c ≠ wb) (h2 : ib ≠ wb) (h3 : xb ≠ wb) :
   ∃ h', S76 G [.ptr wb 0, .ptr ib 0, .ptr xb 0] h = some (.tup [], h') /\ mY h' wb (jT n) /\ kJ (λ c => c = wb) h h' := by
 obtain ⟨B0, b0, s0⟩ := hI.call; obtain ⟨B1, b1, s1⟩ := hB.call; obtain ⟨B2, b2, s2⟩ := hT.call; have hr := ok.rng; have hgn := ok.gen; have hkd : n.kind < 256 := by rcases ok.knd with ⟨x, _⟩ | ⟨x, _⟩ <;> omega
 obtain ⟨h3_, f3, w3, p3⟩ := s0 wb [] (.ofNat n.inode) h w (fU (by omega)) (by simp)
 have l1 := (dF (.ofNat n.inode)).2; have l2 := (dF (.ofNat n.gen)).2; have ox3 := ox.off p3 h3; obtain ⟨h7, f7, w7, p7⟩ := s0 wb _ (.ofNat n.gen) h3_ w3 (fU (by omega)) (by rw [List.nil_append]; omega)
 have ox7 := ox3.off p7 h3; have nd7 := (nd.off p3 λ c hc => h1 c hc).off p7 λ c hc => h1 c hc
 obtain ⟨h11, f11, g11⟩ := aIi M nd7; have w11 := aIY w7 (g11.keeps (Nat.le_refl _)); have ox11 := ox7.grown g11; obtain ⟨h13, f13, w13, p13⟩ := s1 wb _ n.kind h11 w11 hkd (by simp only [List.nil_append, List.length_append]; omega)
 have ox13 := ox11.off p13 h3; have nd13 := (nd7.off (g11.off λ _ => False) λ _ _ hf => hf).off p13 λ c hc => h1 c hc
 obtain ⟨h17, f17, g17⟩ := aWl MT nd13 ok hk; have w17 := aIY w13 (g17.keeps (Nat.le_refl _)); have hnt := (aFk ok hk).2; obtain ⟨h19, f19, w19, p19⟩ := s2 wb _ (qL n) h17 w17 (by simp only [List.nil_append, List.length_append, List.length_singleton]; omega)
 refine ⟨h19, ?_, by unfold jT; simpa using w19, ((((p3.trans p7).trans (g11.off _)).trans p13).trans (g17.off _)).trans p19⟩
 have fx : ∀ q, aI q (.ptr xb 0) = some (.ptr xb q) := λ q => by rw [aJ, Nat.zero_add]
 show aUw G (.ptr wb 0) (.ptr ib 0) (.ptr xb 0) h = _; unfold aUw; rw [oi.read (j := 0) rfl, aA, b0, f3, aB, fx, aA, ox3.read (j := 0) rfl, aA, b0, f7, aB, fx, aA, ox7.read (j := 1) rfl, aA, f11, aB, b1, f13, aB, aA, ox13.read (j := 1) rfl, aA, f17, aB, b2, f19, aB]
theorem aIq {L : NL} (hL : kV L) (i : Nat) : L.filter (λ n => decide (i <= n.inode)) = match bQ L i with
   | some n => n :: L.filter (λ n => decide (i + 1 <= n.inode))
   | none => L.filter (λ n => decide (i + 1 <= n.inode)) := by
 induction L with
 | nil => rfl
 | cons x L ih =>
   rw [kV, List.pairwise_cons] at hL; have ih := ih hL.2; unfold bQ at ih ⊢; rw [List.find?_cons, List.filter_cons, List.filter_cons]; rcases Nat.lt_trichotomy x.inode i with h | h | h
   · have e1 : decide (i <= x.inode) = false := by simp; omega
     have e2 : decide (i + 1 <= x.inode) = false := by simp; omega
     have e3 : (x.inode == i) = false := by rw [beq_eq_false_iff_ne]; omega
     rw [e1, e2, e3]; exact ih
   · have e1 : decide (i <= x.inode) = true := by simp; omega
     have e2 : decide (i + 1 <= x.inode) = false := by simp; omega
     have e3 : (x.inode == i) = true := by rw [beq_iff_eq]; exact h
     rw [e1, e2, e3]; have : L.filter (λ n => decide (i <= n.inode)) = L.filter (λ n => decide (i + 1 <= n.inode)) := List.filter_congr λ n hn => by
       have := hL.1 n hn; rw [decide_eq_true (by omega), decide_eq_true (by omega)]
     simp only [if_true, Bool.false_eq_true, if_false, this]
   · have e1 : decide (i <= x.inode) = true := by simp; omega
     have e2 : decide (i + 1 <= x.inode) = true := by simp; omega
     have e3 : (x.inode == i) = false := by rw [beq_eq_false_iff_ne]; omega
     have hn : L.find? (λ n => n.inode == i) = none := List.find?_eq_none.2 λ n hn => by
       have := hL.1 n hn; simp; omega
     rw [e1, e2, e3, hn]; rw [hn] at ih; simp only [if_true, ih]
theorem aNO {L : NL} {i : Nat} (h : ∀ n ∈ L, n.inode < i) : L.filter (λ n => decide (i <= n.inode)) = [] := List.filter_eq_nil_iff.2 λ n hn => by
 have := h n hn; simp; omega
theorem aNP (L : NL) : L.filter (λ n => decide (0 <= n.inode)) = L := List.filter_eq_self.2 λ n _ => by simp
theorem aNF {C : List DV} {i : Nat} {a b : DV} (hC : C.length = 514) (hi : i < 256) (ha : C[i * 2]? = some a) (hb : C[i * 2 + 1]? = some b) (k : IntKind) : aDs 256 2 true (.agg (C.take 512)) (.int k (.ofNat i)) = some (.agg [a, b]) := by
 have hl : (C.take 512).length = 512 := by rw [List.length_take]; omega
 have e : ((C.take 512).drop (i * 2)).take 2 = [a, b] := by
   rw [List.drop_eq_getElem_cons (show i * 2 < (C.take 512).length by omega), List.drop_eq_getElem_cons (show i * 2 + 1 < (C.take 512).length by omega)]
   rw [List.getElem?_eq_getElem (by omega)] at ha hb
   rw [List.getElem_take, List.getElem_take, Option.some.inj ha, Option.some.inj hb]; rfl
 simp only [aDs, qR, dS hi, cond_true]; rw [Nat.ble_eq_true_of_le (show i * 2 + 2 <= (C.take 512).length by omega), cond_true, e]
theorem aII {h : H} {t : Nat} {T : TreeP} {C : List DV} {FN : Nat -> Ln} (r : cY h t T C FN) {i : Nat} (hi : i < 256) : ∃ g nv, C[i * 2]? = some (ii g) /\ C[i * 2 + 1]? = some nv /\ nv.one = true /\ ((∃ n, bQ T.l i = some n /\ g = n.gen /\ iI h nv n (aZ T.l i) (FN i) /\ ∀ rd, eM .nilI false rd nv .nili = some (.bool false) /\ eM .nilI true rd nv .nili = some (.bool true)) \/ (bQ T.l i = none /\ nv = .nili)) := by
 cases hg : bQ T.l i with
 | none =>
   obtain ⟨a, b⟩ := r.none_ i hi hg; exact ⟨0, .nili, a, b, rfl, .inr ⟨rfl, rfl⟩⟩
 | some n =>
   obtain ⟨a, nv, b, c⟩ := r.some_ i n hg; refine ⟨n.gen, nv, a, b, c.one, .inl ⟨n, rfl, rfl, c, λ rd => ?_⟩⟩
   rcases c with ⟨_, f, rfl, _⟩ | ⟨_, d, rfl, _⟩ <;> exact ⟨rfl, rfl⟩
theorem aGZ {E : bJ} {t : Nat} {T : TreeP} {C : List DV} {FN : Nat -> Ln} {k0 nb : Nat} {h0 : H} (r : cY h0 t T C FN) (hI : Inv k0 T) (r1 r3 r4 : DV) :
   ∀ (k i m c : Nat) (h : H), 256 - i = k -> i <= 256 -> aX h nb [ii c] -> c + (T.l.filter (λ n => decide (i <= n.inode))).length = T.l.length ->
   ∃ h', aDW E r1 r3 r4 (.ptr nb 0) (.agg (C.take 512)) (m + (k + 1)) (ii i) h = aOZ E r1 r3 r4 (.ptr nb 0) h' /\ aX h' nb [ii T.l.length] /\ kJ (λ c => c = nb) h h' := by
 have hll := hI.llen; intro k
 induction k with
 | zero =>
   intro i m c h hk hi on hc; have : i = 256 := by omega
   subst this; rw [aNO λ n hn => (hI.ok n hn).rng.2] at hc
   refine ⟨h, ?_, by rw [<- hc]; exact on, kJ.refl _ _⟩
   show aPq E r1 r3 r4 _ _ (aDW E r1 r3 r4 _ _ m) _ h = _; unfold aPq; rw [aP, aA, decide_eq_false (Nat.lt_irrefl _), aC]
 | succ k ih =>
   intro i m c h hk hi on hc; have hlt : i < 256 := by omega
   obtain ⟨g, nv, c1, c2, c3, c4⟩ := aII r hlt; have hnb := on.1; obtain ⟨h4, eh, g4, o4⟩ := aO h 2 2 [ii 0, .nili] rfl; obtain ⟨h6, f6, o6, k6⟩ := o4.setAll (n := 2) (cs := [ii g, nv]) rfl rfl (by rw [List.all_cons, List.all_cons, c3]; rfl)
   have g6 : aH h h6 := k6.grown g4 (Nat.le_refl _); have fx : aI 1 (.ptr h.size 0) = some (.ptr h.size 1) := by rw [aJ, Nat.zero_add]
   show ∃ h', aPq E r1 r3 r4 _ _ (aDW E r1 r3 r4 _ _ (m + (k + 1))) _ h = _ /\ _; unfold aPq; rw [aP, aA, decide_eq_true hlt, aD, aNF r.len hlt c1 c2, aA, bG, <- eh, f6, aB, fx, aA, o6.read (j := 1) rfl, aA]; rw [aIq hI.inc] at hc; rcases c4 with ⟨n, hn, _, _, he⟩ | ⟨hn, rfl⟩
   · rw [hn] at hc; simp only [List.length_cons] at hc; obtain ⟨h13, f13, o13, k13⟩ := (on.grown g6).set (v := ii ((c + 1))) (j := 0) rfl (by simp)
     obtain ⟨h', y1, y2, y3⟩ := ih (i + 1) m (c + 1) h13 (by omega) (by omega) o13 (by omega)
     refine ⟨h', ?_, y2, ((g6.off _).trans (k13.off (F := λ c => c = nb) rfl)).trans y3⟩
     rw [(he h6.get).2, aA, aD, (on.grown g6).read (j := 0) rfl, aA, bO (by omega), aA, f13, aB]
     unfold aOY; rw [bO (by omega), aA]
     exact y1
   · rw [hn] at hc; simp only at hc; obtain ⟨h', y1, y2, y3⟩ := ih (i + 1) m c h6 (by omega) (by omega) (on.grown g6) hc
     refine ⟨h', ?_, y2, (g6.off _).trans y3⟩; have e : eM .nilI true h6.get .nili .nili = some (.bool false) := rfl; rw [e, aA, aC]; unfold aOY; rw [bO (by omega), aA]
     exact y1
theorem aFz {k g : Nat} (hk : k <= 256) (hg : g <= 1000) : ∀ {L : NL}, (∀ n ∈ L, NOk k g n) -> (L.flatMap jT).length <= L.length * 16420 /\ bB (L.flatMap jT) = true
 | [], _ => ⟨by simp, rfl⟩
 | n :: L, h => by
   have a := aFz hk hg (L := L) λ m hm => h m (by simp [hm])
   have b := aFl (h n (by simp)) hk (by omega)
   rw [List.flatMap_cons, List.length_append, List.length_cons]; exact ⟨by omega, cI b.1 a.2⟩
theorem aEL {E F G : bJ} (e1 : E 74 = some (S74 F)) (e3 : F 76 = some (S76 G)) (hN : bL F 48 nB) (hD : bL F 52 jD) (hI : bL G 50 lD) (hB : bL G 49 pU) (hT : bL G 51 mO) (M : aGe G) (MT : aOQ G) {t : Nat} {T : TreeP} {C : List DV} {FN : Nat -> Ln} {k0 N bb : Nat} (hInv : Inv k0 T) (hk0 : k0 <= 256) (hbb : bb < N) {s0 : Ln} (hs0 : s0.length <= 20) (hs0k : bB s0 = true) (hFp : ∀ c, Fp t FN c -> c < N /\ c ≠ bb) :
   ∀ (k i m : Nat) (L : NL) (h : H), 256 - i = k -> i <= 256 -> cY h t T C FN -> N <= h.size -> (∀ n ∈ L, NOk k0 T.gen n) -> aGw N bb h (s0 ++ L.flatMap jT) -> L ++ T.l.filter (λ n => decide (i <= n.inode)) = T.l ->
   ∃ h', aDV E (.ptr bb 0) (.fn (.func 74) [] [.ptr bb 0]) (.agg (C.take 512)) (m + (k + 1)) (ii i) h = some (.str (s0 ++ T.l.flatMap jT), h') /\ kJ (FB N bb) h h' := by
 have hll := hInv.llen; have hgen := hInv.gen; intro k
 induction k with
 | zero =>
   intro i m L h hk hi r hNh hL b hc; have : i = 256 := by omega
   subst this; rw [aNO λ n hn => (hInv.ok n hn).rng.2, List.append_nil] at hc
   subst hc; obtain ⟨v, o, w⟩ := b; refine ⟨h, ?_, kJ.refl _ _⟩; show aPp E _ _ _ (aDV E _ _ _ m) _ h = _; unfold aPp; rw [aP, aA, decide_eq_false (Nat.lt_irrefl _), aC]; unfold aVn; rw [o.read (j := 0) rfl, aA, w.text (cI hs0k (aFz hk0 (by omega) hInv.ok).2), aA]
 | succ k ih =>
   intro i m L h hk hi r hNh hL b hc; have hlt : i < 256 := by omega
   obtain ⟨g, nv, c1, c2, c3, c4⟩ := aII r hlt; obtain ⟨h4, eh4, g4, o4⟩ := aO h 1 1 [ii 0] rfl; have z4 : h4.size = h.size + 1 := by rw [eh4]; exact H.size_push _ _
   obtain ⟨h6, eh6, g6, o6⟩ := aO h4 2 2 [ii 0, .nili] rfl; obtain ⟨h8, f8, o8, k8⟩ := (o4.grown g6).set (v := ii i) (j := 0) rfl (by simp)
   obtain ⟨h10, f10, o10, k10⟩ := (o6.but (by omega) k8).setAll (n := 2) (cs := [ii g, nv]) rfl rfl (by rw [List.all_cons, List.all_cons, c3]; rfl)
   have oi10 : aX h10 h.size [ii i] := aX.but o8 (by omega) k10
   have G10 : aH h h10 := k10.grown (k8.grown (g4.trans g6) (Nat.le_refl _)) (by omega)
   have fx : aI 1 (.ptr h4.size 0) = some (.ptr h4.size 1) := by rw [aJ, Nat.zero_add]
   have r10 := r.grown G10; have b10 := b.grown G10; rw [aIq hInv.inc] at hc; show ∃ h', aPp E _ _ _ (aDV E _ _ _ (m + (k + 1))) _ h = _ /\ _; unfold aPp; rw [aP, aA, decide_eq_true hlt, aD, aNF r.len hlt c1 c2, aA, bG, <- eh4, bG, <- eh6, f8, aB, f10, aB, fx, aA, o10.read (j := 1) rfl, aA]; rcases c4 with ⟨n, hn, rfl, _, he⟩ | ⟨hn, rfl⟩
   · rw [hn] at hc; simp only at hc; have hok := hInv.of hn; obtain ⟨nv', c2', nd⟩ := (r10.some_ i n hn).2; rw [c2] at c2'; cases c2'; have hLlen : L.length <= T.l.length := by
       have := congrArg List.length hc; rw [List.length_append] at this; omega
     have hnb := aFl hok.1 hk0 (by omega)
     have hfl := (aFz hk0 (by omega) hL).1
     have lay : bIZ F (.fn (.func 76) [] [.ptr h.size 0, .ptr h4.size 0]) h10 (jT n) := by
       intro wb h1 gg hwb w1; have nd1 := nd.off (gg.off λ _ => False) λ _ _ hf => hf
       obtain ⟨h2, y1, y2, y3⟩ := aYp hI hB hT M MT nd1 hok.1 hk0 (by omega) (by rw [hok.2]; exact oi10.grown gg) (o10.grown gg) w1 (λ c hc e => by
         have := r10.lt (c := c) (.inr ⟨i, hc⟩); omega) (by have := oi10.1; omega) (by have := o10.1; omega)
       refine ⟨.tup [], h2, ?_, y2, y3⟩; show aE F 76 ([] ++ [.ptr wb 0] ++ [.ptr h.size 0, .ptr h4.size 0]) h1 = _; rw [cN e3]; exact y1
     obtain ⟨h15, f15, b15, off15⟩ := aTi hN hD b10 hbb (Nat.le_trans hNh G10.size) lay hnb.1 (by rw [List.length_append]; omega)
     have r15 := r10.off off15 λ c hc hF => by
       obtain ⟨x1, x2⟩ := hFp c hc; rcases hF with x | x <;> omega
     have eL : s0 ++ (L ++ [n]).flatMap jT = s0 ++ L.flatMap jT ++ jT n := by simp
     rw [<- eL] at b15; obtain ⟨h', y1, y2⟩ := ih (i + 1) m (L ++ [n]) h15 (by omega) (by omega) r15 (Nat.le_trans hNh (Nat.le_trans G10.size off15.size)) (λ x hx => by
       rcases List.mem_append.1 hx with hx | hx
       · exact hL x hx
       · simp at hx; subst hx; exact hok.1) b15 (by rw [List.append_assoc]; exact hc)
     refine ⟨h', ?_, ((G10.off _).trans off15).trans y2⟩; have ec : kZ E (.fn (.func 74) [] [.ptr bb 0]) [.fn (.func 76) [] [.ptr h.size 0, .ptr h4.size 0]] h10 = some (.tup [], h15) := by
       show aE E 74 ([] ++ [.fn (.func 76) [] [.ptr h.size 0, .ptr h4.size 0]] ++ [.ptr bb 0]) h10 = _; rw [cN e1]; exact f15
     rw [(he h10.get).1, aA, aC, ec, aB]; unfold aOX; rw [bO (by omega), aA]
     exact y1
   · rw [hn] at hc; obtain ⟨h', y1, y2⟩ := ih (i + 1) m L h10 (by omega) (by omega) r10 (Nat.le_trans hNh G10.size) hL b10 hc
     refine ⟨h', ?_, (G10.off _).trans y2⟩; have e : eM .nilI false h10.get .nili .nili = some (.bool true) := rfl; rw [e, aA, aD]; unfold aOX; rw [bO (by omega), aA]
     exact y1
def rW (B : cF) : Prop := ∀ (t : Nat) (T : TreeP) (C : List DV) (FN : Nat -> Ln) (k : Nat) (h : H), cY h t T C FN -> Inv k T -> k <= 256 -> ∃ h', B [.ptr t 0] h = some (.str (aXy T), h') /\ aH h h'
theorem aJg {E F G : bJ} (e1 : E 74 = some (S74 F)) (e2 : F 75 = some (S75 G)) (e3 : F 76 = some (S76 G)) (hN : bL F 48 nB) (hD : bL F 52 jD) (hI : bL G 50 lD) (hB : bL G 49 pU) (hT : bL G 51 mO) (M : aGe G) (MT : aOQ G) : rW (S24 E) := by
 intro t T C FN k h r hInv hk; have hgen := hInv.gen; have hll := hInv.llen; obtain ⟨h2, eh2, g2, o2⟩ := aO h 1 1 [.ptr t 0] rfl; have z2 : h2.size = h.size + 1 := by rw [eh2]; exact H.size_push _ _
 obtain ⟨h6, eh6, g6, o6⟩ := aO h2 1 1 [.nils] rfl; have z6 : h6.size = h2.size + 1 := by rw [eh6]; exact H.size_push _ _
 obtain ⟨h8, eh8, g8, o8⟩ := aO h6 1 1 [ii 0] rfl; have z8 : h8.size = h6.size + 1 := by rw [eh8]; exact H.size_push _ _
 obtain ⟨h10, f10, o10, k10⟩ := o8.set (v := ii 0) (j := 0) rfl (by simp)
 have z10 : h10.size = h8.size := k10.size; have G10 : aH h h10 := k10.grown ((g2.trans g6).trans g8) (by omega)
 have r10 := r.grown G10; have ot10 := ((o2.grown g6).grown g8).but (by omega) k10
 have ob10 := (o6.grown g8).but (by omega) k10
 have fa0 : aI 0 (.ptr t 0) = some (.ptr t 0) := by rw [aJ]
 have ld512 : ∀ {hh : H}, cY hh t T C FN -> aM 512 hh.get (.ptr t 0) = some (.agg (C.take 512)) := λ {hh} r => by
   simp only [aM, cM, r.obj.cells (o := 0) (k := 512) (by rw [r.len]; omega), List.drop_zero]; rfl
 obtain ⟨h1, y1, on1, off1⟩ := aGZ (E := E) r10 hInv (.ptr h.size 0) (.ptr h2.size 0) (.fn (.func 74) [] [.ptr h2.size 0]) 256 0 (aQ - 257) 0 h10 rfl (by omega) o10 (by rw [aNP]; omega)
 rw [show aQ - 257 + (256 + 1) = aQ from by unfold aQ; omega] at y1
 have z1 := off1.size; have hFp : ∀ c, Fp t FN c -> c < h.size := λ c hc => r.lt hc
 have r1 := r10.off off1 λ c hc e => by have := hFp c hc; omega
 have ot1 := ot10.off off1 (by omega)
 have ob1 := ob10.off off1 (by omega)
 obtain ⟨l1, l1k⟩ : (fK (.ofNat T.gen)).length <= 10 /\ (fK (.ofNat T.l.length)).length <= 10 := ⟨(dF _).2, (dF _).2⟩; have hs0k : bB (fK (.ofNat T.gen) ++ fK (.ofNat T.l.length)) = true := cI (lY (fU (by omega))) (lY (fU (by omega)))
 have lay : bIZ F (.fn (.func 75) [] [.ptr h.size 0, .ptr h6.size 0]) h1 (fK (.ofNat T.gen) ++ fK (.ofNat T.l.length)) := by
   intro wb hh gg hwb w1; obtain ⟨h3, y1, y2, y3⟩ := aYq hI (r1.grown gg) hInv (by omega) (ot1.grown gg) (on1.grown gg) w1 (by have := hFp t (.inl rfl); omega) (by omega) (by omega)
   refine ⟨.tup [], h3, ?_, y2, y3⟩; show aE F 75 ([] ++ [.ptr wb 0] ++ [.ptr h.size 0, .ptr h6.size 0]) hh = _; rw [cN e2]; exact y1
 have b1 : aGw h1.size h2.size h1 [] := ⟨.nils, ob1, bS.nil _ _⟩; obtain ⟨h3, f3, b3, off3⟩ := aTi hN hD b1 (by omega) (Nat.le_refl _) lay hs0k (by rw [List.length_append, List.length_nil]; omega)
 have ec : kZ E (.fn (.func 74) [] [.ptr h2.size 0]) [.fn (.func 75) [] [.ptr h.size 0, .ptr h6.size 0]] h1 = some (.tup [], h3) := by
   show aE E 74 ([] ++ [.fn (.func 75) [] [.ptr h.size 0, .ptr h6.size 0]] ++ [.ptr h2.size 0]) h1 = _; rw [cN e1]; exact f3
 have hN1 : ∀ c, Fp t FN c -> c < h1.size /\ c ≠ h2.size := λ c hc => by have := hFp c hc; omega
 have r3 := r1.off off3 λ c hc hF => by
   obtain ⟨x1, x2⟩ := hN1 c hc; rcases hF with x | x <;> omega
 have ot3 := ot1.off off3 (λ hF => by rcases hF with x | x <;> omega)
 obtain ⟨h4, f4, off4⟩ := aEL (E := E) e1 e3 hN hD hI hB hT M MT (N := h1.size) (bb := h2.size) hInv hk (by omega) (s0 := fK (.ofNat T.gen) ++ fK (.ofNat T.l.length)) (by rw [List.length_append]; omega) hs0k hN1 256 0 (aQ - 257) [] h3 rfl (by omega) r3 off3.size (λ n hn => by cases hn) (by simpa using b3) (by rw [aNP]; rfl)
 rw [show aQ - 257 + (256 + 1) = aQ from by unfold aQ; omega] at f4
 have offs : kJ (λ c => h.size <= c) h h4 := (((G10.off _).trans (off1.weak λ c _ hc => by omega)).trans (off3.weak λ c _ hc => by rcases hc with x | x <;> omega)).trans (off4.weak λ c _ hc => by rcases hc with x | x <;> omega)
 refine ⟨h4, ?_, ⟨offs.size, λ c hc => offs.get c hc (by omega)⟩⟩
 show aVo E (.ptr t 0) h = _; unfold aVo; rw [pT rfl, <- eh2, o2.read (j := 0) rfl, aA, cO, aA, aC, bG, <- eh6, bG, <- eh8, f10, aB, ot10.read (j := 0) rfl, aA, bA, aA, fa0, aA, ld512 r10, aA, y1]; unfold aOZ; rw [ec, aB, ot3.read (j := 0) rfl, aA, bA, aA, fa0, aA, ld512 r3, aA]; unfold aXy; exact f4
end Go.Proofs.YtmafhiogonejfaaGreatDoor
