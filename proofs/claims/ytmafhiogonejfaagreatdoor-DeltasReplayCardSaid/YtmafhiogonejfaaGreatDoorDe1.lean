/- Operations done to both trees, and what is told; the run. No condition. -/
import Derived.Test.YtmafhiogonejfaaGreatDoorTr6
import Derived.KernelRfl
set_option linter.unusedVariables false
set_option linter.unusedSimpArgs false
noncomputable section
namespace Go.Proofs.YtmafhiogonejfaaGreatDoor
open Go.DI
def aSF (B : cF) : Prop := ∀ (n0 : Nat) (v : DV) (s : Ln) (n : Int) (h : H), bS n0 h v (bU s) -> n0 <= h.size -> s.length <= 100000 -> iB n -> ∃ v' h', B [v, .int .i64 n] h = some (v', h') /\ bS n0 h' v' (bU (s ++ fK n)) /\ cK n0 h h'
theorem aON {E : bJ} : aSF (aRw E) := by
 intro n0 v s n h hc hn0 hs hn; have hz := aMh hn.1 hn.2; obtain ⟨v', h', a1, a2, a3⟩ := aFj (E := E) (n0 := n0) 9 (aQ - 10) (zz n) s v h (by simpa using hz) (Nat.le_refl _) (by omega) hn0 (.inl hc) hc.lt_size
 rw [show aQ - 10 + (9 + 1) = aQ from by unfold aQ; omega] at a1
 refine ⟨v', h', ?_, a2, a3⟩; obtain ⟨x, y, z, e1, e2, e3, w, e4, e5⟩ := aXm hn.1 hn.2; show aDl E v (.int .i64 n) h = _; unfold aDl; rw [e1, aA, e2, aA, e3, aA, e4, aA, e5, aA]; exact a1
def aMc (B : cF) : Prop := ∀ (n0 : Nat) (v : DV) (s t : Ln) (h : H), bS n0 h v (bU s) -> n0 <= h.size -> s.length <= 100000 -> t.length <= 100000 -> ∃ v' h', B [v, .str t] h = some (v', h') /\ bS n0 h' v' (bU (s ++ fW t)) /\ cK n0 h h'
theorem aOM {E : bJ} (hN : bL E 106 aSF) : aMc (aRv E) := by
 obtain ⟨B, hB, sB⟩ := hN.call; intro n0 v s t h hc hn0 hs ht; obtain ⟨v1, h1, f1, f2, f3⟩ := sB n0 v s (.ofNat t.length) h hc hn0 hs (fU (by omega))
 have hl := (dF (.ofNat t.length)).2; obtain ⟨v2, h2, g1, g2, g3⟩ := f2.appendStr (Nat.le_trans hn0 f3.size) t (by rw [List.length_append]; omega)
 refine ⟨v2, h2, ?_, ?_, f3.trans g3⟩
 · show aDk E v (.str t) h = _; unfold aDk; rw [aY, aA, hB, f1, aB, g1, aB]
 · unfold fW; rw [<- List.append_assoc]; exact g2
def vJ (l : List (Ln)) : Ln := l.flatMap fW
def vS (l : List (Ln)) : Ln := fK (.ofNat l.length) ++ vJ l
def aEI (l : List (Ln)) : Prop := l.length <= 300 /\ ∀ s ∈ l, s.length <= 100 /\ bB s = true
theorem aMs : ∀ {l : List (Ln)}, (∀ s ∈ l, s.length <= 100) -> (vJ l).length <= 110 * l.length
 | [], _ => by simp [vJ]
 | s :: l, h => by
   have a := aMs (l := l) λ x hx => h x (by simp [hx])
   have b := (sO s).2; have c := h s (by simp)
   show (fW s ++ vJ l).length <= _; rw [List.length_append, List.length_cons]; omega
theorem aHV {l : List (Ln)} {i : Nat} {s : Ln} (h : l[i]? = some s) : vJ (l.take (i + 1)) = vJ (l.take i) ++ fW s := by
 unfold vJ; rw [List.take_add_one, h, List.flatMap_append]; simp
theorem rY {l : List (Ln)} (h : aEI l) (i : Nat) : (vJ (l.take i)).length <= 33000 := by
 have := aMs (l := l.take i) λ s hs => (h.2 s (List.mem_of_mem_take hs)).1
 have h2 : (l.take i).length <= 300 := by rw [List.length_take]; have := h.1; omega
 omega
theorem aGV {E : bJ} (hT : bL E 108 aMc) {n0 : Nat} {w : DV} {l : List (Ln)} (hl : aEI l) {s0 : Ln} (hs0 : s0.length <= 66000) : ∀ (k i m : Nat) (v : DV) (h : H), l.length - i = k -> i <= l.length -> n0 <= h.size -> dE h w (cU l) -> (∀ b o n c op, w = .slc b o n c op -> b < n0) -> bS n0 h v (bU (s0 ++ vJ (l.take i))) ->
   ∃ v' h', aCS E w (ii l.length) (m + (k + 1)) v (ii i) h = some (v', h') /\ bS n0 h' v' (bU (s0 ++ vJ l)) /\ cK n0 h h' := by
 obtain ⟨B, hB, sB⟩ := hT.call; have hll := hl.1; intro k
 induction k with
 | zero =>
   intro i m v h hk hi hn r hw o; have : i = l.length := by omega
   subst this; rw [List.take_length] at o; refine ⟨v, h, ?_, o, cK.refl _ _⟩; show aGB E w _ (aCS E w _ m) _ _ h = _; unfold aGB; rw [aP, aA, decide_eq_false (Nat.lt_irrefl _), aC]; rfl
 | succ k ih =>
   intro i m v h hk hi hn r hw o; have hlt : i < l.length := by omega
   obtain ⟨s, hs⟩ : ∃ s, l[i]? = some s := ⟨_, List.getElem?_eq_getElem hlt⟩; have hsl := (hl.2 s (List.mem_of_getElem? hs)).1; obtain ⟨b, o', k1, k2⟩ := r.at (j := i) (kC hs) .i64; have htl := rY hl i; obtain ⟨v1, h1, f1, o1, g1⟩ := sB n0 v _ s h o hn (by rw [List.length_append]; omega) (by omega)
   have r1 : dE h1 w (cU l) := r.off (F := λ c => n0 <= c) ⟨g1.size, λ c hc hF => g1.get c (Nat.lt_of_not_le hF)⟩ λ b o n c op e => Nat.not_le.2 (hw b o n c op e)
   have e : s0 ++ vJ (l.take (i + 1)) = s0 ++ vJ (l.take i) ++ fW s := by rw [aHV hs, List.append_assoc]
   rw [<- e] at o1; obtain ⟨v', h', y1, y2, y3⟩ := ih (i + 1) m v1 h1 (by omega) (by omega) (Nat.le_trans hn g1.size) r1 hw o1
   refine ⟨v', h', ?_, y2, g1.trans y3⟩; show aGB E w _ (aCS E w _ (m + (k + 1))) _ _ h = _; unfold aGB; rw [aP, aA, decide_eq_true hlt, aD, k1, aA, k2, aA, hB, f1, aB, bO (by omega), aA]
   exact y1
theorem bGr {h : H} {v : DV} {L : List DV} (r : dE h v L) : ∀ b o n c op, v = .slc b o n c op -> b < h.size := by
 intro b o n c op e; rcases r with ⟨_, rfl | ⟨b', o', o2, rfl⟩⟩ | ⟨b', o', c', op', rfl, _, h2, _⟩
 · cases e
 · cases e
 · cases e; exact h2
def aAq (B : cF) : Prop := ∀ (b : Nat) (s : Ln) (w : DV) (l : List (Ln)) (h : H), mY h b s -> dE h w (cU l) -> aEI l -> s.length <= 1000 -> ∃ h', B [.ptr b 0, w] h = some (.tup [], h') /\ mY h' b (s ++ vS l) /\ kJ (λ c => c = b) h h'
theorem aMi {E F G : bJ} (h1 : E 103 = some (aOP F)) (h2 : F 168 = some (bDJ G)) (hN : bL G 106 aBK) (hT : bL G 108 aMc) : aAq (aZX E) := by
 obtain ⟨B, hB, sB⟩ := hN.call; intro b s w l h hw r hl hs; have hone : w.one = true := by rcases r with ⟨_, rfl | ⟨_, _, _, rfl⟩⟩ | ⟨_, _, _, _, rfl, _⟩ <;> rfl
 have hll := hl.1; obtain ⟨hb', eb, gb, ob⟩ := aO h 1 1 [w] rfl; have zb : hb'.size = h.size + 1 := by rw [eb]; exact H.size_push _ _
 have hb : b < h.size := by obtain ⟨v, ho, _⟩ := hw; exact ho.1
 have hwb : mY hb' b s := by rw [eb]; exact aAL hw _
 have li := (dF (.ofNat l.length)).2; have ltx := rY hl l.length; rw [List.take_length] at ltx; obtain ⟨h', f1, f2, f3⟩ := aEl (E := F) (b := b) (s := s) (new := vS l) (f := .fn (.func 168) [] [.ptr h.size 0]) hwb (by
   intro c hc; obtain ⟨v1, hh1, a1, a2, a3⟩ := sB c s (.ofNat l.length) _ hc (by omega) (fU (by omega))
   have ob1 := ob.grown a3.grown; have r1 := (r.grown gb).grown a3.grown; obtain ⟨v2, hh2, y1, y2, y3⟩ := aGV (E := G) hT (n0 := hb'.size) hl (s0 := s ++ fK (.ofNat l.length)) (by rw [List.length_append]; omega) l.length 0 (aQ - (l.length + 1)) v1 hh1 (by omega) (by omega) a3.size r1 (bGr (r.grown gb)) (by simpa [vJ] using a2)
   rw [show aQ - (l.length + 1) + (l.length + 1) = aQ from by unfold aQ; omega] at y1
   refine ⟨v2, hh2, ?_, by unfold vS; rw [<- List.append_assoc]; exact y2, a3.trans y3⟩
   show aE F 168 ([] ++ [c] ++ [.ptr h.size 0]) _ = _; rw [cN h2]; show aKL G c (.ptr h.size 0) _ = _; unfold aKL; rw [ob.read (j := 0) rfl, aA, (r.grown gb).len, bH, aA, hB, a1, aB, ob1.read (j := 0) rfl, aA, r1.len, bH, aA]; exact y1) (by unfold vS; rw [List.length_append]; omega)
 refine ⟨h', ?_, f2, (gb.off _).trans f3⟩; show aKY E (.ptr b 0) w h = _; unfold aKY; rw [pT hone, <- eb, cN h1, f1, aB]
def aAz (B : cF) : Prop := ∀ (w : DV) (l : List (Ln)) (h : H), dE h w (cU l) -> aEI l -> ∃ h', B [w] h = some (.str (vS l), h') /\ aH h h'
theorem aHj {E : bJ} (hT : bL E 54 mP) {w : DV} {l : List (Ln)} (hl : aEI l) {s0 : Ln} (hs0 : s0.length <= 20) : ∀ (k i m : Nat) (h : H), l.length - i = k -> i <= l.length -> dE h w (cU l) ->
   ∃ h', aDb E w (m + (k + 1)) (.str (s0 ++ vJ (l.take i))) (ii i) h = some (.str (s0 ++ vJ l), h') /\ aH h h' := by
 obtain ⟨B, hB, sB⟩ := hT.call; have hll := hl.1; intro k
 induction k with
 | zero =>
   intro i m h hk hi r; have : i = l.length := by omega
   subst this; refine ⟨h, ?_, aH.refl _⟩; rw [List.take_length]; show aGL E w (aDb E w m) _ _ h = _; unfold aGL; rw [r.len, bH, aA, aP, aA, decide_eq_false (Nat.lt_irrefl _), aC]; rfl
 | succ k ih =>
   intro i m h hk hi r; have hlt : i < l.length := by omega
   obtain ⟨s, hs⟩ : ∃ s, l[i]? = some s := ⟨_, List.getElem?_eq_getElem hlt⟩; have hsl := (hl.2 s (List.mem_of_getElem? hs)).1; obtain ⟨b, o', k1, k2⟩ := r.at (j := i) (kC hs) .i64; have htl := rY hl i; have hb := (sO s).2; obtain ⟨h1, f1, g1⟩ := sB s h (by omega)
   obtain ⟨h', y1, y2⟩ := ih (i + 1) m h1 (by omega) (by omega) (r.grown g1)
   refine ⟨h', ?_, g1.trans y2⟩; show aGL E w (aDb E w (m + (k + 1))) _ _ h = _; unfold aGL; rw [r.len, bH, aA, aP, aA, decide_eq_true hlt, aD, k1, aA, k2, aA, hB, f1, aB, fD (by rw [List.length_append]; unfold fQ; omega), aA, bO (by omega), aA]
   rw [aHV hs, <- List.append_assoc] at y1; exact y1
theorem aMT {E : bJ} (hI : bL E 53 nA) (hT : bL E 54 mP) : aAz (bAh E) := by
 obtain ⟨B, hB, sB⟩ := hI.call; intro w l h r hl; have hll := hl.1; obtain ⟨h3, f3, g3⟩ := sB (.ofNat l.length) h (fU (by omega))
 have li := (dF (.ofNat l.length)).2; obtain ⟨h', y1, y2⟩ := aHj (E := E) hT hl (s0 := fK (.ofNat l.length)) (by omega) l.length 0 (aQ - (l.length + 1)) h3 (by omega) (by omega) (r.grown g3)
 rw [show aQ - (l.length + 1) + (l.length + 1) = aQ from by unfold aQ; omega] at y1
 refine ⟨h', ?_, g3.trans y2⟩; show aLl E w h = _; unfold aLl; rw [r.len, bH, aA, hB, f3, aB]; have : fK (.ofNat l.length) ++ vJ (l.take 0) = fK (.ofNat l.length) := by simp [vJ]
 rw [this] at y1; exact y1
def qE (l : Ln) : Ln := l.flatMap λ n => fK (.ofNat n)
def aHJ (T : TreeP) (o : lV) : Nat × Ln :=
 if o.kind = 9 then ((vE T o.path o.at_ o.n).2, (vE T o.path o.at_ o.n).1) else
   if o.kind = 10 then (if (tV T o.path).2 = 0 then (0, qE (tV T o.path).1) else ((tV T o.path).2, [])) else
     if (mL T o.path).2 = 0 then (0, vS (mL T o.path).1) else ((mL T o.path).2, [])
def iG (T : TreeP) (o : lV) : TreeP × Nat × Ln :=
 if gZ o = 0 then (if o.kind <= 8 then ((uN T o).1, (uN T o).2, []) else (T, aHJ T o)) else (T, gZ o, [])
theorem aZs {o : lV} (h : gZ o = 0) : 1 <= o.kind /\ o.kind <= 11 /\ o.path.length <= 255 /\ o.other.length <= 255 /\ o.text.length <= 512 := by
 unfold gZ at h; split at h
 · cases h
 · split at h
   · cases h
   · omega
theorem aHX {k : Nat} {T : TreeP} (hI : Inv k T) (hk : k < 900) (p : Ln) : ∀ n ∈ (tV T p).1, n < 100000000 := by
 intro n hn; unfold tV at hn; split at hn
 · unfold aEQ at hn; split at hn
   · rename_i m hm; have hok := hI.of hm; have hg := hI.gen; have h1 := hok.1.rng; have h2 := hok.1.gen; have h3 := hok.1.txt.2; have h4 := hok.1.len; have h5 := hI.links_lt hk m.inode; have h6 : m.kind <= 2 := by rcases hok.1.knd with ⟨x, _⟩ | ⟨x, _⟩ <;> omega
     simp only [List.mem_cons, List.not_mem_nil, or_false] at hn; rcases hn with rfl | rfl | rfl | rfl | rfl
     · omega
     · omega
     · omega
     · split <;> omega
     · split <;> omega
   · simp only [List.mem_cons, List.not_mem_nil, or_false] at hn; rcases hn with rfl | rfl | rfl | rfl | rfl <;> omega
 · simp only [List.mem_cons, List.not_mem_nil, or_false] at hn; rcases hn with rfl | rfl | rfl | rfl | rfl <;> omega
theorem aNy {k : Nat} {T : TreeP} (hI : Inv k T) (hk : k <= 256) (p : Ln) : aEI (mL T p).1 := by
 unfold mL; split
 · split
   · exact ⟨by simp, λ s hs => by cases hs⟩
   · split
     · rename_i n hn; have hok := hI.of hn; refine ⟨by rw [List.length_map]; have := hok.1.len; omega, λ s hs => ?_⟩
       obtain ⟨e, he, rfl⟩ := List.mem_map.1 hs; have := hok.1.nam e he; exact ⟨by have := uP this.1; omega, this.2.1⟩
     · exact ⟨by simp, λ s hs => by cases hs⟩
 · exact ⟨by simp, λ s hs => by cases hs⟩
theorem aMD {l : Ln} (h : ∀ n ∈ l, n < 100000000) : (qE l).length <= 10 * l.length /\ bB (qE l) = true := by
 induction l with
 | nil => exact ⟨by simp [qE], rfl⟩
 | cons n l ih =>
   obtain ⟨a, b⟩ := ih λ m hm => h m (by simp [hm])
   have c := (dF (.ofNat n)).2; have d : bB (fK (.ofNat n)) = true := lY (fU (by have := h n (by simp); omega))
   show (fK (.ofNat n) ++ qE l).length <= _ /\ bB (fK (.ofNat n) ++ qE l) = true; rw [List.length_append, List.length_cons]; exact ⟨by omega, cI d b⟩
theorem aSP : ∀ {l : List (Ln)}, (∀ s ∈ l, s.length <= 100 /\ bB s = true) -> bB (vJ l) = true
 | [], _ => rfl
 | s :: l, h => by
   have a := aSP (l := l) λ x hx => h x (by simp [hx])
   have b := h s (by simp)
   exact cI (sN b.2 (by omega)) a
theorem aVL {l : List (Ln)} (h : aEI l) : bB (vS l) = true := cI (lY (fU (by have := h.1; omega))) (aSP h.2)
def zE (f : TreeP -> Ln -> Nat × Ln) (B : cF) : Prop := ∀ (t : Nat) (T : TreeP) (C : List DV) (FN : Nat -> Ln) (k : Nat) (p : Ln) (h : H), cY h t T C FN -> Inv k T -> k <= 256 -> p.length < 140737488355328 ->
 ∃ h', B [.ptr t 0, .str p] h = some (.tup [ii ((f T p).1), .str (f T p).2], h') /\ aH h h'
def aRt (T : TreeP) (p : Ln) : Nat × Ln := if (tV T p).2 = 0 then (0, qE (tV T p).1) else ((tV T p).2, [])
def aRu (T : TreeP) (p : Ln) : Nat × Ln := if (mL T p).2 = 0 then (0, vS (mL T p).1) else ((mL T p).2, [])
theorem aHE {E : bJ} (hI : bL E 50 lD) (hD : bL E 52 jD) {wb vb : Nat} {l : Ln} (hl : l.length = 5) (hs : ∀ n ∈ l, n < 100000000) (hne : vb ≠ wb) : ∀ (k i m : Nat) (h : H), 5 - i = k -> i <= 5 -> bW h vb (cX l) -> mY h wb (qE (l.take i)) ->
   ∃ h', aDe E (.ptr wb 0) (.slc vb 0 5 5 false) (ii 5) (m + (k + 1)) (ii i) h = some (.tup [ii 0, .str (qE l)], h') /\ kJ (λ c => c = wb) h h' := by
 obtain ⟨B0, b0, s0⟩ := hI.call; obtain ⟨B1, b1, s1⟩ := hD.call; intro k
 induction k with
 | zero =>
   intro i m h hk hi c w; have : i = 5 := by omega
   subst this; rw [List.take_of_length_le (by omega)] at w
   refine ⟨h, ?_, kJ.refl _ _⟩; show aGR E _ _ _ (aDe E _ _ _ m) _ h = _; unfold aGR; rw [aP, aA, decide_eq_false (Nat.lt_irrefl _), aC]; unfold aLD; rw [b1, s1 wb _ h w (aMD hs).2, aB, aL, aA, aK, aA]
 | succ k ih =>
   intro i m h hk hi c w; have hlt : i < 5 := by omega
   obtain ⟨n, hn⟩ : ∃ n, l[i]? = some n := ⟨_, List.getElem?_eq_getElem (by omega)⟩
   have hns := hs n (List.mem_of_getElem? hn); have htk : (qE (l.take i)).length <= 50 := by
     have := (aMD (l := l.take i) λ x hx => hs x (List.mem_of_mem_take hx)).1
     have h2 : (l.take i).length <= 5 := by rw [List.length_take]; omega
     omega
   have rd : aF h.get (.ptr vb i) = some (ii n) := by
     simp only [aF, cL]; exact c.rd (sP hn)
   obtain ⟨h5, f5, w5, p5⟩ := s0 wb _ (.ofNat n) h w (fU (by omega)) (by omega)
   have c5 : bW h5 vb (cX l) := by
     obtain ⟨a1, pl, t, a2, a3⟩ := c; exact ⟨Nat.lt_of_lt_of_le a1 p5.size, pl, t, by rw [p5.get vb a1 hne]; exact a2, a3⟩
   have et : qE (l.take (i + 1)) = qE (l.take i) ++ fK (.ofNat n) := by
     unfold qE; rw [List.take_add_one, hn, List.flatMap_append]; simp
   rw [<- et] at w5; obtain ⟨h', y1, y2⟩ := ih (i + 1) m h5 (by omega) (by omega) c5 w5
   refine ⟨h', ?_, p5.trans y2⟩; show aGR E _ _ _ (aDe E _ _ _ (m + (k + 1))) _ h = _; unfold aGR; have ia : cD 1 (.slc vb 0 5 5 false) (ii i) = some (.ptr vb i) := by
     simp only [cD, qR, dS hlt, cond_true, bD, Nat.mul_one, Nat.zero_add]
   rw [aP, aA, decide_eq_true hlt, aD, ia, aA, rd, aA, b0, f5, aB, bO (by omega), aA]
   exact y1
theorem aQP {R : Type} (l : Ln) (hl : l.length = 5) (a b c d e : Nat) (hle : l = [a, b, c, d, e]) (h : H) (k : DV -> H -> Option R) : fG 5 1 [ii 0] [(0, 1, ii a), (1, 1, ii b), (2, 1, ii c), (3, 1, ii d), (4, 1, ii e)] h k = k (.slc h.size 0 5 5 false) (h.push (.blk ⟨5, 1, false, true, Tr.ofL (cX l)⟩)) := by
 subst hle; have hf : gP (gM [ii 0] 5) [(0, 1, ii a), (1, 1, ii b), (2, 1, ii c), (3, 1, ii d), (4, 1, ii e)] = some (cX [a, b, c, d, e]) := rfl; simp only [fG, hf, Option.bind_some, H.pushK_eq]
theorem aOe {E : bJ} (hS : bL E 34 aCC) (hN : bL E 48 nB) (hI : bL E 50 lD) (hD : bL E 52 jD) : zE aRt (bAw E) := by
 obtain ⟨B0, b0, s0⟩ := hS.call; obtain ⟨B1, b1, s1⟩ := hN.call; intro t T C FN k p h r hInv hk hp; have z5 : [(ii 0), (ii 0), (ii 0), (ii 0), (ii 0)] = cX [0, 0, 0, 0, 0] := rfl; obtain ⟨h2, f2, g2⟩ := s0 t T C FN k p h r hInv (by omega) hp
 have hsl := aST T p; have hsm := aHX hInv (by omega) p
 obtain ⟨h6, eh6, g6, o6⟩ := aO h2 5 5 (cX [0, 0, 0, 0, 0]) rfl; have one5 : ∀ l : Ln, (cX l).all DV.one = true := λ l => by
   unfold cX; rw [List.all_eq_true]; intro x hx; obtain ⟨y, _, rfl⟩ := List.mem_map.1 hx
   rfl
 obtain ⟨h8, f8, o8, k8⟩ := o6.setAll (n := 5) (cs := cX (tV T p).1) rfl (pP hsl) (one5 _); have G8 : aH h h8 := k8.grown (g2.trans g6) g2.size; show ∃ h', aLE E (.ptr t 0) (.str p) h = _ /\ _; unfold aLE aRt; rw [b0, f2, aB, aL, aA, aK, aA, z5, bG, <- eh6, f8, aB, bC, aA]; by_cases e0 : (tV T p).2 = 0
 · have hst : ∃ a b c d e, (tV T p).1 = [a, b, c, d, e] := by
     generalize (tV T p).1 = l at hsl
     match l, hsl with
     | [a, b, c, d, e], _ => exact ⟨a, b, c, d, e, rfl⟩
   obtain ⟨a, b, c, d, e, hle⟩ := hst; obtain ⟨h11, f11, w11, g11⟩ := s1 h8; have o11 := o8.grown g11; obtain ⟨h23, eh23, g23, o23⟩ : ∃ x, x = h11.push (.blk ⟨5, 1, false, true, Tr.ofL (cX (tV T p).1)⟩) /\ aH h11 x /\ bW x h11.size (cX (tV T p).1) := by
     have q := bW.pushed (h := h11) (L := cX (tV T p).1) (pl := true); rw [pP hsl] at q; exact ⟨_, rfl, aH.push _ _, q⟩
   have w23 : mY h23 h8.size [] := by rw [eh23]; exact aAL w11 _
   have z11 := bPP w11; obtain ⟨h', y1, y2⟩ := aHE (E := E) hI hD (wb := h8.size) (vb := h11.size) hsl hsm (by omega) 5 0 (aQ - 6) h23 rfl (by omega) o23 (by simpa [qE] using w23)
   rw [show aQ - 6 + (5 + 1) = aQ from by unfold aQ; omega] at y1
   have dec : (!decide ((tV T p).2 = 0)) = false := by rw [e0]; rfl
   have fx : ∀ q, aI q (.ptr h2.size 0) = some (.ptr h2.size q) := λ q => by rw [aJ, Nat.zero_add]
   have rd : ∀ j x, (tV T p).1[j]? = some x -> aF h11.get (.ptr h2.size j) = some (ii x) := λ j x hj => o11.read (sP hj)
   have ll : cA (.slc h11.size 0 5 5 false) = some (ii 5) := rfl; refine ⟨h', ?_, ?_⟩
   · rw [dec, aC, b1, f11, aB, fx, aA, rd 0 a (by rw [hle]; rfl), aA, fx, aA, rd 1 b (by rw [hle]; rfl), aA, fx, aA, rd 2 c (by rw [hle]; rfl), aA, fx, aA, rd 3 d (by rw [hle]; rfl), aA, fx, aA, rd 4 e (by rw [hle]; rfl), aA, aQP _ hsl a b c d e hle, <- eh23, ll, aA, y1, if_pos e0]
   · have G23 := (G8.trans g11).trans g23; exact ⟨Nat.le_trans G23.size y2.size, λ x hx => by
       rw [y2.get x (Nat.lt_of_lt_of_le hx G23.size) (by have := G8.size; omega)]
       exact G23.get x hx⟩
 · have dec : (!decide ((tV T p).2 = 0)) = true := by simp [e0]
   rw [dec, aD, if_neg e0]; exact ⟨h8, rfl, G8⟩
theorem aOf {E : bJ} (hS : bL E 35 aCE) (hN : bL E 48 nB) (hT : bL E 149 aAq) (hD : bL E 52 jD) : zE aRu (bAu E) := by
 obtain ⟨B0, b0, s0⟩ := hS.call; obtain ⟨B1, b1, s1⟩ := hN.call; obtain ⟨B2, b2, s2⟩ := hT.call; obtain ⟨B3, b3, s3⟩ := hD.call; intro t T C FN k p h r hInv hk hp; obtain ⟨w, h2, f2, r2, g2⟩ := s0 t T C FN k p h r hInv (by omega) hp
 have hok := aNy hInv hk p; show ∃ h', aLB E (.ptr t 0) (.str p) h = _ /\ _; unfold aLB aRu; rw [b0, f2, aB, aL, aA, aK, aA, bC, aA]; by_cases e0 : (mL T p).2 = 0
 · obtain ⟨h7, f7, w7, g7⟩ := s1 h2; obtain ⟨h9, f9, w9, p9⟩ := s2 h2.size [] w _ h7 w7 (r2.grown g7) hok (by simp)
   rw [List.nil_append] at w9; have f11 := s3 h2.size _ h9 w9 (aVL hok); have dec : (!decide ((mL T p).2 = 0)) = false := by rw [e0]; rfl
   refine ⟨h9, ?_, ?_⟩
   · rw [dec, aC, b1, f7, aB, b2, f9, aB, b3, f11, aB, aL, aA, aK, aA, if_pos e0]
   · have G := g2.trans g7; exact ⟨Nat.le_trans G.size p9.size, λ x hx => by
       rw [p9.get x (Nat.lt_of_lt_of_le hx G.size) (by have := g2.size; omega)]
       exact G.get x hx⟩
 · have dec : (!decide ((mL T p).2 = 0)) = true := by simp [e0]
   rw [dec, aD, if_neg e0]; exact ⟨h2, rfl, g2⟩
def aGc (B : cF) : Prop := ∀ (A : Nat -> Prop) (v : DV) (T : TreeP) (k : Nat) (o : lV) (h : H), eF A h v T -> Inv k T -> k <= 256 -> o.ok -> o.path.length < 140737488355328 ->
 ∃ h', B [v, .agg (kD o)] h = some (.tup [ii ((aHJ T o).1), .str (aHJ T o).2], h') /\ aH h h'
theorem aWg {E : bJ} (hR : bL E 80 aCJ) (hS : bL E 81 aCI) (hL : bL E 82 aCL) (hI : bL E 53 nA) (hT : bL E 133 aAz) : aGc (S73 E) := by
 obtain ⟨B0, b0, s0⟩ := hR.call; obtain ⟨B1, b1, s1⟩ := hS.call; obtain ⟨B2, b2, s2⟩ := hL.call; obtain ⟨B3, b3, s3⟩ := hI.call; obtain ⟨B4, b4, s4⟩ := hT.call; intro A v T k o h r hInv hk hok hpl; obtain ⟨hk0, ha0, hn0, okp, oko, okt⟩ := id hok; obtain ⟨s, ev, hs⟩ := r.agg; subst ev; have z5 : [(ii 0), (ii 0), (ii 0), (ii 0), (ii 0)] = cX [0, 0, 0, 0, 0] := rfl; obtain ⟨h2, eh2, g2, o2⟩ := aO h 2 2 [s, ii T.gen] rfl; obtain ⟨h4, eh4, g4, o4⟩ := aO h2 6 6 (kD o) rfl; have G4 := g2.trans g4; have r4 := r.grown G4; have o24 := o2.grown g4; have fx : ∀ q, aI q (.ptr h2.size 0) = some (.ptr h2.size q) := λ q => by rw [aJ, Nat.zero_add]
 show ∃ h', aUz E (.agg [s, ii T.gen]) (.agg (kD o)) h = _ /\ _; unfold aUz aHJ; rw [nbx eh2 rfl, nbx eh4 rfl, fx, aA, o4.read (j := 0) rfl, aA, hH, aA]; by_cases c9 : o.kind = 9
 · obtain ⟨h16, f16, g16⟩ := s0 A _ T k o.path o.at_ o.n h4 r4 hInv (by omega) hpl ha0 hn0
   refine ⟨h16, ?_, G4.trans g16⟩; rw [show (o.kind == Int.ofNat 9) = true from by rw [beq_iff_eq]; exact c9, aD, if_pos c9, o24.all (n := 2) rfl, aA, fx, aA, o4.read (j := 3) rfl, aA, fx, aA, o4.read (j := 1) rfl, aA, fx, aA, o4.read (j := 2) rfl, aA, b0, f16, aB, aL, aA, aK, aA]
 rw [show (o.kind == Int.ofNat 9) = false from by rw [beq_eq_false_iff_ne]; exact c9, aC, if_neg c9, hH, aA]
 by_cases c10 : o.kind = 10
 · obtain ⟨h24, f24, g24⟩ := s1 A _ T k o.path h4 r4 hInv (by omega) hpl
   have hsl := aST T o.path; have hsm := aHX hInv (by omega) o.path
   have one5 : ∀ l : Ln, (cX l).all DV.one = true := λ l => by
     unfold cX; rw [List.all_eq_true]; intro x hx; obtain ⟨y, _, rfl⟩ := List.mem_map.1 hx
     rfl
   obtain ⟨h28, eh28, g28, o28⟩ := aO h24 5 5 (cX [0, 0, 0, 0, 0]) rfl; obtain ⟨h30, f30, o30, k30⟩ := o28.setAll (n := 5) (cs := cX (tV T o.path).1) rfl (pP hsl) (one5 _); have G30 : aH h h30 := k30.grown ((G4.trans g24).trans g28) (G4.trans g24).size; rw [show (o.kind == Int.ofNat 10) = true from by rw [beq_iff_eq]; exact c10, aD, if_pos c10, o24.all (n := 2) rfl, aA, fx, aA, o4.read (j := 3) rfl, aA, b1, f24, aB, aL, aA, aK, aA, z5, bG, <- eh28, f30, aB, bC, aA]
   by_cases e0 : (tV T o.path).2 = 0
   · have hst : ∃ a b c d e, (tV T o.path).1 = [a, b, c, d, e] := by
       generalize (tV T o.path).1 = l at hsl
       match l, hsl with
       | [a, b, c, d, e], _ => exact ⟨a, b, c, d, e, rfl⟩
     obtain ⟨a, b, c, d, e, hle⟩ := hst; have small : ∀ n ∈ [a, b, c, d, e], n < 100000000 := λ n hn => hsm n (by rw [hle]; exact hn)
     have i64 : ∀ n ∈ [a, b, c, d, e], iB (.ofNat n) := λ n hn => fU (by have := small n hn; omega)
     obtain ⟨h43, f43, g43⟩ := s3 (.ofNat a) h30 (i64 a (by simp))
     obtain ⟨h45, f45, g45⟩ := s3 (.ofNat b) h43 (i64 b (by simp))
     obtain ⟨h48, f48, g48⟩ := s3 (.ofNat c) h45 (i64 c (by simp))
     obtain ⟨h51, f51, g51⟩ := s3 (.ofNat d) h48 (i64 d (by simp))
     obtain ⟨h54, f54, g54⟩ := s3 (.ofNat e) h51 (i64 e (by simp))
     have dec : (!decide ((tV T o.path).2 = 0)) = false := by rw [e0]; rfl
     have fy : ∀ q, aI q (.ptr h24.size 0) = some (.ptr h24.size q) := λ q => by rw [aJ, Nat.zero_add]
     have rd : ∀ {hh : H}, aX hh h24.size (cX (tV T o.path).1) -> ∀ j x, (tV T o.path).1[j]? = some x -> aF hh.get (.ptr h24.size j) = some (ii x) := λ q j x hj => q.read (sP hj)
     have x0 : (tV T o.path).1[0]? = some a := by rw [hle]; rfl
     have x1 : (tV T o.path).1[1]? = some b := by rw [hle]; rfl
     have x2 : (tV T o.path).1[2]? = some c := by rw [hle]; rfl
     have x3 : (tV T o.path).1[3]? = some d := by rw [hle]; rfl
     have x4 : (tV T o.path).1[4]? = some e := by rw [hle]; rfl
     have q43 := o30.grown g43; have q45 := q43.grown g45; have q48 := q45.grown g48; have q51 := q48.grown g51; have la := (dF (.ofNat a)).2; have lb := (dF (.ofNat b)).2; have lc := (dF (.ofNat c)).2; have ld := (dF (.ofNat d)).2; have le := (dF (.ofNat e)).2; refine ⟨h54, ?_, ((((G30.trans g43).trans g45).trans g48).trans g51).trans g54⟩; rw [dec, aC, fy, aA, rd o30 0 a x0, aA, fy, aA, rd o30 1 b x1, aA, fy, aA, rd o30 2 c x2, aA, fy, aA, rd o30 3 d x3, aA, fy, aA, rd o30 4 e x4, aA, b3, f43, aB, rd q43 4 e x4, gS, eQ, rd q43 3 d x3, gS, eQ, rd q43 2 c x2, gS, eQ, rd q43 1 b x1, gS, eQ,
       b3, f45, aB, rd q45 4 e x4, gS, eQ, rd q45 3 d x3, gS, eQ, rd q45 2 c x2, gS, eQ, fD (by unfold fQ; omega), aA, b3, f48, aB, rd q48 4 e x4, gS, eQ, rd q48 3 d x3, gS, eQ, fD (by simp only [List.length_append]; unfold fQ; omega), aA,
       b3, f51, aB, rd q51 4 e x4, gS, eQ, fD (by simp only [List.length_append]; unfold fQ; omega), aA, b3, f54, aB, fD (by simp only [List.length_append]; unfold fQ; omega), aA, if_pos e0, hle]
     simp [qE]
   · have dec : (!decide ((tV T o.path).2 = 0)) = true := by simp [e0]
     rw [dec, aD, if_neg e0]; exact ⟨h30, rfl, G30⟩
 rw [show (o.kind == Int.ofNat 10) = false from by rw [beq_eq_false_iff_ne]; exact c10, aC, if_neg c10]
 obtain ⟨w, h60, f60, r60, g60⟩ := s2 A _ T k o.path h4 r4 hInv (by omega) hpl
 have hok2 := aNy hInv hk o.path; rw [o24.all (n := 2) rfl, aA, fx, aA, o4.read (j := 3) rfl, aA, b2, f60, aB, aL, aA, aK, aA, bC, aA]; by_cases e0 : (mL T o.path).2 = 0
 · have dec : (!decide ((mL T o.path).2 = 0)) = false := by rw [e0]; rfl
   obtain ⟨h65, f65, g65⟩ := s4 w _ h60 r60 hok2; rw [dec, aC, if_pos e0, b4, f65, aB]; exact ⟨h65, rfl, (G4.trans g60).trans g65⟩
 · have dec : (!decide ((mL T o.path).2 = 0)) = true := by simp [e0]
   rw [dec, aD, if_neg e0]; exact ⟨h60, rfl, G4.trans g60⟩
def aEu (B : cF) : Prop := ∀ (A : Nat -> Prop) (v : DV) (T : TreeP) (k : Nat) (o : lV) (h : H), eF A h v T -> Inv k T -> k <= 256 -> o.ok -> (∀ c, h.size <= c -> A c) ->
 ∃ v' h', B [v, .agg (kD o)] h = some (.tup [v', ii ((iG T o).2.1), .str (iG T o).2.2], h') /\ eF A h' v' (iG T o).1 /\ aH h h'
theorem rO {E : bJ} {A A' : Nat -> Prop} {T' : TreeP} {b5 b16 e : Nat} {v' : DV} {L5 L16 : List DV} {h hh : H} (hR : eF A' hh v' T') (g : aH h hh) (o5 : aX hh b5 L5) (h5 : L5.length = 2) (o16 : aX hh b16 L16) (h16 : L16.length = 2) (n : b5 ≠ b16) (n5 : ¬ A' b5) (n16 : ¬ A' b16) (z5 : h.size <= b5) (z16 : h.size <= b16) (hA : ∀ c, A' c -> A c) :
   ∃ h', (wK (bY 2 (.ptr b16 0) v' hh) λ _ h31 => xK E (.ptr b5 0) (.ptr b16 0) (ii e) h31) = some (.tup [v', ii e, .str []], h') /\ eF A h' v' T' /\ aH h h' := by
 obtain ⟨s, rfl, hs⟩ := hR.agg; have one2 : ([s, ii T'.gen]).all DV.one = true := by simp only [List.all_cons, List.all_nil, hs]; rfl
 obtain ⟨h31, f31, o31, k31⟩ := o16.setAll (n := 2) (cs := [s, ii T'.gen]) h16 rfl one2; obtain ⟨h3, f3, o3, k3⟩ := (aX.but o5 n k31).setAll (n := 2) (cs := [s, ii T'.gen]) h5 rfl one2; refine ⟨h3, ?_, (hR.move (A' := A') (Nat.le_of_eq k31.size.symm) (λ c hc _ => k31.get c λ e => n16 (e ▸ hc)) (λ _ x _ => x)).move (Nat.le_of_eq k3.size.symm) (λ c hc _ => k3.get c λ e => n5 (e ▸ hc)) (λ c hc _ => hA c hc), k3.grown (k31.grown g z16) z5⟩
 rw [f31, aB]; unfold xK; rw [o31.all (n := 2) rfl, aA, f3, aB, o3.all (n := 2) rfl, aA]
theorem aXV {E : bJ} (D : bBy E) (hC : bL E 18 rX) (hAsk : bL E 73 aGc) : aEu (S23 E) := by
 obtain ⟨B8, b8, s8⟩ := hC.call; obtain ⟨B9, b9, s9⟩ := hAsk.call; intro A v T k o h hR hI hk256 hok hA0; have hk : k < 900 := by omega
 obtain ⟨hk0, ha0, hn0, okp, oko, okt⟩ := id hok; obtain ⟨s, ev, hs⟩ := hR.agg; subst ev; obtain ⟨h2, eh2, g2, o2⟩ := aO h 2 2 [s, ii T.gen] rfl; have z2 : h2.size = h.size + 1 := by rw [eh2]; exact H.size_push _ _
 obtain ⟨h4, eh4, g4, o4⟩ := aO h2 6 6 (kD o) rfl; have z4 : h4.size = h2.size + 1 := by rw [eh4]; exact H.size_push _ _
 obtain ⟨h6, eh6, g6, o6⟩ := aO h4 2 2 [.nils, ii 0] rfl; have z6 : h6.size = h4.size + 1 := by rw [eh6]; exact H.size_push _ _
 obtain ⟨h9, f9, g9⟩ := s8 o h6; have z9 := g9.size; obtain ⟨h17, eh17, g17, o17⟩ := aO h9 2 2 [.nils, ii 0] rfl; have z17 : h17.size = h9.size + 1 := by rw [eh17]; exact H.size_push _ _
 have one2 : ([s, ii T.gen]).all DV.one = true := by simp only [List.all_cons, List.all_nil, hs]; rfl
 obtain ⟨h19, f19_, o19, k19⟩ := o17.setAll (n := 2) (cs := [s, ii T.gen]) rfl rfl one2; have z19 : h19.size = h17.size := k19.size; have G9 : aH h h9 := ((g2.trans g4).trans g6).trans g9; have G19 : aH h h19 := k19.grown (G9.trans g17) (by omega)
 have q2 : aX h19 h.size [s, ii T.gen] := aX.but ((((o2.grown g4).grown g6).grown g9).grown g17) (by omega) k19
 have q4 : aX h19 h2.size (kD o) := aX.but (((o4.grown g6).grown g9).grown g17) (by omega) k19
 have q6 : aX h19 h4.size [.nils, ii 0] := aX.but ((o6.grown g9).grown g17) (by omega) k19
 have q29 : aX h9 h.size [s, ii T.gen] := ((o2.grown g4).grown g6).grown g9; obtain ⟨A', hA'⟩ : ∃ A' : Nat -> Prop, A' = λ c => (A c /\ c < h.size) \/ h19.size <= c := ⟨_, rfl⟩
 have r19 : eF A' h19 (.agg [s, ii T.gen]) T := hR.move G19.size (λ c _ hc => G19.get c hc) λ c hc hl => by rw [hA']; exact .inl ⟨hc, hl⟩
 have hA : ∀ c, h19.size <= c -> A' c := λ c hc => by rw [hA']; exact .inr hc
 have back : ∀ c, A' c -> A c := λ c hc => by rw [hA'] at hc; exact hc.elim (·.1) λ x => hA0 c (by omega)
 have n6 : ¬ A' h4.size := λ x => by rw [hA'] at x; rcases x with ⟨_, x⟩ | x <;> omega
 have n17 : ¬ A' h9.size := λ x => by rw [hA'] at x; rcases x with ⟨_, x⟩ | x <;> omega
 have fx : ∀ q, aI q (.ptr h2.size 0) = some (.ptr h2.size q) := λ q => by rw [aJ, Nat.zero_add]
 have rd0 : aF h19.get (.ptr h2.size 0) = some (.int .i64 o.kind) := q4.read rfl; have rd1 : aF h19.get (.ptr h2.size 1) = some (.int .i64 o.at_) := q4.read rfl; have rd2 : aF h19.get (.ptr h2.size 2) = some (.int .i64 o.n) := q4.read rfl; have rd3 : aF h19.get (.ptr h2.size 3) = some (.str o.path) := q4.read rfl; have rd4 : aF h19.get (.ptr h2.size 4) = some (.str o.other) := q4.read rfl; have rd5 : aF h19.get (.ptr h2.size 5) = some (.str o.text) := q4.read rfl; show ∃ v' h', aVp E (.agg [s, ii T.gen]) (.agg (kD o)) h = _ /\ _; unfold aVp iG; rw [nbx eh2 rfl, nbx eh4 rfl, bG, <- eh6, (o4.grown g6).all (n := 6) rfl, aA, b8, f9, aB, bC, aA]; by_cases e0 : gZ o = 0
 · obtain ⟨hk1, hk11, hpl0, hol0, htl0⟩ := aZs e0; have hpl : o.path.length < 140737488355328 := by omega
   have hol : o.other.length < 140737488355328 := by omega
   have dec : (!decide (gZ o = 0)) = false := by rw [e0]; rfl
   rw [dec, aC, if_pos e0, q29.all (n := 2) rfl, aA, bG, <- eh17, f19_, aB, fx, aA, rd0, aA]; rw [hH, aA]; by_cases c1 : o.kind = 1
   · obtain ⟨B0, b0, s0⟩ := D.md.call; obtain ⟨v', h27, f27, r27, g27⟩ := s0 A' _ T k o.path 2 h19 r19 hI hk okp hpl hA; have eo : uN T o = mkT T o.path 2 := by unfold uN; rw [if_pos c1]
     rw [show (o.kind == Int.ofNat 1) = true from by rw [beq_iff_eq]; exact c1, aD, if_pos (show o.kind <= 8 by omega), eo, q2.all (n := 2) rfl, aA, fx, aA, rd3, aA, b0, f27, aB, aL, aA, aK, aA]
     obtain ⟨h', y1, y2, y3⟩ := rO (E := E) (A := A) (e := (mkT T o.path 2).2) r27 (G19.trans g27) (q6.grown g27) rfl (o19.grown g27) rfl (by omega) n6 n17 (by omega) (by omega) back
     exact ⟨v', h', y1, y2, y3⟩
   rw [show (o.kind == Int.ofNat 1) = false from by rw [beq_eq_false_iff_ne]; exact c1, aC]
   rw [hH, aA]; by_cases c2 : o.kind = 2
   · obtain ⟨B0, b0, s0⟩ := D.md.call; obtain ⟨v', h27, f27, r27, g27⟩ := s0 A' _ T k o.path 1 h19 r19 hI hk okp hpl hA; have eo : uN T o = mkT T o.path 1 := by unfold uN; rw [if_neg c1, if_pos c2]
     rw [show (o.kind == Int.ofNat 2) = true from by rw [beq_iff_eq]; exact c2, aD, if_pos (show o.kind <= 8 by omega), eo, q2.all (n := 2) rfl, aA, fx, aA, rd3, aA, b0, f27, aB, aL, aA, aK, aA]
     obtain ⟨h', y1, y2, y3⟩ := rO (E := E) (A := A) (e := (mkT T o.path 1).2) r27 (G19.trans g27) (q6.grown g27) rfl (o19.grown g27) rfl (by omega) n6 n17 (by omega) (by omega) back
     exact ⟨v', h', y1, y2, y3⟩
   rw [show (o.kind == Int.ofNat 2) = false from by rw [beq_eq_false_iff_ne]; exact c2, aC]
   rw [hH, aA]; by_cases c3 : o.kind = 3
   · obtain ⟨B0, b0, s0⟩ := D.un.call; obtain ⟨v', h27, f27, r27, g27⟩ := s0 A' _ T k o.path h19 r19 hI hk hpl hA; have eo : uN T o = iL T o.path := by unfold uN; rw [if_neg c1, if_neg c2, if_pos c3]
     rw [show (o.kind == Int.ofNat 3) = true from by rw [beq_iff_eq]; exact c3, aD, if_pos (show o.kind <= 8 by omega), eo, q2.all (n := 2) rfl, aA, fx, aA, rd3, aA, b0, f27, aB, aL, aA, aK, aA]
     obtain ⟨h', y1, y2, y3⟩ := rO (E := E) (A := A) (e := (iL T o.path).2) r27 (G19.trans g27) (q6.grown g27) rfl (o19.grown g27) rfl (by omega) n6 n17 (by omega) (by omega) back
     exact ⟨v', h', y1, y2, y3⟩
   rw [show (o.kind == Int.ofNat 3) = false from by rw [beq_eq_false_iff_ne]; exact c3, aC]
   rw [hH, aA]; by_cases c4 : o.kind = 4
   · obtain ⟨B0, b0, s0⟩ := D.rm.call; obtain ⟨v', h27, f27, r27, g27⟩ := s0 A' _ T k o.path h19 r19 hI hk hpl hA; have eo : uN T o = kR T o.path := by unfold uN; rw [if_neg c1, if_neg c2, if_neg c3, if_pos c4]
     rw [show (o.kind == Int.ofNat 4) = true from by rw [beq_iff_eq]; exact c4, aD, if_pos (show o.kind <= 8 by omega), eo, q2.all (n := 2) rfl, aA, fx, aA, rd3, aA, b0, f27, aB, aL, aA, aK, aA]
     obtain ⟨h', y1, y2, y3⟩ := rO (E := E) (A := A) (e := (kR T o.path).2) r27 (G19.trans g27) (q6.grown g27) rfl (o19.grown g27) rfl (by omega) n6 n17 (by omega) (by omega) back
     exact ⟨v', h', y1, y2, y3⟩
   rw [show (o.kind == Int.ofNat 4) = false from by rw [beq_eq_false_iff_ne]; exact c4, aC]
   rw [hH, aA]; by_cases c5 : o.kind = 5
   · obtain ⟨B0, b0, s0⟩ := D.rn.call; obtain ⟨v', h27, f27, r27, g27⟩ := s0 A' _ T k o.path o.other h19 r19 hI hk hpl hol oko hA; have eo : uN T o = iS T o.path o.other := by unfold uN; rw [if_neg c1, if_neg c2, if_neg c3, if_neg c4, if_pos c5]
     rw [show (o.kind == Int.ofNat 5) = true from by rw [beq_iff_eq]; exact c5, aD, if_pos (show o.kind <= 8 by omega), eo, q2.all (n := 2) rfl, aA, fx, aA, rd3, aA, fx, aA, rd4, aA, b0, f27, aB, aL, aA, aK, aA]
     obtain ⟨h', y1, y2, y3⟩ := rO (E := E) (A := A) (e := (iS T o.path o.other).2) r27 (G19.trans g27) (q6.grown g27) rfl (o19.grown g27) rfl (by omega) n6 n17 (by omega) (by omega) back
     exact ⟨v', h', y1, y2, y3⟩
   rw [show (o.kind == Int.ofNat 5) = false from by rw [beq_eq_false_iff_ne]; exact c5, aC]
   rw [hH, aA]; by_cases c6 : o.kind = 6
   · obtain ⟨B0, b0, s0⟩ := D.ln.call; obtain ⟨v', h27, f27, r27, g27⟩ := s0 A' _ T k o.path o.other h19 r19 hI hk hpl hol oko hA; have eo : uN T o = oS T o.path o.other := by unfold uN; rw [if_neg c1, if_neg c2, if_neg c3, if_neg c4, if_neg c5, if_pos c6]
     rw [show (o.kind == Int.ofNat 6) = true from by rw [beq_iff_eq]; exact c6, aD, if_pos (show o.kind <= 8 by omega), eo, q2.all (n := 2) rfl, aA, fx, aA, rd3, aA, fx, aA, rd4, aA, b0, f27, aB, aL, aA, aK, aA]
     obtain ⟨h', y1, y2, y3⟩ := rO (E := E) (A := A) (e := (oS T o.path o.other).2) r27 (G19.trans g27) (q6.grown g27) rfl (o19.grown g27) rfl (by omega) n6 n17 (by omega) (by omega) back
     exact ⟨v', h', y1, y2, y3⟩
   rw [show (o.kind == Int.ofNat 6) = false from by rw [beq_eq_false_iff_ne]; exact c6, aC]
   rw [hH, aA]; by_cases c7 : o.kind = 7
   · obtain ⟨B0, b0, s0⟩ := D.wr.call; obtain ⟨v', h27, f27, r27, g27⟩ := s0 A' _ T k o.path o.at_ o.text h19 r19 hI hk hpl okt ha0 hA; have eo : uN T o = kK T o.path o.at_ o.text := by unfold uN; rw [if_neg c1, if_neg c2, if_neg c3, if_neg c4, if_neg c5, if_neg c6, if_pos c7]
     rw [show (o.kind == Int.ofNat 7) = true from by rw [beq_iff_eq]; exact c7, aD, if_pos (show o.kind <= 8 by omega), eo, q2.all (n := 2) rfl, aA, fx, aA, rd3, aA, fx, aA, rd1, aA, fx, aA, rd5, aA, b0, f27, aB, aL, aA, aK, aA]
     obtain ⟨h', y1, y2, y3⟩ := rO (E := E) (A := A) (e := (kK T o.path o.at_ o.text).2) r27 (G19.trans g27) (q6.grown g27) rfl (o19.grown g27) rfl (by omega) n6 n17 (by omega) (by omega) back
     exact ⟨v', h', y1, y2, y3⟩
   rw [show (o.kind == Int.ofNat 7) = false from by rw [beq_eq_false_iff_ne]; exact c7, aC]
   rw [hH, aA]; by_cases c8 : o.kind = 8
   · obtain ⟨B0, b0, s0⟩ := D.tr.call; obtain ⟨v', h27, f27, r27, g27⟩ := s0 A' _ T k o.path o.n h19 r19 hI hk hpl hn0 hA; have eo : uN T o = kN T o.path o.n := by unfold uN; rw [if_neg c1, if_neg c2, if_neg c3, if_neg c4, if_neg c5, if_neg c6, if_neg c7, if_pos c8]
     rw [show (o.kind == Int.ofNat 8) = true from by rw [beq_iff_eq]; exact c8, aD, if_pos (show o.kind <= 8 by omega), eo, q2.all (n := 2) rfl, aA, fx, aA, rd3, aA, fx, aA, rd2, aA, b0, f27, aB, aL, aA, aK, aA]
     obtain ⟨h', y1, y2, y3⟩ := rO (E := E) (A := A) (e := (kN T o.path o.n).2) r27 (G19.trans g27) (q6.grown g27) rfl (o19.grown g27) rfl (by omega) n6 n17 (by omega) (by omega) back
     exact ⟨v', h', y1, y2, y3⟩
   rw [show (o.kind == Int.ofNat 8) = false from by rw [beq_eq_false_iff_ne]; exact c8, aC]
   obtain ⟨h115, f115, g115⟩ := s9 A' _ T k o h19 r19 hI hk256 hok hpl; obtain ⟨h120, f120, o120, k120⟩ := (q6.grown g115).setAll (n := 2) (cs := [s, ii T.gen]) rfl rfl one2; rw [if_neg (show ¬ o.kind <= 8 by omega)]
   refine ⟨_, h120, ?_, (r19.grown g115).move (Nat.le_of_eq k120.size.symm) (λ c hc _ => k120.get c λ e => n6 (e ▸ hc)) (λ c hc _ => back c hc), k120.grown (G19.trans g115) (by omega)⟩
   rw [q2.all (n := 2) rfl, aA, q4.all (n := 6) rfl, aA, b9, f115, aB, aL, aA, aK, aA, (q2.grown g115).all (n := 2) rfl, aA, f120, aB, o120.all (n := 2) rfl, aA]
 · have dec : (!decide (gZ o = 0)) = true := by simp [e0]
   obtain ⟨h13, f13, o13, k13⟩ := (o6.grown g9).setAll (n := 2) (cs := [s, ii T.gen]) rfl rfl one2; obtain ⟨A2, hA2⟩ : ∃ A2 : Nat -> Prop, A2 = λ c => A c /\ c < h.size := ⟨_, rfl⟩
   have r9 : eF A2 h9 (.agg [s, ii T.gen]) T := hR.move G9.size (λ c _ hc => G9.get c hc) λ c hc hl => by rw [hA2]; exact ⟨hc, hl⟩
   rw [if_neg e0]; refine ⟨_, h13, ?_, r9.move (Nat.le_of_eq k13.size.symm) (λ c hc _ => k13.get c λ e => by rw [hA2] at hc; have := hc.2; omega) (λ c hc _ => by rw [hA2] at hc; exact hc.1), k13.grown G9 (by omega)⟩
   rw [dec, aD, q29.all (n := 2) rfl, aA, f13, aB, o13.all (n := 2) rfl, aA]
def aZf (t b b2 : Nat) (o : lV) : DV :=
 if o.kind = 1 then .ifc 102 (.agg [.fn (.func 40) [.ptr t 0] [], .str o.path]) else
 if o.kind = 2 then .ifc 102 (.agg [.fn (.func 41) [.ptr t 0] [], .str o.path]) else
 if o.kind = 3 then .ifc 102 (.agg [.fn (.func 42) [.ptr t 0] [], .str o.path]) else
 if o.kind = 4 then .ifc 102 (.agg [.fn (.func 43) [.ptr t 0] [], .str o.path]) else
 if o.kind = 5 then .ifc 104 (.agg [.fn (.func 44) [.ptr t 0] [], .str o.path, .str o.other]) else
 if o.kind = 6 then .ifc 104 (.agg [.fn (.func 45) [.ptr t 0] [], .str o.path, .str o.other]) else
 if o.kind = 7 then .ifc 106 (.agg [.fn (.func 113) [] [.ptr b 0, .ptr b2 0]]) else
 if o.kind = 8 then .ifc 106 (.agg [.fn (.func 114) [] [.ptr b 0, .ptr b2 0]]) else
 if o.kind = 9 then .ifc 109 (.agg [.fn (.func 115) [] [.ptr b 0, .ptr b2 0]]) else
 if o.kind = 10 then .ifc 109 (.agg [.fn (.func 116) [] [.ptr b 0, .ptr b2 0]]) else
 .ifc 109 (.agg [.fn (.func 118) [] [.ptr b 0, .ptr b2 0]])
def aGu (B : cF) : Prop := ∀ (t : Nat) (o : lV) (h : H), ∃ h4 b b2, B [.ptr t 0, .agg (kD o)] h = some (aZf t b b2 o, h4) /\ aH h h4 /\ aX h4 b [.ptr t 0] /\ aX h4 b2 (kD o)
theorem sJ {a : Int} {n : Nat} {x y : aV} (h : a = Int.ofNat n) : bK (.bool (a == Int.ofNat n)) x y = x := by
 rw [show (a == Int.ofNat n) = true from by rw [beq_iff_eq]; exact h, aD]
theorem sI {a : Int} {n : Nat} {x y : aV} (h : ¬ a = Int.ofNat n) : bK (.bool (a == Int.ofNat n)) x y = y := by
 rw [show (a == Int.ofNat n) = false from by rw [beq_eq_false_iff_ne]; exact h, aC]
theorem aWE {E : bJ} : aGu (S64 E) := by
 intro t o h; obtain ⟨h2, eh2, g2, o2⟩ := aO h 1 1 [.ptr t 0] rfl; obtain ⟨h4, eh4, g4, o4⟩ := aO h2 6 6 (kD o) rfl; refine ⟨h4, h.size, h2.size, ?_, g2.trans g4, o2.grown g4, o4⟩; have fx : ∀ q, aI q (.ptr h2.size 0) = some (.ptr h2.size q) := λ q => by rw [aJ, Nat.zero_add]
 have rt : aF h4.get (.ptr h.size 0) = some (.ptr t 0) := (o2.grown g4).read rfl; have rd0 : aF h4.get (.ptr h2.size 0) = some (.int .i64 o.kind) := o4.read rfl; have rd3 : aF h4.get (.ptr h2.size 3) = some (.str o.path) := o4.read rfl; have rd4 : aF h4.get (.ptr h2.size 4) = some (.str o.other) := o4.read rfl; show aUI E (.ptr t 0) (.agg (kD o)) h = _; unfold aUI aZf; rw [pT rfl, <- eh2, nbx eh4 rfl]; simp only [fx, rt, rd0, rd3, rd4, hH, aA]; by_cases c1 : o.kind = 1
 · rw [sJ (n := 1) c1, if_pos c1]; rfl
 rw [sI (n := 1) c1, if_neg c1]; by_cases c2 : o.kind = 2
 · rw [sJ (n := 2) c2, if_pos c2]; rfl
 rw [sI (n := 2) c2, if_neg c2]; by_cases c3 : o.kind = 3
 · rw [sJ (n := 3) c3, if_pos c3]; rfl
 rw [sI (n := 3) c3, if_neg c3]; by_cases c4 : o.kind = 4
 · rw [sJ (n := 4) c4, if_pos c4]; rfl
 rw [sI (n := 4) c4, if_neg c4]; by_cases c5 : o.kind = 5
 · rw [sJ (n := 5) c5, if_pos c5]; rfl
 rw [sI (n := 5) c5, if_neg c5]; by_cases c6 : o.kind = 6
 · rw [sJ (n := 6) c6, if_pos c6]; rfl
 rw [sI (n := 6) c6, if_neg c6]; by_cases c7 : o.kind = 7
 · rw [sJ (n := 7) c7, if_pos c7]; rfl
 rw [sI (n := 7) c7, if_neg c7]; by_cases c8 : o.kind = 8
 · rw [sJ (n := 8) c8, if_pos c8]; rfl
 rw [sI (n := 8) c8, if_neg c8]; by_cases c9 : o.kind = 9
 · rw [sJ (n := 9) c9, if_pos c9]; rfl
 rw [sI (n := 9) c9, if_neg c9]; by_cases c10 : o.kind = 10
 · rw [sJ (n := 10) c10, if_pos c10]; rfl
 rw [sI (n := 10) c10, if_neg c10]
 rfl
theorem aKi {E : bJ} (g t : Nat) (p : Ln) (K : DV -> H -> aV) (h10 : H) : ∃ h', aH h10 h' /\ (dP 2 2 (.list [.nilf, (.str [])]) h10 λ x14 h15 => wK (bY 2 x14 (.agg [.fn (.func g) [.ptr t 0] [], .str p]) h15) λ x16 h17 => vK (aI 0 x14) λ x18 => vK (aF h17.get x18) λ x19 => vK (aI 1 x14) λ x20 => vK (aF h17.get x20) λ x21 => wK (kZ E x19 [x21] h17) K) = wK (aE E g [.ptr t 0, .str p] h') K := by
 obtain ⟨h15, e15, g15, o15⟩ := aO h10 2 2 [.nilf, (.str [])] rfl; obtain ⟨h17, f17, o17, k17⟩ := o15.setAll (n := 2) (cs := [.fn (.func g) [.ptr t 0] [], .str p]) rfl rfl rfl; have fx : ∀ q, aI q (.ptr h10.size 0) = some (.ptr h10.size q) := λ q => by rw [aJ, Nat.zero_add]
 refine ⟨h17, k17.grown g15 (Nat.le_refl _), ?_⟩; rw [bG, <- e15, f17, aB, fx, aA, o17.read (j := 0) rfl, aA, fx, aA, o17.read (j := 1) rfl, aA]; rfl
theorem aZg {E : bJ} (g t : Nat) (p q : Ln) (K : DV -> H -> aV) (h10 : H) : ∃ h', aH h10 h' /\ (dP 3 3 (.list [.nilf, (.str []), (.str [])]) h10 λ x14 h15 => wK (bY 3 x14 (.agg [.fn (.func g) [.ptr t 0] [], .str p, .str q]) h15) λ x16 h17 => vK (aI 0 x14) λ x18 => vK (aF h17.get x18) λ x19 => vK (aI 1 x14) λ x20 => vK (aF h17.get x20) λ x21 => vK (aI 2 x14) λ x35 => vK (aF h17.get x35) λ x36 => wK (kZ E x19 [x21, x36] h17) K) = wK (aE E g [.ptr t 0, .str p, .str q] h') K := by
 obtain ⟨h15, e15, g15, o15⟩ := aO h10 3 3 [.nilf, (.str []), (.str [])] rfl; obtain ⟨h17, f17, o17, k17⟩ := o15.setAll (n := 3) (cs := [.fn (.func g) [.ptr t 0] [], .str p, .str q]) rfl rfl rfl; have fx : ∀ q, aI q (.ptr h10.size 0) = some (.ptr h10.size q) := λ q => by rw [aJ, Nat.zero_add]
 refine ⟨h17, k17.grown g15 (Nat.le_refl _), ?_⟩; rw [bG, <- e15, f17, aB, fx, aA, o17.read (j := 0) rfl, aA, fx, aA, o17.read (j := 1) rfl, aA, fx, aA, o17.read (j := 2) rfl, aA]; rfl
theorem aBy {E : bJ} (g b b2 : Nat) (K : DV -> H -> aV) (h10 : H) : ∃ h', aH h10 h' /\ (dP 1 1 (.list [.nilf]) h10 λ x14 h15 => wK (bY 1 x14 (.agg [.fn (.func g) [] [.ptr b 0, .ptr b2 0]]) h15) λ x16 h17 => vK (aI 0 x14) λ x18 => vK (aF h17.get x18) λ x19 => wK (kZ E x19 [] h17) K) = wK (aE E g [.ptr b 0, .ptr b2 0] h') K := by
 obtain ⟨h15, e15, g15, o15⟩ := aO h10 1 1 [.nilf] rfl; obtain ⟨h17, f17, o17, k17⟩ := o15.setAll (n := 1) (cs := [.fn (.func g) [] [.ptr b 0, .ptr b2 0]]) rfl rfl rfl; have fx : ∀ q, aI q (.ptr h10.size 0) = some (.ptr h10.size q) := λ q => by rw [aJ, Nat.zero_add]
 refine ⟨h17, k17.grown g15 (Nat.le_refl _), ?_⟩; rw [bG, <- e15, f17, aB, fx, aA, o17.read (j := 0) rfl, aA]; rfl
theorem vU {t : Nat} {z v : DV} : nF t z true (.ifc t v) = some (.tup [v, .bool true]) := by simp [nF]
theorem qA {t u : Nat} {z v : DV} (h : Nat.beq u t = false) : nF t z true (.ifc u v) = some (.tup [z, .bool false]) := by simp [nF, h]
def jP (f : TreeP -> lV -> TreeP × DV) (B : cF) : Prop := ∀ (t : Nat) (T : TreeP) (C : List DV) (FN : Nat -> Ln) (k : Nat) (o : lV) (b b2 : Nat) (h : H), cY h t T C FN -> Inv k T -> k <= 256 -> o.ok -> o.path.length < 140737488355328 -> aX h b [.ptr t 0] -> aX h b2 (kD o) ->
 ∃ h' C' FN', B [.ptr b 0, .ptr b2 0] h = some ((f T o).2, h') /\ cY h' t (f T o).1 C' FN' /\ jY t h FN h' FN'
def bHn (T : TreeP) (o : lV) : TreeP × DV := ((kK T o.path o.at_ o.text).1, ii ((kK T o.path o.at_ o.text).2))
def bHm (T : TreeP) (o : lV) : TreeP × DV := ((kN T o.path o.n).1, ii ((kN T o.path o.n).2))
def bDd (T : TreeP) (o : lV) : TreeP × DV := (T, .tup [ii ((vE T o.path o.at_ o.n).2), .str (vE T o.path o.at_ o.n).1])
def bDc (T : TreeP) (o : lV) : TreeP × DV := (T, .tup [ii ((aRt T o.path).1), .str (aRt T o.path).2])
def bDb (T : TreeP) (o : lV) : TreeP × DV := (T, .tup [ii ((aRu T o.path).1), .str (aRu T o.path).2])
theorem aWX {E : bJ} (hF : bL E 46 uX) : jP bHn (bAA E) := by
 obtain ⟨B0, b0, s0⟩ := hF.call; intro t T C FN k o b b2 h hT hI hk hok hpl p q; obtain ⟨hk0, ha0, hn0, okp, oko, okt⟩ := id hok; have fx : ∀ q, aI q (.ptr b2 0) = some (.ptr b2 q) := λ q => by rw [aJ, Nat.zero_add]
 obtain ⟨h', C', FN', y1, y2, y3⟩ := s0 t T C FN k o.path o.at_ o.text h hT hI (by omega) hpl okt ha0
 refine ⟨h', C', FN', ?_, y2, y3⟩; show aLI E (.ptr b 0) (.ptr b2 0) h = _; unfold aLI; rw [p.read (j := 0) rfl, aA, fx, aA, q.read (j := 3) rfl, aA, fx, aA, q.read (j := 1) rfl, aA, fx, aA, q.read (j := 5) rfl, aA, b0, y1, aB]; rfl
theorem aWW {E : bJ} (hF : bL E 47 uY) : jP bHm (bAz E) := by
 obtain ⟨B0, b0, s0⟩ := hF.call; intro t T C FN k o b b2 h hT hI hk hok hpl p q; obtain ⟨hk0, ha0, hn0, okp, oko, okt⟩ := id hok; have fx : ∀ q, aI q (.ptr b2 0) = some (.ptr b2 q) := λ q => by rw [aJ, Nat.zero_add]
 obtain ⟨h', C', FN', y1, y2, y3⟩ := s0 t T C FN k o.path o.n h hT hI (by omega) hpl hn0
 refine ⟨h', C', FN', ?_, y2, y3⟩; show aLH E (.ptr b 0) (.ptr b2 0) h = _; unfold aLH; rw [p.read (j := 0) rfl, aA, fx, aA, q.read (j := 3) rfl, aA, fx, aA, q.read (j := 2) rfl, aA, b0, y1, aB]; rfl
theorem aWV {E : bJ} (hF : bL E 33 aCD) : jP bDd (bAy E) := by
 obtain ⟨B0, b0, s0⟩ := hF.call; intro t T C FN k o b b2 h hT hI hk hok hpl p q; obtain ⟨hk0, ha0, hn0, okp, oko, okt⟩ := id hok; have fx : ∀ q, aI q (.ptr b2 0) = some (.ptr b2 q) := λ q => by rw [aJ, Nat.zero_add]
 obtain ⟨h', y1, g⟩ := s0 t T C FN k o.path o.at_ o.n h hT hI (by omega) hpl ha0 hn0
 refine ⟨h', C, FN, ?_, hT.grown g, .grown g⟩; show aLG E (.ptr b 0) (.ptr b2 0) h = _; unfold aLG; rw [p.read (j := 0) rfl, aA, fx, aA, q.read (j := 3) rfl, aA, fx, aA, q.read (j := 1) rfl, aA, fx, aA, q.read (j := 2) rfl, aA, b0, y1, aB, aL, aA, aK, aA]; rfl
theorem aWU {E : bJ} (hF : bL E 117 (zE aRt)) : jP bDc (bAx E) := by
 obtain ⟨B0, b0, s0⟩ := hF.call; intro t T C FN k o b b2 h hT hI hk hok hpl p q; obtain ⟨hk0, ha0, hn0, okp, oko, okt⟩ := id hok; have fx : ∀ q, aI q (.ptr b2 0) = some (.ptr b2 q) := λ q => by rw [aJ, Nat.zero_add]
 obtain ⟨h', y1, g⟩ := s0 t T C FN k o.path h hT hI hk hpl; refine ⟨h', C, FN, ?_, hT.grown g, .grown g⟩; show aLF E (.ptr b 0) (.ptr b2 0) h = _; unfold aLF; rw [p.read (j := 0) rfl, aA, fx, aA, q.read (j := 3) rfl, aA, b0, y1, aB, aL, aA, aK, aA]; rfl
theorem aWT {E : bJ} (hF : bL E 119 (zE aRu)) : jP bDb (bAv E) := by
 obtain ⟨B0, b0, s0⟩ := hF.call; intro t T C FN k o b b2 h hT hI hk hok hpl p q; obtain ⟨hk0, ha0, hn0, okp, oko, okt⟩ := id hok; have fx : ∀ q, aI q (.ptr b2 0) = some (.ptr b2 q) := λ q => by rw [aJ, Nat.zero_add]
 obtain ⟨h', y1, g⟩ := s0 t T C FN k o.path h hT hI hk hpl; refine ⟨h', C, FN, ?_, hT.grown g, .grown g⟩; show aLC E (.ptr b 0) (.ptr b2 0) h = _; unfold aLC; rw [p.read (j := 0) rfl, aA, fx, aA, q.read (j := 3) rfl, aA, b0, y1, aB, aL, aA, aK, aA]; rfl
structure bBB (E : bJ) : Prop where
 A : bL E 113 (jP bHn)
 B : bL E 114 (jP bHm)
 C : bL E 115 (jP bDd)
 D : bL E 116 (jP bDc)
 E : bL E 118 (jP bDb)
def aBN (B : cF) : Prop := ∀ (t : Nat) (T : TreeP) (C : List DV) (FN : Nat -> Ln) (k : Nat) (o : lV) (h : H), cY h t T C FN -> Inv k T -> k <= 256 -> o.ok ->
 ∃ h' C' FN', B [.ptr t 0, .agg (kD o)] h = some (.tup [ii ((iG T o).2.1), .str (iG T o).2.2], h') /\ cY h' t (iG T o).1 C' FN' /\ jY t h FN h' FN'
theorem aWH {E : bJ} (Q : aUb E) (R : bBB E) (hC : bL E 17 rX) (hD : bL E 64 aGu) : aBN (S19 E) := by
 obtain ⟨B8, b8, s8⟩ := hC.call; obtain ⟨B9, b9, s9⟩ := hD.call; intro t T C FN k o h hT hI hk256 hok; have hk : k < 900 := by omega
 obtain ⟨hk0, ha0, hn0, okp, oko, okt⟩ := id hok; obtain ⟨h2, eh2, g2, o2⟩ := aO h 6 6 (kD o) rfl; obtain ⟨h6, f6, g6⟩ := s8 o h2; have G6 := g2.trans g6; show ∃ h' C' FN', aVs E (.ptr t 0) (.agg (kD o)) h = _ /\ _; unfold aVs iG; rw [nbx eh2 rfl, cO, aA, aC, o2.all (n := 6) rfl, aA, b8, f6, aB, bC, aA]; by_cases e0 : gZ o = 0
 · obtain ⟨hk1, hk11, hpl0, hol0, htl0⟩ := aZs e0; have hpl : o.path.length < 140737488355328 := by omega
   have hol : o.other.length < 140737488355328 := by omega
   have dec : (!decide (gZ o = 0)) = false := by rw [e0]; rfl
   obtain ⟨h10, b, b2, f10, g10, ob, ob2⟩ := s9 t o h6; rw [dec, aC, if_pos e0, (o2.grown g6).all (n := 6) rfl, aA, b9, f10, aB]; have G10 := G6.trans g10; have t10 := hT.grown G10; have fin : ∀ {hh h' : H} {FN' : Nat -> Ln}, aH h10 hh -> jY t hh FN h' FN' -> jY t h FN h' FN' := λ g s => (jY.grown (G10.trans g)).trans s
   unfold aZf; by_cases c1 : o.kind = 1
   · obtain ⟨B0, b0, s0⟩ := Q.md.call; obtain ⟨hh, gg, e⟩ := aKi (E := E) 40 t o.path (λ x22 h23 => some ((.tup [x22, (.str [])]), h23)) h10
     obtain ⟨h', C', FN', y1, y2, y3⟩ := s0 t T C FN k o.path hh (t10.grown gg) hI hk okp hpl; have eo : uN T o = mkT T o.path 2 := by unfold uN; rw [if_pos c1]
     rw [if_pos c1, if_pos (show o.kind <= 8 by omega), eo, vU, aA, aK, aA, aL, aA, aD, e, b0, y1, aB]
     exact ⟨h', C', FN', rfl, y2, fin gg y3⟩
   by_cases c2 : o.kind = 2
   · obtain ⟨B0, b0, s0⟩ := Q.cr.call; obtain ⟨hh, gg, e⟩ := aKi (E := E) 41 t o.path (λ x22 h23 => some ((.tup [x22, (.str [])]), h23)) h10
     obtain ⟨h', C', FN', y1, y2, y3⟩ := s0 t T C FN k o.path hh (t10.grown gg) hI hk okp hpl; have eo : uN T o = mkT T o.path 1 := by unfold uN; rw [if_neg c1, if_pos c2]
     rw [if_neg c1, if_pos c2, if_pos (show o.kind <= 8 by omega), eo, vU, aA, aK, aA, aL, aA, aD, e, b0, y1, aB]
     exact ⟨h', C', FN', rfl, y2, fin gg y3⟩
   by_cases c3 : o.kind = 3
   · obtain ⟨B0, b0, s0⟩ := Q.un.call; obtain ⟨hh, gg, e⟩ := aKi (E := E) 42 t o.path (λ x22 h23 => some ((.tup [x22, (.str [])]), h23)) h10
     obtain ⟨h', C', FN', y1, y2, y3⟩ := s0 t T C FN k o.path hh (t10.grown gg) hI hk okp hpl; have eo : uN T o = iL T o.path := by unfold uN; rw [if_neg c1, if_neg c2, if_pos c3]
     rw [if_neg c1, if_neg c2, if_pos c3, if_pos (show o.kind <= 8 by omega), eo, vU, aA, aK, aA, aL, aA, aD, e, b0, y1, aB]
     exact ⟨h', C', FN', rfl, y2, fin gg y3⟩
   by_cases c4 : o.kind = 4
   · obtain ⟨B0, b0, s0⟩ := Q.rm.call; obtain ⟨hh, gg, e⟩ := aKi (E := E) 43 t o.path (λ x22 h23 => some ((.tup [x22, (.str [])]), h23)) h10
     obtain ⟨h', C', FN', y1, y2, y3⟩ := s0 t T C FN k o.path hh (t10.grown gg) hI hk okp hpl; have eo : uN T o = kR T o.path := by unfold uN; rw [if_neg c1, if_neg c2, if_neg c3, if_pos c4]
     rw [if_neg c1, if_neg c2, if_neg c3, if_pos c4, if_pos (show o.kind <= 8 by omega), eo, vU, aA, aK, aA, aL, aA, aD, e, b0, y1, aB]
     exact ⟨h', C', FN', rfl, y2, fin gg y3⟩
   by_cases c5 : o.kind = 5
   · obtain ⟨B0, b0, s0⟩ := Q.rn.call; obtain ⟨hh, gg, e⟩ := aZg (E := E) 44 t o.path o.other (λ x22 h23 => some ((.tup [x22, (.str [])]), h23)) h10
     obtain ⟨h', C', FN', y1, y2, y3⟩ := s0 t T C FN k o.path o.other hh (t10.grown gg) hI hk oko hpl hol; have eo : uN T o = iS T o.path o.other := by unfold uN; rw [if_neg c1, if_neg c2, if_neg c3, if_neg c4, if_pos c5]
     rw [if_neg c1, if_neg c2, if_neg c3, if_neg c4, if_pos c5, if_pos (show o.kind <= 8 by omega), eo, qA rfl, aA, aK, aA, aL, aA, aC, vU, aA, aK, aA, aL, aA, aD, e, b0, y1, aB]
     exact ⟨h', C', FN', rfl, y2, fin gg y3⟩
   by_cases c6 : o.kind = 6
   · obtain ⟨B0, b0, s0⟩ := Q.ln.call; obtain ⟨hh, gg, e⟩ := aZg (E := E) 45 t o.path o.other (λ x22 h23 => some ((.tup [x22, (.str [])]), h23)) h10
     obtain ⟨h', C', FN', y1, y2, y3⟩ := s0 t T C FN k o.path o.other hh (t10.grown gg) hI hk oko hpl hol; have eo : uN T o = oS T o.path o.other := by unfold uN; rw [if_neg c1, if_neg c2, if_neg c3, if_neg c4, if_neg c5, if_pos c6]
     rw [if_neg c1, if_neg c2, if_neg c3, if_neg c4, if_neg c5, if_pos c6, if_pos (show o.kind <= 8 by omega), eo, qA rfl, aA, aK, aA, aL, aA, aC, vU, aA, aK, aA, aL, aA, aD, e, b0, y1, aB]
     exact ⟨h', C', FN', rfl, y2, fin gg y3⟩
   by_cases c7 : o.kind = 7
   · obtain ⟨B0, b0, s0⟩ := R.A.call; obtain ⟨hh, gg, e⟩ := aBy (E := E) 113 b b2 (λ x48 h49 => some ((.tup [x48, (.str [])]), h49)) h10
     obtain ⟨h', C', FN', y1, y2, y3⟩ := s0 t T C FN k o b b2 hh (t10.grown gg) hI hk256 hok hpl (ob.grown gg) (ob2.grown gg); have eo : uN T o = kK T o.path o.at_ o.text := by unfold uN; rw [if_neg c1, if_neg c2, if_neg c3, if_neg c4, if_neg c5, if_neg c6, if_pos c7]
     rw [if_neg c1, if_neg c2, if_neg c3, if_neg c4, if_neg c5, if_neg c6, if_pos c7, if_pos (show o.kind <= 8 by omega), eo, qA rfl, aA, aK, aA, aL, aA, aC, qA rfl, aA, aK, aA, aL, aA, aC, vU, aA, aK, aA, aL, aA, aD, e, b0, y1, aB]
     exact ⟨h', C', FN', rfl, y2, fin gg y3⟩
   by_cases c8 : o.kind = 8
   · obtain ⟨B0, b0, s0⟩ := R.B.call; obtain ⟨hh, gg, e⟩ := aBy (E := E) 114 b b2 (λ x48 h49 => some ((.tup [x48, (.str [])]), h49)) h10
     obtain ⟨h', C', FN', y1, y2, y3⟩ := s0 t T C FN k o b b2 hh (t10.grown gg) hI hk256 hok hpl (ob.grown gg) (ob2.grown gg); have eo : uN T o = kN T o.path o.n := by unfold uN; rw [if_neg c1, if_neg c2, if_neg c3, if_neg c4, if_neg c5, if_neg c6, if_neg c7, if_pos c8]
     rw [if_neg c1, if_neg c2, if_neg c3, if_neg c4, if_neg c5, if_neg c6, if_neg c7, if_pos c8, if_pos (show o.kind <= 8 by omega), eo, qA rfl, aA, aK, aA, aL, aA, aC, qA rfl, aA, aK, aA, aL, aA, aC, vU, aA, aK, aA, aL, aA, aD, e, b0, y1, aB]
     exact ⟨h', C', FN', rfl, y2, fin gg y3⟩
   by_cases c9 : o.kind = 9
   · obtain ⟨B0, b0, s0⟩ := R.C.call; obtain ⟨hh, gg, e⟩ := aBy (E := E) 115 b b2 (λ x59 h60 => vK (aG 0 x59) λ x61 => vK (aG 1 x59) λ x62 => some ((.tup [x61, x62]), h60)) h10
     obtain ⟨h', C', FN', y1, y2, y3⟩ := s0 t T C FN k o b b2 hh (t10.grown gg) hI hk256 hok hpl (ob.grown gg) (ob2.grown gg); have eo : aHJ T o = ((vE T o.path o.at_ o.n).2, (vE T o.path o.at_ o.n).1) := by unfold aHJ; rw [if_pos c9]
     rw [if_neg c1, if_neg c2, if_neg c3, if_neg c4, if_neg c5, if_neg c6, if_neg c7, if_neg c8, if_pos c9, if_neg (show ¬ o.kind <= 8 by omega), eo, qA rfl, aA, aK, aA, aL, aA, aC, qA rfl, aA, aK, aA, aL, aA, aC, qA rfl, aA, aK, aA, aL, aA, aC, vU, aA, aK, aA, aL, aA, aD, e, b0, y1, aB]
     unfold bDd; rw [aL, aA, aK, aA]; exact ⟨h', C', FN', rfl, y2, fin gg y3⟩
   by_cases c10 : o.kind = 10
   · obtain ⟨B0, b0, s0⟩ := R.D.call; obtain ⟨hh, gg, e⟩ := aBy (E := E) 116 b b2 (λ x59 h60 => vK (aG 0 x59) λ x61 => vK (aG 1 x59) λ x62 => some ((.tup [x61, x62]), h60)) h10
     obtain ⟨h', C', FN', y1, y2, y3⟩ := s0 t T C FN k o b b2 hh (t10.grown gg) hI hk256 hok hpl (ob.grown gg) (ob2.grown gg); have eo : aHJ T o = aRt T o.path := by unfold aHJ; rw [if_neg c9, if_pos c10]; rfl
     rw [if_neg c1, if_neg c2, if_neg c3, if_neg c4, if_neg c5, if_neg c6, if_neg c7, if_neg c8, if_neg c9, if_pos c10, if_neg (show ¬ o.kind <= 8 by omega), eo, qA rfl, aA, aK, aA, aL, aA, aC, qA rfl, aA, aK, aA, aL, aA, aC, qA rfl, aA, aK, aA, aL, aA, aC, vU, aA, aK, aA, aL, aA, aD, e, b0, y1, aB]
     unfold bDc; rw [aL, aA, aK, aA]; exact ⟨h', C', FN', rfl, y2, fin gg y3⟩
   obtain ⟨B0, b0, s0⟩ := R.E.call; obtain ⟨hh, gg, e⟩ := aBy (E := E) 118 b b2 (λ x59 h60 => vK (aG 0 x59) λ x61 => vK (aG 1 x59) λ x62 => some ((.tup [x61, x62]), h60)) h10
   obtain ⟨h', C', FN', y1, y2, y3⟩ := s0 t T C FN k o b b2 hh (t10.grown gg) hI hk256 hok hpl (ob.grown gg) (ob2.grown gg); have eo : aHJ T o = aRu T o.path := by unfold aHJ; rw [if_neg c9, if_neg c10]; rfl
   rw [if_neg c1, if_neg c2, if_neg c3, if_neg c4, if_neg c5, if_neg c6, if_neg c7, if_neg c8, if_neg c9, if_neg c10, if_neg (show ¬ o.kind <= 8 by omega), eo, qA rfl, aA, aK, aA, aL, aA, aC, qA rfl, aA, aK, aA, aL, aA, aC, qA rfl, aA, aK, aA, aL, aA, aC, vU, aA, aK, aA, aL, aA, aD, e, b0, y1, aB]
   unfold bDb; rw [aL, aA, aK, aA]; exact ⟨h', C', FN', rfl, y2, fin gg y3⟩
 · have dec : (!decide (gZ o = 0)) = true := by simp [e0]
   rw [dec, aD, if_neg e0]; exact ⟨h6, C, FN, rfl, hT.grown G6, .grown G6⟩
theorem aFK {k : Nat} {T : TreeP} {o : lV} (h : Inv k T) (ho : o.ok) : Inv (k + 1) (iG T o).1 := by
 unfold iG; split
 · split
   · exact bCi h ho
   · exact h.mono (Nat.le_succ _)
 · exact h.mono (Nat.le_succ _)
def bFR : bJ := oC 12 aGr aKt
def LD (m : Nat) : bJ := SE bFR table m
theorem bHq (m : Nat) : bL (LD (m + 1)) 140 aEv := ⟨xO, by kernel_rfl, λ s t a h h1 h2 h3 h4 => aIW h1 h2 h3 h4 h⟩
theorem bGq (m : Nat) : bL (LD (m + 1)) 139 aEv := ⟨xO, by kernel_rfl, λ s t a h h1 h2 h3 h4 => aIW h1 h2 h3 h4 h⟩
theorem bHr (m : Nat) : bL (LD (m + 1)) 101 aUc := ⟨aIX, by kernel_rfl, λ s n h h1 h2 => aXg h1 h2 h⟩
theorem aXJ (m : Nat) : bL (LD (m + 1)) 131 aIL := ⟨nE, by kernel_rfl, λ n h h1 => aDX h1 h⟩
theorem bHg (m : Nat) : bL (LD (m + 1)) 147 aEx := ⟨tJ LI, by kernel_rfl, aNG LI⟩
theorem aDR (m : Nat) : bL (LD (m + 1)) 97 aEw := ⟨S97 (LD (m + 0)), by kernel_rfl, aWG  ⟩
theorem oP (m : Nat) : bL (LD (m + 1)) 48 nB := ⟨S48 (LD (m + 0)), by kernel_rfl, aWn  ⟩
theorem aAf (m : Nat) : bL (LD (m + 1)) 106 aBK := ⟨aRw (LD (m + 0)), by kernel_rfl, aYh  ⟩
theorem rD (m : Nat) : bL (LD (m + 4)) 50 lD := ⟨S50 (LD (m + 3)), by kernel_rfl, aVz (F := LD (m + 2)) (G := LD (m + 1)) (by kernel_rfl) (by kernel_rfl) (aAf m)⟩
theorem aPI (m : Nat) : bL (LD (m + 2)) 108 aKu := ⟨aRv (LD (m + 1)), by kernel_rfl, aXv  (aAf m)⟩
theorem tM (m : Nat) : bL (LD (m + 5)) 51 mO := ⟨S51 (LD (m + 4)), by kernel_rfl, aPx (F := LD (m + 3)) (G := LD (m + 2)) (by kernel_rfl) (by kernel_rfl) (aPI m)⟩
theorem mQ (m : Nat) : bL (LD (m + 1)) 52 jD := ⟨S52 (LD (m + 0)), by kernel_rfl, aPB  ⟩
theorem aKe (m : Nat) : bL (LD (m + 6)) 220 aDo := ⟨aZE (LD (m + 5)), by kernel_rfl, aRi  (oP (m + 4)) (rD (m + 1)) (tM m) (mQ (m + 4))⟩
theorem aAM (m : Nat) : bL (LD (m + 3)) 49 pU := ⟨S49 (LD (m + 2)), by kernel_rfl, aPC (F := LD (m + 1)) (G := LD (m + 0)) (by kernel_rfl) (by kernel_rfl)⟩
theorem aTu (m : Nat) : aGe (LD (m + 2)) where
 k1 f h := by rw [cN (show LD (m + 2) 221 = some (bDn (LD (m + 1))) by kernel_rfl)]; rfl
 k2 d h := by rw [cN (show LD (m + 2) 217 = some (aZH (LD (m + 1))) by kernel_rfl)]; exact aQZ d h
 s1 f l s h o := by rw [cN (show LD (m + 2) 222 = some (aZD (LD (m + 1))) by kernel_rfl)]; exact aRb f l s h o
 s2 d l h r := by
   obtain ⟨B, b, s⟩ := (aDR m).call; rw [cN (show LD (m + 2) 218 = some (aZG (LD (m + 1))) by kernel_rfl)]; exact aQY b s d l h r
theorem bCo (m : Nat) : aOQ (LD (m + 7)) where
 t1 f l s h o := by rw [cN (show LD (m + 7) 223 = some (aZC (LD (m + 6))) by kernel_rfl)]; exact aRa f l s h o
 t2 d l h r hl hok := by
   obtain ⟨B, b, s⟩ := (aKe m).call; rw [cN (show LD (m + 7) 219 = some (aZF (LD (m + 6))) by kernel_rfl)]; exact aQX b s d l h r hl hok
theorem aAp (m : Nat) : bL (LD (m + 1)) 17 rX := ⟨S17 (LD (m + 0)), by kernel_rfl, aOA  ⟩
theorem aNj (m : Nat) : bL (LD (m + 1)) 18 rX := ⟨S18 (LD (m + 0)), by kernel_rfl, aWf  ⟩
theorem uD (m : Nat) : bL (LD (m + 1)) 170 jZ := ⟨aZL (LD (m + 0)), by kernel_rfl, aQl  ⟩
theorem nT (m : Nat) : bL (LD (m + 2)) 154 jE := ⟨aZS (LD (m + 1)), by kernel_rfl, aMU  (uD m)⟩
theorem aBe (m : Nat) : bL (LD (m + 2)) 156 xJ := ⟨aZQ (LD (m + 1)), by kernel_rfl, aQr  (uD m)⟩
theorem aFb (m : Nat) : bL (LD (m + 3)) 150 aAB := ⟨aZW (LD (m + 2)), by kernel_rfl, aJx  (nT m) (aBe m)⟩
theorem uE (m : Nat) : bL (LD (m + 1)) 169 tF := ⟨aZM (LD (m + 0)), by kernel_rfl, aQt  ⟩
theorem aBd (m : Nat) : bL (LD (m + 2)) 151 tE := ⟨aZV (LD (m + 1)), by kernel_rfl, aQp  (uE m)⟩
theorem zZ (m : Nat) : bL (LD (m + 1)) 122 vB := ⟨bAr (LD (m + 0)), by kernel_rfl, aXX  ⟩
theorem iP (m : Nat) : bL (LD (m + 3)) 124 kE := ⟨bAp (LD (m + 2)), by kernel_rfl, aQa  (nT m) (aBd m) (zZ (m + 1))⟩
theorem oL (m : Nat) : bL (LD (m + 4)) 120 qX := ⟨bAt (LD (m + 3)), by kernel_rfl, aWa  (aFb m) (iP m)⟩
theorem sD (m : Nat) : bL (LD (m + 3)) 121 qW := ⟨bAs (LD (m + 2)), by kernel_rfl, aMS  (aBd m)⟩
theorem aNm (m : Nat) : bL (LD (m + 2)) 152 aGd := ⟨aZU (LD (m + 1)), by kernel_rfl, aWh  (uD m) (uE m)⟩
theorem uA (m : Nat) : bL (LD (m + 1)) 153 sZ := ⟨aZT (LD (m + 0)), by kernel_rfl, aPZ  ⟩
theorem vZ (m : Nat) : bL (LD (m + 3)) 123 xF := ⟨bAq (LD (m + 2)), by kernel_rfl, aVY  (aNm m) (uA (m + 1))⟩
theorem aQm (m : Nat) : bL (LD (m + 5)) 66 aCK := ⟨S66 (LD (m + 4)), by kernel_rfl, aXP  (oL m) (sD (m + 1)) (zZ (m + 3)) (vZ (m + 1))⟩
theorem aMV (m : Nat) : bL (LD (m + 2)) 155 aGa := ⟨aZR (LD (m + 1)), by kernel_rfl, aVX  (uE m)⟩
theorem uC (m : Nat) : bL (LD (m + 3)) 125 tD := ⟨bAo (LD (m + 2)), by kernel_rfl, aQf  (aMV m) (uA (m + 1))⟩
theorem sE (m : Nat) : bL (LD (m + 1)) 126 qY := ⟨bAn (LD (m + 0)), by kernel_rfl, aMX  ⟩
theorem aBf (m : Nat) : bL (LD (m + 2)) 127 zA := ⟨bAm (LD (m + 1)), by kernel_rfl, aQs  (zZ m)⟩
theorem aQc (m : Nat) : bL (LD (m + 5)) 67 (yZ iL) := ⟨S67 (LD (m + 4)), by kernel_rfl, aXM  (iP (m + 1)) (oL m) (uC (m + 1)) (sE (m + 3)) (aBf (m + 2))⟩
theorem aQi (m : Nat) : bL (LD (m + 5)) 68 (yZ kR) := ⟨S68 (LD (m + 4)), by kernel_rfl, aXO  (iP (m + 1)) (oL m) (uC (m + 1)) (aBf (m + 2))⟩
theorem aQq (m : Nat) : bL (LD (m + 5)) 70 (tC oS) := ⟨S70 (LD (m + 4)), by kernel_rfl, aXR  (iP (m + 1)) (oL m) (sD (m + 1)) (sE (m + 3)) (vZ (m + 1))⟩
theorem aEW (m : Nat) : bL (LD (m + 3)) 128 nP := ⟨bAl (LD (m + 2)), by kernel_rfl, aJr  (nT m)⟩
theorem aHs (m : Nat) : bL (LD (m + 3)) 129 aDp := ⟨bAk (LD (m + 2)), by kernel_rfl, aNi  (nT m) (aBe m)⟩
theorem aQg (m : Nat) : bL (LD (m + 5)) 69 (tC iS) := ⟨S69 (LD (m + 4)), by kernel_rfl, aXN  (iP (m + 1)) (oL m) (sD (m + 1)) (uC (m + 1)) (vZ (m + 1)) (aEW (m + 1)) (aHs (m + 1))⟩
theorem uF (m : Nat) : bL (LD (m + 4)) 130 tG := ⟨bAj (LD (m + 3)), by kernel_rfl, aQv  (iP m)⟩
theorem aMQ (m : Nat) : bL (LD (m + 1)) 32 aFZ := ⟨S32 (LD (m + 0)), by kernel_rfl, aVW  ⟩
theorem aBg (m : Nat) : bL (LD (m + 2)) 132 zB := ⟨bAi (LD (m + 1)), by kernel_rfl, aQu  (aMQ m) (uA m)⟩
theorem aHe (m : Nat) : bL (LD (m + 3)) 90 aAu := ⟨S90 (LD (m + 2)), by kernel_rfl, aMO  (bGq (m + 1)) (aBg m)⟩
theorem aHt (m : Nat) : bL (LD (m + 5)) 71 aAx := ⟨S71 (LD (m + 4)), by kernel_rfl, aNn  (uF m) (aHe (m + 1))⟩
theorem aHu (m : Nat) : bL (LD (m + 5)) 72 aAy := ⟨S72 (LD (m + 4)), by kernel_rfl, aNo  (uF m) (aXJ (m + 3)) (aBg (m + 2))⟩
theorem oM (m : Nat) : bL (LD (m + 1)) 53 nA := ⟨S53 (LD (m + 0)), by kernel_rfl, aWc  ⟩
theorem uB (m : Nat) : bL (LD (m + 2)) 54 mP := ⟨S54 (LD (m + 1)), by kernel_rfl, aQe  (oM m)⟩
theorem aDY (m : Nat) : bL (LD (m + 3)) 77 vA := ⟨S77 (LD (m + 2)), by kernel_rfl, aHp  (oM (m + 1)) (uB m)⟩
theorem aBc (m : Nat) : bL (LD (m + 4)) 25 oD := ⟨S25 (LD (m + 3)), by kernel_rfl, aQd  (oM (m + 2)) (uB (m + 1)) (aDY m)⟩
theorem aDQ (m : Nat) : bL (LD (m + 1)) 65 aBO := ⟨S65 (LD (m + 0)), by kernel_rfl, aWF  ⟩
theorem aHb (m : Nat) : bL (LD (m + 5)) 161 aAt := ⟨aZP (LD (m + 4)), by kernel_rfl, aMF (F := LD (m + 3)) (G := LD (m + 2)) (K := LD (m + 1)) (M := LD (m + 0)) (by kernel_rfl) (by kernel_rfl) (by kernel_rfl) (by kernel_rfl) (by kernel_rfl)⟩
theorem aBz (m : Nat) : bL (LD (m + 3)) 146 jZ := ⟨aZY (LD (m + 2)), by kernel_rfl, aRk (F := LD (m + 1)) (G := LD (m + 0)) (by kernel_rfl) (by kernel_rfl)⟩
theorem sG (m : Nat) : bL (LD (m + 6)) 137 jE := ⟨bAf (LD (m + 5)), by kernel_rfl, aNp  (aHb m) (aBz (m + 2))⟩
theorem rF (m : Nat) : bL (LD (m + 1)) 87 qV := ⟨S87 (LD (m + 0)), by kernel_rfl, aVM  ⟩
theorem aHc (m : Nat) : bL (LD (m + 2)) 162 aAs := ⟨aZO (LD (m + 1)), by kernel_rfl, aMN (F := LD (m + 0)) (by kernel_rfl)⟩
theorem uS (m : Nat) : bL (LD (m + 3)) 142 xN := ⟨bAc (LD (m + 2)), by kernel_rfl, aRn  (aHc m)⟩
theorem aBA (m : Nat) : bL (LD (m + 4)) 145 xH := ⟨aZZ (LD (m + 3)), by kernel_rfl, aRl  (uS m)⟩
theorem aAS (m : Nat) : bL (LD (m + 5)) 138 yV := ⟨bAe (LD (m + 4)), by kernel_rfl, aPJ  (rF (m + 3)) (aBA m)⟩
theorem oJ (m : Nat) : bL (LD (m + 7)) 95 oY := ⟨S95 (LD (m + 6)), by kernel_rfl, aVJ  (sG m) (aAS (m + 1)) (rF (m + 5))⟩
theorem rZ (m : Nat) : bL (LD (m + 5)) 99 qU := ⟨S99 (LD (m + 4)), by kernel_rfl, aMu  (aBA m)⟩
theorem aJj (m : Nat) : bL (LD (m + 1)) 141 aCF := ⟨bAd (LD (m + 0)), by kernel_rfl, aPR  ⟩
theorem wR (m : Nat) : bL (LD (m + 4)) 100 tL := ⟨bAF (LD (m + 3)), by kernel_rfl, aWM  (aBz m) (uS m) (bHg (m + 2))⟩
theorem aDu (m : Nat) : bL (LD (m + 8)) 94 aBJ := ⟨S94 (LD (m + 7)), by kernel_rfl, aVO  (oJ m) (rZ (m + 2)) (aJj (m + 6)) (wR (m + 3))⟩
theorem aHa (m : Nat) : bL (LD (m + 9)) 40 (jX (λ T p => mkT T p 2)) := ⟨S40 (LD (m + 8)), by kernel_rfl, aMx  (aDQ (m + 7)) (aDu m)⟩
theorem aEN (m : Nat) : bL (LD (m + 9)) 41 (jX (λ T p => mkT T p 1)) := ⟨S41 (LD (m + 8)), by kernel_rfl, aJl  (aDu m)⟩
theorem jK (m : Nat) : bL (LD (m + 7)) 85 lL := ⟨S85 (LD (m + 6)), by kernel_rfl, aPP  (sG m) (aAS (m + 1))⟩
theorem pI (m : Nat) : bL (LD (m + 1)) 86 pV := ⟨S86 (LD (m + 0)), by kernel_rfl, aPT  ⟩
theorem aOj (m : Nat) : bL (LD (m + 1)) 143 aGv := ⟨bAb (LD (m + 0)), by kernel_rfl, aWL  ⟩
theorem wQ (m : Nat) : bL (LD (m + 4)) 96 tK := ⟨S96 (LD (m + 3)), by kernel_rfl, aWD  (uS m) (aOj (m + 2))⟩
theorem aEJ (m : Nat) : bL (LD (m + 8)) 42 (jX iL) := ⟨S42 (LD (m + 7)), by kernel_rfl, aJd  (jK m) (pI (m + 6)) (oJ m) (wQ (m + 3))⟩
theorem aGY (m : Nat) : bL (LD (m + 8)) 43 (jX kR) := ⟨S43 (LD (m + 7)), by kernel_rfl, aMv  (jK m) (rF (m + 6)) (aDR (m + 6)) (oJ m) (wQ (m + 3))⟩
theorem aJi (m : Nat) : bL (LD (m + 8)) 45 (sX oS) := ⟨S45 (LD (m + 7)), by kernel_rfl, aPQ  (jK m) (oJ m) (pI (m + 6)) (rZ (m + 2)) (wR (m + 3))⟩
theorem aHA (m : Nat) : bL (LD (m + 1)) 144 aRZ := ⟨bAa (LD (m + 0)), by kernel_rfl, aNV  ⟩
theorem aFd (m : Nat) : bL (LD (m + 7)) 98 nP := ⟨S98 (LD (m + 6)), by kernel_rfl, aJL  (sG m) (aHA (m + 5))⟩
theorem aEK (m : Nat) : bL (LD (m + 8)) 44 (sX iS) := ⟨S44 (LD (m + 7)), by kernel_rfl, aJf  (jK m) (oJ m) (aFd m) (rZ (m + 2)) (wQ (m + 3)) (wR (m + 3))⟩
theorem tQ (m : Nat) : bL (LD (m + 8)) 83 sY := ⟨S83 (LD (m + 7)), by kernel_rfl, aPO  (jK m) (pI (m + 6))⟩
theorem aAU (m : Nat) : bL (LD (m + 1)) 102 yW := ⟨bAE (LD (m + 0)), by kernel_rfl, aPS  ⟩
theorem aGX (m : Nat) : bL (LD (m + 2)) 92 aAr := ⟨S92 (LD (m + 1)), by kernel_rfl, aMt  (bHq m) (aAU m)⟩
theorem zO (m : Nat) : bL (LD (m + 9)) 46 uX := ⟨S46 (LD (m + 8)), by kernel_rfl, aMz  (tQ m) (aGX (m + 6))⟩
theorem zP (m : Nat) : bL (LD (m + 9)) 47 uY := ⟨S47 (LD (m + 8)), by kernel_rfl, aMA  (tQ m) (bHr (m + 7)) (aAU (m + 7))⟩
theorem vQ (m : Nat) : bL (LD (m + 10)) 24 rW := ⟨S24 (LD (m + 9)), by kernel_rfl, aJg (F := LD (m + 8)) (G := LD (m + 7)) (by kernel_rfl) (by kernel_rfl) (by kernel_rfl) (oP (m + 7)) (mQ (m + 7)) (rD (m + 3)) (aAM (m + 4)) (tM (m + 2)) (aTu (m + 5)) (bCo m)⟩
theorem aDt (m : Nat) : bL (LD (m + 2)) 21 aBI := ⟨S21 (LD (m + 1)), by kernel_rfl, aVK  (aDQ m)⟩
theorem aRc (m : Nat) : bL (LD (m + 1)) 20 aLT := ⟨S20 (LD (m + 0)), by kernel_rfl, aYH  ⟩
theorem aJw (m : Nat) : bL (LD (m + 1)) 93 aCH := ⟨S93 (LD (m + 0)), by kernel_rfl, aQh  ⟩
theorem aJJ (m : Nat) : bL (LD (m + 5)) 80 aCJ := ⟨S80 (LD (m + 4)), by kernel_rfl, aQF  (uF m) (aJw (m + 3))⟩
theorem aJI (m : Nat) : bL (LD (m + 4)) 81 aCI := ⟨S81 (LD (m + 3)), by kernel_rfl, aQE  (iP m) (sE (m + 2))⟩
theorem aHl (m : Nat) : bL (LD (m + 1)) 136 aAA := ⟨bAg (LD (m + 0)), by kernel_rfl, aMW  ⟩
theorem aJK (m : Nat) : bL (LD (m + 4)) 82 aCL := ⟨S82 (LD (m + 3)), by kernel_rfl, aQG  (iP m) (aHl (m + 2))⟩
theorem aHi (m : Nat) : bL (LD (m + 3)) 133 aAz := ⟨bAh (LD (m + 2)), by kernel_rfl, aMT  (oM (m + 1)) (uB m)⟩
theorem aNl (m : Nat) : bL (LD (m + 6)) 73 aGc := ⟨S73 (LD (m + 5)), by kernel_rfl, aWg  (aJJ m) (aJI (m + 1)) (aJK (m + 1)) (oM (m + 4)) (aHi (m + 2))⟩
theorem aOc (m : Nat) : bL (LD (m + 1)) 64 aGu := ⟨S64 (LD (m + 0)), by kernel_rfl, aWE  ⟩
theorem aOz (m : Nat) : bL (LD (m + 10)) 113 (jP bHn) := ⟨bAA (LD (m + 9)), by kernel_rfl, aWX  (zO m)⟩
theorem aOy (m : Nat) : bL (LD (m + 10)) 114 (jP bHm) := ⟨bAz (LD (m + 9)), by kernel_rfl, aWW  (zP m)⟩
theorem aJh (m : Nat) : bL (LD (m + 1)) 84 aCB := ⟨S84 (LD (m + 0)), by kernel_rfl, aPN  ⟩
theorem aJn (m : Nat) : bL (LD (m + 9)) 33 aCD := ⟨S33 (LD (m + 8)), by kernel_rfl, aPV  (tQ m) (aJh (m + 7))⟩
theorem aOx (m : Nat) : bL (LD (m + 10)) 115 (jP bDd) := ⟨bAy (LD (m + 9)), by kernel_rfl, aWV  (aJn m)⟩
theorem aJm (m : Nat) : bL (LD (m + 8)) 34 aCC := ⟨S34 (LD (m + 7)), by kernel_rfl, aPU  (jK m) (pI (m + 6)) (aTu (m + 5))⟩
theorem aHD (m : Nat) : bL (LD (m + 9)) 117 (zE aRt) := ⟨bAw (LD (m + 8)), by kernel_rfl, aOe  (aJm m) (oP (m + 7)) (rD (m + 4)) (mQ (m + 7))⟩
theorem aOw (m : Nat) : bL (LD (m + 10)) 116 (jP bDc) := ⟨bAx (LD (m + 9)), by kernel_rfl, aWU  (aHD m)⟩
theorem aKj (m : Nat) : bL (LD (m + 1)) 88 aGf := ⟨S88 (LD (m + 0)), by kernel_rfl, aRm  ⟩
theorem aJo (m : Nat) : bL (LD (m + 8)) 35 aCE := ⟨S35 (LD (m + 7)), by kernel_rfl, aPW  (jK m) (rF (m + 6)) (aKj (m + 6))⟩
theorem aHL (m : Nat) : bL (LD (m + 1)) 106 aSF := ⟨aRw (LD (m + 0)), by kernel_rfl, aON  ⟩
theorem aHK (m : Nat) : bL (LD (m + 2)) 108 aMc := ⟨aRv (LD (m + 1)), by kernel_rfl, aOM  (aHL m)⟩
theorem aGU (m : Nat) : bL (LD (m + 5)) 149 aAq := ⟨aZX (LD (m + 4)), by kernel_rfl, aMi (F := LD (m + 3)) (G := LD (m + 2)) (by kernel_rfl) (by kernel_rfl) (aAf (m + 1)) (aHK m)⟩
theorem aHF (m : Nat) : bL (LD (m + 9)) 119 (zE aRu) := ⟨bAu (LD (m + 8)), by kernel_rfl, aOf  (aJo m) (oP (m + 7)) (aGU (m + 3)) (mQ (m + 7))⟩
theorem aOv (m : Nat) : bL (LD (m + 10)) 118 (jP bDb) := ⟨bAv (LD (m + 9)), by kernel_rfl, aWT  (aHF m)⟩
theorem bGu (m : Nat) : aUb (LD (m + 10)) where
 nw := aDt (m + 8)
 md := aHa (m + 1)
 cr := aEN (m + 1)
 un := aEJ (m + 2)
 rm := aGY (m + 2)
 rn := aEK (m + 2)
 ln := aJi (m + 2)
 wr := zO (m + 1)
 tr := zP (m + 1)
 tx := vQ (m + 0)
theorem bRB (m : Nat) : bBy (LD (m + 10)) where
 nw := ⟨S22 (LD (m + 9)), by kernel_rfl, λ A h hA => aIc A h hA⟩
 md := aQm (m + 5)
 un := aQc (m + 5)
 rm := aQi (m + 5)
 rn := aQg (m + 5)
 ln := aQq (m + 5)
 wr := aHt (m + 5)
 tr := aHu (m + 5)
 tx := aBc (m + 6)
theorem bRC (m : Nat) : bBB (LD (m + 10)) where
 A := aOz (m + 0)
 B := aOy (m + 0)
 C := aOx (m + 0)
 D := aOw (m + 0)
 E := aOv (m + 0)
theorem aOK : (S12 (SE aKt table 60) [] H0).map (λ x => x.1) = some (.bool true) := by kernel_rfl
theorem aLV : gR Tryz.prog 12 aGr := aPM (B := aKt) (n := 60) aIJ tab (show Tr.at_ table 12 = some S12 by kernel_rfl) aOK
theorem aZv : lN Tryz.prog bFR := lC (tab.ok 12 S12 rfl).1 aLV aIJ
end Go.Proofs.YtmafhiogonejfaaGreatDoor
end
