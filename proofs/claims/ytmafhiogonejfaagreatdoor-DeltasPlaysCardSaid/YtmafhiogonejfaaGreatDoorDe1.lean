/- Operations done to both trees, and what is told; the run. No condition. -/
import Derived.Test.YtmafhiogonejfaaGreatDoorTr6
import Derived.KernelRfl
set_option linter.unusedVariables false
set_option linter.unusedSimpArgs false
noncomputable section
namespace Go.Proofs.YtmafhiogonejfaaGreatDoor
open Go.DI
def aQs (B : cB) : Prop := ∀ (n0 : Nat) (v : DV) (s : Ln) (n : Int) (h : H), cE n0 h v (bR s) -> n0 <= h.size -> s.length <= 100000 -> gW n -> ∃ v' h', B [v, .int .i64 n] h = some (v', h') /\ cE n0 h' v' (bR (s ++ fU n)) /\ cD n0 h h'
theorem aML {E : bG} : aQs (aPg E) := by
 intro n0 v s n h hc hn0 hs hn; have hz := aQt hn.1 hn.2; obtain ⟨v', h', a1, a2, a3⟩ := aEd (E := E) (n0 := n0) 9 (aT - 10) (zz n) s v h (by simpa using hz) (Nat.le_refl _) (by omega) hn0 (.inl hc) hc.lt_size
 rw [show aT - 10 + (9 + 1) = aT from by unfold aT; omega] at a1
 refine ⟨v', h', ?_, a2, a3⟩; obtain ⟨x, y, z, e1, e2, e3, w, e4, e5⟩ := aUH hn.1 hn.2; show aCg E v (.int .i64 n) h = _; unfold aCg; rw [e1, aA, e2, aA, e3, aA, e4, aA, e5, aA]; exact a1
def aKv (B : cB) : Prop := ∀ (n0 : Nat) (v : DV) (s t : Ln) (h : H), cE n0 h v (bR s) -> n0 <= h.size -> s.length <= 100000 -> t.length <= 100000 -> ∃ v' h', B [v, .str t] h = some (v', h') /\ cE n0 h' v' (bR (s ++ kQ t)) /\ cD n0 h h'
theorem aMK {E : bG} (hN : bP E 106 aQs) : aKv (aPf E) := by
 obtain ⟨B, hB, sB⟩ := hN.call; intro n0 v s t h hc hn0 hs ht; obtain ⟨v1, h1, f1, f2, f3⟩ := sB n0 v s (.ofNat t.length) h hc hn0 hs (fK (by omega))
 have hl := (dQ (.ofNat t.length)).2; obtain ⟨v2, h2, g1, g2, g3⟩ := f2.appendStr (Nat.le_trans hn0 f3.size) t (by rw [List.length_append]; omega)
 refine ⟨v2, h2, ?_, ?_, f3.trans g3⟩
 · show aCf E v (.str t) h = _; unfold aCf; rw [aY, aA, hB, f1, aB, g1, aB]
 · unfold kQ; rw [<- List.append_assoc]; exact g2
def tW (l : List (Ln)) : Ln := l.flatMap kQ
def uH (l : List (Ln)) : Ln := fU (.ofNat l.length) ++ tW l
def aDB (l : List (Ln)) : Prop := l.length <= 300 /\ ∀ s ∈ l, s.length <= 100 /\ bA s = true
theorem aKI : ∀ {l : List (Ln)}, (∀ s ∈ l, s.length <= 100) -> (tW l).length <= 110 * l.length
 | [], _ => by simp [tW]
 | s :: l, h => by
   have a := aKI (l := l) λ x hx => h x (by simp [hx])
   have b := (rA s).2; have c := h s (by simp)
   show (kQ s ++ tW l).length <= _; rw [List.length_append, List.length_cons]; omega
theorem aGE {l : List (Ln)} {i : Nat} {s : Ln} (h : l[i]? = some s) : tW (l.take (i + 1)) = tW (l.take i) ++ kQ s := by
 unfold tW; rw [List.take_add_one, h, List.flatMap_append]; simp
theorem qL {l : List (Ln)} (h : aDB l) (i : Nat) : (tW (l.take i)).length <= 33000 := by
 have := aKI (l := l.take i) λ s hs => (h.2 s (List.mem_of_mem_take hs)).1
 have h2 : (l.take i).length <= 300 := by rw [List.length_take]; have := h.1; omega
 omega
theorem aFL {E : bG} (hT : bP E 108 aKv) {n0 : Nat} {w : DV} {l : List (Ln)} (hl : aDB l) {s0 : Ln} (hs0 : s0.length <= 66000) : ∀ (k i m : Nat) (v : DV) (h : H), l.length - i = k -> i <= l.length -> n0 <= h.size -> cZ h w (cT l) -> (∀ b o n c op, w = .slc b o n c op -> b < n0) -> cE n0 h v (bR (s0 ++ tW (l.take i))) ->
   ∃ v' h', aBO E w (ii l.length) (m + (k + 1)) v (ii i) h = some (v', h') /\ cE n0 h' v' (bR (s0 ++ tW l)) /\ cD n0 h h' := by
 obtain ⟨B, hB, sB⟩ := hT.call; have hll := hl.1; intro k
 induction k with
 | zero =>
   intro i m v h hk hi hn r hw o; have : i = l.length := by omega
   subst this; rw [List.take_length] at o; refine ⟨v, h, ?_, o, cD.refl _ _⟩; show aFs E w _ (aBO E w _ m) _ _ h = _; unfold aFs; rw [aP, aA, decide_eq_false (Nat.lt_irrefl _), aC]; rfl
 | succ k ih =>
   intro i m v h hk hi hn r hw o; have hlt : i < l.length := by omega
   obtain ⟨s, hs⟩ : ∃ s, l[i]? = some s := ⟨_, List.getElem?_eq_getElem hlt⟩; have hsl := (hl.2 s (List.mem_of_getElem? hs)).1; obtain ⟨b, o', k1, k2⟩ := r.at (j := i) (jI hs) .i64; have htl := qL hl i; obtain ⟨v1, h1, f1, o1, g1⟩ := sB n0 v _ s h o hn (by rw [List.length_append]; omega) (by omega)
   have r1 : cZ h1 w (cT l) := r.off (F := λ c => n0 <= c) ⟨g1.size, λ c hc hF => g1.get c (Nat.lt_of_not_le hF)⟩ λ b o n c op e => Nat.not_le.2 (hw b o n c op e)
   have e : s0 ++ tW (l.take (i + 1)) = s0 ++ tW (l.take i) ++ kQ s := by rw [aGE hs, List.append_assoc]
   rw [<- e] at o1; obtain ⟨v', h', y1, y2, y3⟩ := ih (i + 1) m v1 h1 (by omega) (by omega) (Nat.le_trans hn g1.size) r1 hw o1
   refine ⟨v', h', ?_, y2, g1.trans y3⟩; show aFs E w _ (aBO E w _ (m + (k + 1))) _ _ h = _; unfold aFs; rw [aP, aA, decide_eq_true hlt, aD, k1, aA, k2, aA, hB, f1, aB, bQ (by omega), aA]
   exact y1
theorem bDR {h : H} {v : DV} {L : List DV} (r : cZ h v L) : ∀ b o n c op, v = .slc b o n c op -> b < h.size := by
 intro b o n c op e; rcases r with ⟨_, rfl | ⟨b', o', o2, rfl⟩⟩ | ⟨b', o', c', op', rfl, _, h2, _⟩
 · cases e
 · cases e
 · cases e; exact h2
def yT (B : cB) : Prop := ∀ (b : Nat) (s : Ln) (w : DV) (l : List (Ln)) (h : H), mC h b s -> cZ h w (cT l) -> aDB l -> s.length <= 1000 -> ∃ h', B [.ptr b 0, w] h = some (.tup [], h') /\ mC h' b (s ++ uH l) /\ kH (λ c => c = b) h h'
theorem aKA {E F G : bG} (h1 : E 103 = some (aMN F)) (h2 : F 168 = some (bBa G)) (hN : bP G 106 aAL) (hT : bP G 108 aKv) : yT (aXu E) := by
 obtain ⟨B, hB, sB⟩ := hN.call; intro b s w l h hw r hl hs; have hone : w.one = true := by rcases r with ⟨_, rfl | ⟨_, _, _, rfl⟩⟩ | ⟨_, _, _, _, rfl, _⟩ <;> rfl
 have hll := hl.1; obtain ⟨hb', eb, gb, ob⟩ := aO h 1 1 [w] rfl; have zb : hb'.size = h.size + 1 := by rw [eb]; exact H.size_push _ _
 have hb : b < h.size := by obtain ⟨v, ho, _⟩ := hw; exact ho.1
 have hwb : mC hb' b s := by rw [eb]; exact zN hw _
 have li := (dQ (.ofNat l.length)).2; have ltx := qL hl l.length; rw [List.take_length] at ltx; obtain ⟨h', f1, f2, f3⟩ := aDe (E := F) (b := b) (s := s) (new := uH l) (f := .fn (.func 168) [] [.ptr h.size 0]) hwb (by
   intro c hc; obtain ⟨v1, hh1, a1, a2, a3⟩ := sB c s (.ofNat l.length) _ hc (by omega) (fK (by omega))
   have ob1 := ob.grown a3.grown; have r1 := (r.grown gb).grown a3.grown; obtain ⟨v2, hh2, y1, y2, y3⟩ := aFL (E := G) hT (n0 := hb'.size) hl (s0 := s ++ fU (.ofNat l.length)) (by rw [List.length_append]; omega) l.length 0 (aT - (l.length + 1)) v1 hh1 (by omega) (by omega) a3.size r1 (bDR (r.grown gb)) (by simpa [tW] using a2)
   rw [show aT - (l.length + 1) + (l.length + 1) = aT from by unfold aT; omega] at y1
   refine ⟨v2, hh2, ?_, by unfold uH; rw [<- List.append_assoc]; exact y2, a3.trans y3⟩
   show aE F 168 ([] ++ [c] ++ [.ptr h.size 0]) _ = _; rw [cK h2]; show aJi G c (.ptr h.size 0) _ = _; unfold aJi; rw [ob.read (j := 0) rfl, aA, (r.grown gb).len, bC, aA, hB, a1, aB, ob1.read (j := 0) rfl, aA, r1.len, bC, aA]; exact y1) (by unfold uH; rw [List.length_append]; omega)
 refine ⟨h', ?_, f2, (gb.off _).trans f3⟩; show aJv E (.ptr b 0) w h = _; unfold aJv; rw [oN hone, <- eb, cK h1, f1, aB]
def zA (B : cB) : Prop := ∀ (w : DV) (l : List (Ln)) (h : H), cZ h w (cT l) -> aDB l -> ∃ h', B [w] h = some (.str (uH l), h') /\ aI h h'
theorem aFZ {E : bG} (hT : bP E 54 lR) {w : DV} {l : List (Ln)} (hl : aDB l) {s0 : Ln} (hs0 : s0.length <= 20) : ∀ (k i m : Nat) (h : H), l.length - i = k -> i <= l.length -> cZ h w (cT l) ->
   ∃ h', aBX E w (m + (k + 1)) (.str (s0 ++ tW (l.take i))) (ii i) h = some (.str (s0 ++ tW l), h') /\ aI h h' := by
 obtain ⟨B, hB, sB⟩ := hT.call; have hll := hl.1; intro k
 induction k with
 | zero =>
   intro i m h hk hi r; have : i = l.length := by omega
   subst this; refine ⟨h, ?_, aI.refl _⟩; rw [List.take_length]; show aFC E w (aBX E w m) _ _ h = _; unfold aFC; rw [r.len, bC, aA, aP, aA, decide_eq_false (Nat.lt_irrefl _), aC]; rfl
 | succ k ih =>
   intro i m h hk hi r; have hlt : i < l.length := by omega
   obtain ⟨s, hs⟩ : ∃ s, l[i]? = some s := ⟨_, List.getElem?_eq_getElem hlt⟩; have hsl := (hl.2 s (List.mem_of_getElem? hs)).1; obtain ⟨b, o', k1, k2⟩ := r.at (j := i) (jI hs) .i64; have htl := qL hl i; have hb := (rA s).2; obtain ⟨h1, f1, g1⟩ := sB s h (by omega)
   obtain ⟨h', y1, y2⟩ := ih (i + 1) m h1 (by omega) (by omega) (r.grown g1)
   refine ⟨h', ?_, g1.trans y2⟩; show aFC E w (aBX E w (m + (k + 1))) _ _ h = _; unfold aFC; rw [r.len, bC, aA, aP, aA, decide_eq_true hlt, aD, k1, aA, k2, aA, hB, f1, aB, eY (by rw [List.length_append]; unfold fJ; omega), aA, bQ (by omega), aA]
   rw [aGE hs, <- List.append_assoc] at y1; exact y1
theorem aLj {E : bG} (hI : bP E 53 mE) (hT : bP E 54 lR) : zA (aXE E) := by
 obtain ⟨B, hB, sB⟩ := hI.call; intro w l h r hl; have hll := hl.1; obtain ⟨h3, f3, g3⟩ := sB (.ofNat l.length) h (fK (by omega))
 have li := (dQ (.ofNat l.length)).2; obtain ⟨h', y1, y2⟩ := aFZ (E := E) hT hl (s0 := fU (.ofNat l.length)) (by omega) l.length 0 (aT - (l.length + 1)) h3 (by omega) (by omega) (r.grown g3)
 rw [show aT - (l.length + 1) + (l.length + 1) = aT from by unfold aT; omega] at y1
 refine ⟨h', ?_, g3.trans y2⟩; show aJI E w h = _; unfold aJI; rw [r.len, bC, aA, hB, f3, aB]; have : fU (.ofNat l.length) ++ tW (l.take 0) = fU (.ofNat l.length) := by simp [tW]
 rw [this] at y1; exact y1
def oX (l : Ln) : Ln := l.flatMap λ n => fU (.ofNat n)
def aGt (T : TreeP) (o : tM) : Nat × Ln :=
 if o.kind = 9 then ((tO T o.path o.at_ o.n).2, (tO T o.path o.at_ o.n).1) else
   if o.kind = 10 then (if (sF T o.path).2 = 0 then (0, oX (sF T o.path).1) else ((sF T o.path).2, [])) else
     if (lO T o.path).2 = 0 then (0, uH (lO T o.path).1) else ((lO T o.path).2, [])
def tX (T : TreeP) (o : tM) : TreeP × Nat × Ln :=
 if tU o = 0 then (if o.kind <= 8 then ((tZ T o).1, (tZ T o).2, []) else (T, aGt T o)) else (T, tU o, [])
theorem aWN {o : tM} (h : tU o = 0) : 1 <= o.kind /\ o.kind <= 11 /\ o.path.length <= 255 /\ o.other.length <= 255 /\ o.text.length <= 512 := by
 unfold tU at h; split at h
 · cases h
 · split at h
   · cases h
   · omega
theorem aGG {k : Nat} {T : TreeP} (hI : Inv k T) (hk : k < 900) (p : Ln) : ∀ n ∈ (sF T p).1, n < 100000000 := by
 intro n hn; unfold sF at hn; split at hn
 · unfold aDK at hn; split at hn
   · rename_i m hm; have hok := hI.of hm; have hg := hI.gen; have h1 := hok.1.rng; have h2 := hok.1.gen; have h3 := hok.1.txt.2; have h4 := hok.1.len; have h5 := hI.links_lt hk m.inode; have h6 : m.kind <= 2 := by rcases hok.1.knd with ⟨x, _⟩ | ⟨x, _⟩ <;> omega
     simp only [List.mem_cons, List.not_mem_nil, or_false] at hn; rcases hn with rfl | rfl | rfl | rfl | rfl
     · omega
     · omega
     · omega
     · split <;> omega
     · split <;> omega
   · simp only [List.mem_cons, List.not_mem_nil, or_false] at hn; rcases hn with rfl | rfl | rfl | rfl | rfl <;> omega
 · simp only [List.mem_cons, List.not_mem_nil, or_false] at hn; rcases hn with rfl | rfl | rfl | rfl | rfl <;> omega
theorem aLG {k : Nat} {T : TreeP} (hI : Inv k T) (hk : k <= 256) (p : Ln) : aDB (lO T p).1 := by
 unfold lO; split
 · split
   · exact ⟨by simp, λ s hs => by cases hs⟩
   · split
     · rename_i n hn; have hok := hI.of hn; refine ⟨by rw [List.length_map]; have := hok.1.len; omega, λ s hs => ?_⟩
       obtain ⟨e, he, rfl⟩ := List.mem_map.1 hs; have := hok.1.nam e he; exact ⟨by have := sY this.1; omega, this.2.1⟩
     · exact ⟨by simp, λ s hs => by cases hs⟩
 · exact ⟨by simp, λ s hs => by cases hs⟩
theorem aKU {l : Ln} (h : ∀ n ∈ l, n < 100000000) : (oX l).length <= 10 * l.length /\ bA (oX l) = true := by
 induction l with
 | nil => exact ⟨by simp [oX], rfl⟩
 | cons n l ih =>
   obtain ⟨a, b⟩ := ih λ m hm => h m (by simp [hm])
   have c := (dQ (.ofNat n)).2; have d : bA (fU (.ofNat n)) = true := nA (fK (by have := h n (by simp); omega))
   show (fU (.ofNat n) ++ oX l).length <= _ /\ bA (fU (.ofNat n) ++ oX l) = true; rw [List.length_append, List.length_cons]; exact ⟨by omega, cM d b⟩
theorem aQD : ∀ {l : List (Ln)}, (∀ s ∈ l, s.length <= 100 /\ bA s = true) -> bA (tW l) = true
 | [], _ => rfl
 | s :: l, h => by
   have a := aQD (l := l) λ x hx => h x (by simp [hx])
   have b := h s (by simp)
   exact cM (aDH b.2 (by omega)) a
theorem aTm {l : List (Ln)} (h : aDB l) : bA (uH l) = true := cM (nA (fK (by have := h.1; omega))) (aQD h.2)
def xL (f : TreeP -> Ln -> Nat × Ln) (B : cB) : Prop := ∀ (t : Nat) (T : TreeP) (C : List DV) (FN : Nat -> Ln) (k : Nat) (p : Ln) (h : H), dA h t T C FN -> Inv k T -> k <= 256 -> p.length < 140737488355328 ->
 ∃ h', B [.ptr t 0, .str p] h = some (.tup [ii ((f T p).1), .str (f T p).2], h') /\ aI h h'
def aPd (T : TreeP) (p : Ln) : Nat × Ln := if (sF T p).2 = 0 then (0, oX (sF T p).1) else ((sF T p).2, [])
def aPe (T : TreeP) (p : Ln) : Nat × Ln := if (lO T p).2 = 0 then (0, uH (lO T p).1) else ((lO T p).2, [])
theorem aGp {E : bG} (hI : bP E 50 lB) (hD : bP E 52 jJ) {wb vb : Nat} {l : Ln} (hl : l.length = 5) (hs : ∀ n ∈ l, n < 100000000) (hne : vb ≠ wb) : ∀ (k i m : Nat) (h : H), 5 - i = k -> i <= 5 -> cO h vb (dW l) -> mC h wb (oX (l.take i)) ->
   ∃ h', aCa E (.ptr wb 0) (.slc vb 0 5 5 false) (ii 5) (m + (k + 1)) (ii i) h = some (.tup [ii 0, .str (oX l)], h') /\ kH (λ c => c = wb) h h' := by
 obtain ⟨B0, b0, s0⟩ := hI.call; obtain ⟨B1, b1, s1⟩ := hD.call; intro k
 induction k with
 | zero =>
   intro i m h hk hi c w; have : i = 5 := by omega
   subst this; rw [List.take_of_length_le (by omega)] at w
   refine ⟨h, ?_, kH.refl _ _⟩; show aFI E _ _ _ (aCa E _ _ _ m) _ h = _; unfold aFI; rw [aP, aA, decide_eq_false (Nat.lt_irrefl _), aC]; unfold aKa; rw [b1, s1 wb _ h w (aKU hs).2, aB, aN, aA, aM, aA]
 | succ k ih =>
   intro i m h hk hi c w; have hlt : i < 5 := by omega
   obtain ⟨n, hn⟩ : ∃ n, l[i]? = some n := ⟨_, List.getElem?_eq_getElem (by omega)⟩
   have hns := hs n (List.mem_of_getElem? hn); have htk : (oX (l.take i)).length <= 50 := by
     have := (aKU (l := l.take i) λ x hx => hs x (List.mem_of_mem_take hx)).1
     have h2 : (l.take i).length <= 5 := by rw [List.length_take]; omega
     omega
   have rd : aF h.get (.ptr vb i) = some (ii n) := by
     simp only [aF, cG]; exact c.rd (aBb hn)
   obtain ⟨h5, f5, w5, p5⟩ := s0 wb _ (.ofNat n) h w (fK (by omega)) (by omega)
   have c5 : cO h5 vb (dW l) := by
     obtain ⟨a1, pl, t, a2, a3⟩ := c; exact ⟨Nat.lt_of_lt_of_le a1 p5.size, pl, t, by rw [p5.get vb a1 hne]; exact a2, a3⟩
   have et : oX (l.take (i + 1)) = oX (l.take i) ++ fU (.ofNat n) := by
     unfold oX; rw [List.take_add_one, hn, List.flatMap_append]; simp
   rw [<- et] at w5; obtain ⟨h', y1, y2⟩ := ih (i + 1) m h5 (by omega) (by omega) c5 w5
   refine ⟨h', ?_, p5.trans y2⟩; show aFI E _ _ _ (aCa E _ _ _ (m + (k + 1))) _ h = _; unfold aFI; have ia : cC 1 (.slc vb 0 5 5 false) (ii i) = some (.ptr vb i) := by
     simp only [cC, pR, dV hlt, cond_true, aZ, Nat.mul_one, Nat.zero_add]
   rw [aP, aA, decide_eq_true hlt, aD, ia, aA, rd, aA, b0, f5, aB, bQ (by omega), aA]
   exact y1
theorem aOz {R : Type} (l : Ln) (hl : l.length = 5) (a b c d e : Nat) (hle : l = [a, b, c, d, e]) (h : H) (k : DV -> H -> Option R) : fT 5 1 [ii 0] [(0, 1, ii a), (1, 1, ii b), (2, 1, ii c), (3, 1, ii d), (4, 1, ii e)] h k = k (.slc h.size 0 5 5 false) (h.push (.blk ⟨5, 1, false, true, Tr.ofL (dW l)⟩)) := by
 subst hle; have hf : gX (gO [ii 0] 5) [(0, 1, ii a), (1, 1, ii b), (2, 1, ii c), (3, 1, ii d), (4, 1, ii e)] = some (dW [a, b, c, d, e]) := rfl; simp only [fT, hf, Option.bind_some, H.pushK_eq]
theorem aMe {E : bG} (hS : bP E 34 aBA) (hN : bP E 48 nS) (hI : bP E 50 lB) (hD : bP E 52 jJ) : xL aPd (aXT E) := by
 obtain ⟨B0, b0, s0⟩ := hS.call; obtain ⟨B1, b1, s1⟩ := hN.call; intro t T C FN k p h r hInv hk hp; have z5 : [(ii 0), (ii 0), (ii 0), (ii 0), (ii 0)] = dW [0, 0, 0, 0, 0] := rfl; obtain ⟨h2, f2, g2⟩ := s0 t T C FN k p h r hInv (by omega) hp
 have hsl := aQH T p; have hsm := aGG hInv (by omega) p
 obtain ⟨h6, eh6, g6, o6⟩ := aO h2 5 5 (dW [0, 0, 0, 0, 0]) rfl; have one5 : ∀ l : Ln, (dW l).all DV.one = true := λ l => by
   unfold dW; rw [List.all_eq_true]; intro x hx; obtain ⟨y, _, rfl⟩ := List.mem_map.1 hx
   rfl
 obtain ⟨h8, f8, o8, k8⟩ := o6.setAll (n := 5) (cs := dW (sF T p).1) rfl (oL hsl) (one5 _); have G8 : aI h h8 := k8.grown (g2.trans g6) g2.size; show ∃ h', aKb E (.ptr t 0) (.str p) h = _ /\ _; unfold aKb aPd; rw [b0, f2, aB, aN, aA, aM, aA, z5, bN, <- eh6, f8, aB, bL, aA]; by_cases e0 : (sF T p).2 = 0
 · have hst : ∃ a b c d e, (sF T p).1 = [a, b, c, d, e] := by
     generalize (sF T p).1 = l at hsl
     match l, hsl with
     | [a, b, c, d, e], _ => exact ⟨a, b, c, d, e, rfl⟩
   obtain ⟨a, b, c, d, e, hle⟩ := hst; obtain ⟨h11, f11, w11, g11⟩ := s1 h8; have o11 := o8.grown g11; obtain ⟨h23, eh23, g23, o23⟩ : ∃ x, x = h11.push (.blk ⟨5, 1, false, true, Tr.ofL (dW (sF T p).1)⟩) /\ aI h11 x /\ cO x h11.size (dW (sF T p).1) := by
     have q := cO.pushed (h := h11) (L := dW (sF T p).1) (pl := true); rw [oL hsl] at q; exact ⟨_, rfl, aI.push _ _, q⟩
   have w23 : mC h23 h8.size [] := by rw [eh23]; exact zN w11 _
   have z11 := bNi w11; obtain ⟨h', y1, y2⟩ := aGp (E := E) hI hD (wb := h8.size) (vb := h11.size) hsl hsm (by omega) 5 0 (aT - 6) h23 rfl (by omega) o23 (by simpa [oX] using w23)
   rw [show aT - 6 + (5 + 1) = aT from by unfold aT; omega] at y1
   have dec : (!decide ((sF T p).2 = 0)) = false := by rw [e0]; rfl
   have fx : ∀ q, aH q (.ptr h2.size 0) = some (.ptr h2.size q) := λ q => by rw [aK, Nat.zero_add]
   have rd : ∀ j x, (sF T p).1[j]? = some x -> aF h11.get (.ptr h2.size j) = some (ii x) := λ j x hj => o11.read (aBb hj)
   have ll : bX (.slc h11.size 0 5 5 false) = some (ii 5) := rfl; refine ⟨h', ?_, ?_⟩
   · rw [dec, aC, b1, f11, aB, fx, aA, rd 0 a (by rw [hle]; rfl), aA, fx, aA, rd 1 b (by rw [hle]; rfl), aA, fx, aA, rd 2 c (by rw [hle]; rfl), aA, fx, aA, rd 3 d (by rw [hle]; rfl), aA, fx, aA, rd 4 e (by rw [hle]; rfl), aA, aOz _ hsl a b c d e hle, <- eh23, ll, aA, y1, if_pos e0]
   · have G23 := (G8.trans g11).trans g23; exact ⟨Nat.le_trans G23.size y2.size, λ x hx => by
       rw [y2.get x (Nat.lt_of_lt_of_le hx G23.size) (by have := G8.size; omega)]
       exact G23.get x hx⟩
 · have dec : (!decide ((sF T p).2 = 0)) = true := by simp [e0]
   rw [dec, aD, if_neg e0]; exact ⟨h8, rfl, G8⟩
theorem aMg {E : bG} (hS : bP E 35 aBC) (hN : bP E 48 nS) (hT : bP E 149 yT) (hD : bP E 52 jJ) : xL aPe (aXR E) := by
 obtain ⟨B0, b0, s0⟩ := hS.call; obtain ⟨B1, b1, s1⟩ := hN.call; obtain ⟨B2, b2, s2⟩ := hT.call; obtain ⟨B3, b3, s3⟩ := hD.call; intro t T C FN k p h r hInv hk hp; obtain ⟨w, h2, f2, r2, g2⟩ := s0 t T C FN k p h r hInv (by omega) hp
 have hok := aLG hInv hk p; show ∃ h', aJY E (.ptr t 0) (.str p) h = _ /\ _; unfold aJY aPe; rw [b0, f2, aB, aN, aA, aM, aA, bL, aA]; by_cases e0 : (lO T p).2 = 0
 · obtain ⟨h7, f7, w7, g7⟩ := s1 h2; obtain ⟨h9, f9, w9, p9⟩ := s2 h2.size [] w _ h7 w7 (r2.grown g7) hok (by simp)
   rw [List.nil_append] at w9; have f11 := s3 h2.size _ h9 w9 (aTm hok); have dec : (!decide ((lO T p).2 = 0)) = false := by rw [e0]; rfl
   refine ⟨h9, ?_, ?_⟩
   · rw [dec, aC, b1, f7, aB, b2, f9, aB, b3, f11, aB, aN, aA, aM, aA, if_pos e0]
   · have G := g2.trans g7; exact ⟨Nat.le_trans G.size p9.size, λ x hx => by
       rw [p9.get x (Nat.lt_of_lt_of_le hx G.size) (by have := g2.size; omega)]
       exact G.get x hx⟩
 · have dec : (!decide ((lO T p).2 = 0)) = true := by simp [e0]
   rw [dec, aD, if_neg e0]; exact ⟨h2, rfl, g2⟩
def aET (B : cB) : Prop := ∀ (A : Nat -> Prop) (v : DV) (T : TreeP) (k : Nat) (o : tM) (h : H), eB A h v T -> Inv k T -> k <= 256 -> o.ok -> o.path.length < 140737488355328 ->
 ∃ h', B [v, .agg (qR o)] h = some (.tup [ii ((aGt T o).1), .str (aGt T o).2], h') /\ aI h h'
theorem aTH {E : bG} (hR : bP E 80 aBH) (hS : bP E 81 aBG) (hL : bP E 82 aBJ) (hI : bP E 53 mE) (hT : bP E 133 zA) : aET (S73 E) := by
 obtain ⟨B0, b0, s0⟩ := hR.call; obtain ⟨B1, b1, s1⟩ := hS.call; obtain ⟨B2, b2, s2⟩ := hL.call; obtain ⟨B3, b3, s3⟩ := hI.call; obtain ⟨B4, b4, s4⟩ := hT.call; intro A v T k o h r hInv hk hok hpl; obtain ⟨hk0, ha0, hn0, okp, oko, okt⟩ := id hok; obtain ⟨s, ev, hs⟩ := r.agg; subst ev; have z5 : [(ii 0), (ii 0), (ii 0), (ii 0), (ii 0)] = dW [0, 0, 0, 0, 0] := rfl; obtain ⟨h2, eh2, g2, o2⟩ := aO h 2 2 [s, ii T.gen] rfl; obtain ⟨h4, eh4, g4, o4⟩ := aO h2 6 6 (qR o) rfl; have G4 := g2.trans g4; have r4 := r.grown G4; have o24 := o2.grown g4; have fx : ∀ q, aH q (.ptr h2.size 0) = some (.ptr h2.size q) := λ q => by rw [aK, Nat.zero_add]
 show ∃ h', aSj E (.agg [s, ii T.gen]) (.agg (qR o)) h = _ /\ _; unfold aSj aGt; rw [nbx eh2 rfl, nbx eh4 rfl, fx, aA, o4.read (j := 0) rfl, aA, gM, aA]; by_cases c9 : o.kind = 9
 · obtain ⟨h16, f16, g16⟩ := s0 A _ T k o.path o.at_ o.n h4 r4 hInv (by omega) hpl ha0 hn0
   refine ⟨h16, ?_, G4.trans g16⟩; rw [show (o.kind == Int.ofNat 9) = true from by rw [beq_iff_eq]; exact c9, aD, if_pos c9, o24.all (n := 2) rfl, aA, fx, aA, o4.read (j := 3) rfl, aA, fx, aA, o4.read (j := 1) rfl, aA, fx, aA, o4.read (j := 2) rfl, aA, b0, f16, aB, aN, aA, aM, aA]
 rw [show (o.kind == Int.ofNat 9) = false from by rw [beq_eq_false_iff_ne]; exact c9, aC, if_neg c9, gM, aA]
 by_cases c10 : o.kind = 10
 · obtain ⟨h24, f24, g24⟩ := s1 A _ T k o.path h4 r4 hInv (by omega) hpl
   have hsl := aQH T o.path; have hsm := aGG hInv (by omega) o.path
   have one5 : ∀ l : Ln, (dW l).all DV.one = true := λ l => by
     unfold dW; rw [List.all_eq_true]; intro x hx; obtain ⟨y, _, rfl⟩ := List.mem_map.1 hx
     rfl
   obtain ⟨h28, eh28, g28, o28⟩ := aO h24 5 5 (dW [0, 0, 0, 0, 0]) rfl; obtain ⟨h30, f30, o30, k30⟩ := o28.setAll (n := 5) (cs := dW (sF T o.path).1) rfl (oL hsl) (one5 _); have G30 : aI h h30 := k30.grown ((G4.trans g24).trans g28) (G4.trans g24).size; rw [show (o.kind == Int.ofNat 10) = true from by rw [beq_iff_eq]; exact c10, aD, if_pos c10, o24.all (n := 2) rfl, aA, fx, aA, o4.read (j := 3) rfl, aA, b1, f24, aB, aN, aA, aM, aA, z5, bN, <- eh28, f30, aB, bL, aA]
   by_cases e0 : (sF T o.path).2 = 0
   · have hst : ∃ a b c d e, (sF T o.path).1 = [a, b, c, d, e] := by
       generalize (sF T o.path).1 = l at hsl
       match l, hsl with
       | [a, b, c, d, e], _ => exact ⟨a, b, c, d, e, rfl⟩
     obtain ⟨a, b, c, d, e, hle⟩ := hst; have small : ∀ n ∈ [a, b, c, d, e], n < 100000000 := λ n hn => hsm n (by rw [hle]; exact hn)
     have i64 : ∀ n ∈ [a, b, c, d, e], gW (.ofNat n) := λ n hn => fK (by have := small n hn; omega)
     obtain ⟨h43, f43, g43⟩ := s3 (.ofNat a) h30 (i64 a (by simp))
     obtain ⟨h45, f45, g45⟩ := s3 (.ofNat b) h43 (i64 b (by simp))
     obtain ⟨h48, f48, g48⟩ := s3 (.ofNat c) h45 (i64 c (by simp))
     obtain ⟨h51, f51, g51⟩ := s3 (.ofNat d) h48 (i64 d (by simp))
     obtain ⟨h54, f54, g54⟩ := s3 (.ofNat e) h51 (i64 e (by simp))
     have dec : (!decide ((sF T o.path).2 = 0)) = false := by rw [e0]; rfl
     have fy : ∀ q, aH q (.ptr h24.size 0) = some (.ptr h24.size q) := λ q => by rw [aK, Nat.zero_add]
     have rd : ∀ {hh : H}, bD hh h24.size (dW (sF T o.path).1) -> ∀ j x, (sF T o.path).1[j]? = some x -> aF hh.get (.ptr h24.size j) = some (ii x) := λ q j x hj => q.read (aBb hj)
     have x0 : (sF T o.path).1[0]? = some a := by rw [hle]; rfl
     have x1 : (sF T o.path).1[1]? = some b := by rw [hle]; rfl
     have x2 : (sF T o.path).1[2]? = some c := by rw [hle]; rfl
     have x3 : (sF T o.path).1[3]? = some d := by rw [hle]; rfl
     have x4 : (sF T o.path).1[4]? = some e := by rw [hle]; rfl
     have q43 := o30.grown g43; have q45 := q43.grown g45; have q48 := q45.grown g48; have q51 := q48.grown g51; have la := (dQ (.ofNat a)).2; have lb := (dQ (.ofNat b)).2; have lc := (dQ (.ofNat c)).2; have ld := (dQ (.ofNat d)).2; have le := (dQ (.ofNat e)).2; refine ⟨h54, ?_, ((((G30.trans g43).trans g45).trans g48).trans g51).trans g54⟩; rw [dec, aC, fy, aA, rd o30 0 a x0, aA, fy, aA, rd o30 1 b x1, aA, fy, aA, rd o30 2 c x2, aA, fy, aA, rd o30 3 d x3, aA, fy, aA, rd o30 4 e x4, aA, b3, f43, aB, rd q43 4 e x4, gF, eM, rd q43 3 d x3, gF, eM, rd q43 2 c x2, gF, eM, rd q43 1 b x1, gF, eM,
       b3, f45, aB, rd q45 4 e x4, gF, eM, rd q45 3 d x3, gF, eM, rd q45 2 c x2, gF, eM, eY (by unfold fJ; omega), aA, b3, f48, aB, rd q48 4 e x4, gF, eM, rd q48 3 d x3, gF, eM, eY (by simp only [List.length_append]; unfold fJ; omega), aA,
       b3, f51, aB, rd q51 4 e x4, gF, eM, eY (by simp only [List.length_append]; unfold fJ; omega), aA, b3, f54, aB, eY (by simp only [List.length_append]; unfold fJ; omega), aA, if_pos e0, hle]
     simp [oX]
   · have dec : (!decide ((sF T o.path).2 = 0)) = true := by simp [e0]
     rw [dec, aD, if_neg e0]; exact ⟨h30, rfl, G30⟩
 rw [show (o.kind == Int.ofNat 10) = false from by rw [beq_eq_false_iff_ne]; exact c10, aC, if_neg c10]
 obtain ⟨w, h60, f60, r60, g60⟩ := s2 A _ T k o.path h4 r4 hInv (by omega) hpl
 have hok2 := aLG hInv hk o.path; rw [o24.all (n := 2) rfl, aA, fx, aA, o4.read (j := 3) rfl, aA, b2, f60, aB, aN, aA, aM, aA, bL, aA]; by_cases e0 : (lO T o.path).2 = 0
 · have dec : (!decide ((lO T o.path).2 = 0)) = false := by rw [e0]; rfl
   obtain ⟨h65, f65, g65⟩ := s4 w _ h60 r60 hok2; rw [dec, aC, if_pos e0, b4, f65, aB]; exact ⟨h65, rfl, (G4.trans g60).trans g65⟩
 · have dec : (!decide ((lO T o.path).2 = 0)) = true := by simp [e0]
   rw [dec, aD, if_neg e0]; exact ⟨h60, rfl, G4.trans g60⟩
def aIV (B : cB) : Prop := ∀ (A : Nat -> Prop) (v : DV) (T : TreeP) (k : Nat) (o : tM) (h : H), eB A h v T -> Inv k T -> k <= 256 -> o.ok -> (∀ c, h.size <= c -> A c) ->
 ∃ v' h', B [v, .agg (qR o)] h = some (.tup [v', ii ((tX T o).2.1), .str (tX T o).2.2], h') /\ eB A h' v' (tX T o).1 /\ aI h h'
theorem qA {E : bG} {A A' : Nat -> Prop} {T' : TreeP} {b5 b16 e : Nat} {v' : DV} {L5 L16 : List DV} {h hh : H} (hR : eB A' hh v' T') (g : aI h hh) (o5 : bD hh b5 L5) (h5 : L5.length = 2) (o16 : bD hh b16 L16) (h16 : L16.length = 2) (n : b5 ≠ b16) (n5 : ¬ A' b5) (n16 : ¬ A' b16) (z5 : h.size <= b5) (z16 : h.size <= b16) (hA : ∀ c, A' c -> A c) :
   ∃ h', (wK (bS 2 (.ptr b16 0) v' hh) λ _ h31 => vU E (.ptr b5 0) (.ptr b16 0) (ii e) h31) = some (.tup [v', ii e, .str []], h') /\ eB A h' v' T' /\ aI h h' := by
 obtain ⟨s, rfl, hs⟩ := hR.agg; have one2 : ([s, ii T'.gen]).all DV.one = true := by simp only [List.all_cons, List.all_nil, hs]; rfl
 obtain ⟨h31, f31, o31, k31⟩ := o16.setAll (n := 2) (cs := [s, ii T'.gen]) h16 rfl one2; obtain ⟨h3, f3, o3, k3⟩ := (bD.but o5 n k31).setAll (n := 2) (cs := [s, ii T'.gen]) h5 rfl one2; refine ⟨h3, ?_, (hR.move (A' := A') (Nat.le_of_eq k31.size.symm) (λ c hc _ => k31.get c λ e => n16 (e ▸ hc)) (λ _ x _ => x)).move (Nat.le_of_eq k3.size.symm) (λ c hc _ => k3.get c λ e => n5 (e ▸ hc)) (λ c hc _ => hA c hc), k3.grown (k31.grown g z16) z5⟩
 rw [f31, aB]; unfold vU; rw [o31.all (n := 2) rfl, aA, f3, aB, o3.all (n := 2) rfl, aA]
theorem aVt {E : bG} (D : aKp E) (hC : bP E 18 xK) (hAsk : bP E 73 aET) : aIV (S23 E) := by
 obtain ⟨B8, b8, s8⟩ := hC.call; obtain ⟨B9, b9, s9⟩ := hAsk.call; intro A v T k o h hR hI hk256 hok hA0; have hk : k < 900 := by omega
 obtain ⟨hk0, ha0, hn0, okp, oko, okt⟩ := id hok; obtain ⟨s, ev, hs⟩ := hR.agg; subst ev; obtain ⟨h2, eh2, g2, o2⟩ := aO h 2 2 [s, ii T.gen] rfl; have z2 : h2.size = h.size + 1 := by rw [eh2]; exact H.size_push _ _
 obtain ⟨h4, eh4, g4, o4⟩ := aO h2 6 6 (qR o) rfl; have z4 : h4.size = h2.size + 1 := by rw [eh4]; exact H.size_push _ _
 obtain ⟨h6, eh6, g6, o6⟩ := aO h4 2 2 [.nils, ii 0] rfl; have z6 : h6.size = h4.size + 1 := by rw [eh6]; exact H.size_push _ _
 obtain ⟨h9, f9, g9⟩ := s8 o h6; have z9 := g9.size; obtain ⟨h17, eh17, g17, o17⟩ := aO h9 2 2 [.nils, ii 0] rfl; have z17 : h17.size = h9.size + 1 := by rw [eh17]; exact H.size_push _ _
 have one2 : ([s, ii T.gen]).all DV.one = true := by simp only [List.all_cons, List.all_nil, hs]; rfl
 obtain ⟨h19, f19_, o19, k19⟩ := o17.setAll (n := 2) (cs := [s, ii T.gen]) rfl rfl one2; have z19 : h19.size = h17.size := k19.size; have G9 : aI h h9 := ((g2.trans g4).trans g6).trans g9; have G19 : aI h h19 := k19.grown (G9.trans g17) (by omega)
 have q2 : bD h19 h.size [s, ii T.gen] := bD.but ((((o2.grown g4).grown g6).grown g9).grown g17) (by omega) k19
 have q4 : bD h19 h2.size (qR o) := bD.but (((o4.grown g6).grown g9).grown g17) (by omega) k19
 have q6 : bD h19 h4.size [.nils, ii 0] := bD.but ((o6.grown g9).grown g17) (by omega) k19
 have q29 : bD h9 h.size [s, ii T.gen] := ((o2.grown g4).grown g6).grown g9; obtain ⟨A', hA'⟩ : ∃ A' : Nat -> Prop, A' = λ c => (A c /\ c < h.size) \/ h19.size <= c := ⟨_, rfl⟩
 have r19 : eB A' h19 (.agg [s, ii T.gen]) T := hR.move G19.size (λ c _ hc => G19.get c hc) λ c hc hl => by rw [hA']; exact .inl ⟨hc, hl⟩
 have hA : ∀ c, h19.size <= c -> A' c := λ c hc => by rw [hA']; exact .inr hc
 have back : ∀ c, A' c -> A c := λ c hc => by rw [hA'] at hc; exact hc.elim (·.1) λ x => hA0 c (by omega)
 have n6 : ¬ A' h4.size := λ x => by rw [hA'] at x; rcases x with ⟨_, x⟩ | x <;> omega
 have n17 : ¬ A' h9.size := λ x => by rw [hA'] at x; rcases x with ⟨_, x⟩ | x <;> omega
 have fx : ∀ q, aH q (.ptr h2.size 0) = some (.ptr h2.size q) := λ q => by rw [aK, Nat.zero_add]
 have rd0 : aF h19.get (.ptr h2.size 0) = some (.int .i64 o.kind) := q4.read rfl; have rd1 : aF h19.get (.ptr h2.size 1) = some (.int .i64 o.at_) := q4.read rfl; have rd2 : aF h19.get (.ptr h2.size 2) = some (.int .i64 o.n) := q4.read rfl; have rd3 : aF h19.get (.ptr h2.size 3) = some (.str o.path) := q4.read rfl; have rd4 : aF h19.get (.ptr h2.size 4) = some (.str o.other) := q4.read rfl; have rd5 : aF h19.get (.ptr h2.size 5) = some (.str o.text) := q4.read rfl; show ∃ v' h', aSR E (.agg [s, ii T.gen]) (.agg (qR o)) h = _ /\ _; unfold aSR tX; rw [nbx eh2 rfl, nbx eh4 rfl, bN, <- eh6, (o4.grown g6).all (n := 6) rfl, aA, b8, f9, aB, bL, aA]; by_cases e0 : tU o = 0
 · obtain ⟨hk1, hk11, hpl0, hol0, htl0⟩ := aWN e0; have hpl : o.path.length < 140737488355328 := by omega
   have hol : o.other.length < 140737488355328 := by omega
   have dec : (!decide (tU o = 0)) = false := by rw [e0]; rfl
   rw [dec, aC, if_pos e0, q29.all (n := 2) rfl, aA, bN, <- eh17, f19_, aB, fx, aA, rd0, aA]; rw [gM, aA]; by_cases c1 : o.kind = 1
   · obtain ⟨B0, b0, s0⟩ := D.md.call; obtain ⟨v', h27, f27, r27, g27⟩ := s0 A' _ T k o.path 2 h19 r19 hI hk okp hpl hA; have eo : tZ T o = mkT T o.path 2 := by unfold tZ; rw [if_pos c1]
     rw [show (o.kind == Int.ofNat 1) = true from by rw [beq_iff_eq]; exact c1, aD, if_pos (show o.kind <= 8 by omega), eo, q2.all (n := 2) rfl, aA, fx, aA, rd3, aA, b0, f27, aB, aN, aA, aM, aA]
     obtain ⟨h', y1, y2, y3⟩ := qA (E := E) (A := A) (e := (mkT T o.path 2).2) r27 (G19.trans g27) (q6.grown g27) rfl (o19.grown g27) rfl (by omega) n6 n17 (by omega) (by omega) back
     exact ⟨v', h', y1, y2, y3⟩
   rw [show (o.kind == Int.ofNat 1) = false from by rw [beq_eq_false_iff_ne]; exact c1, aC]
   rw [gM, aA]; by_cases c2 : o.kind = 2
   · obtain ⟨B0, b0, s0⟩ := D.md.call; obtain ⟨v', h27, f27, r27, g27⟩ := s0 A' _ T k o.path 1 h19 r19 hI hk okp hpl hA; have eo : tZ T o = mkT T o.path 1 := by unfold tZ; rw [if_neg c1, if_pos c2]
     rw [show (o.kind == Int.ofNat 2) = true from by rw [beq_iff_eq]; exact c2, aD, if_pos (show o.kind <= 8 by omega), eo, q2.all (n := 2) rfl, aA, fx, aA, rd3, aA, b0, f27, aB, aN, aA, aM, aA]
     obtain ⟨h', y1, y2, y3⟩ := qA (E := E) (A := A) (e := (mkT T o.path 1).2) r27 (G19.trans g27) (q6.grown g27) rfl (o19.grown g27) rfl (by omega) n6 n17 (by omega) (by omega) back
     exact ⟨v', h', y1, y2, y3⟩
   rw [show (o.kind == Int.ofNat 2) = false from by rw [beq_eq_false_iff_ne]; exact c2, aC]
   rw [gM, aA]; by_cases c3 : o.kind = 3
   · obtain ⟨B0, b0, s0⟩ := D.un.call; obtain ⟨v', h27, f27, r27, g27⟩ := s0 A' _ T k o.path h19 r19 hI hk hpl hA; have eo : tZ T o = jL T o.path := by unfold tZ; rw [if_neg c1, if_neg c2, if_pos c3]
     rw [show (o.kind == Int.ofNat 3) = true from by rw [beq_iff_eq]; exact c3, aD, if_pos (show o.kind <= 8 by omega), eo, q2.all (n := 2) rfl, aA, fx, aA, rd3, aA, b0, f27, aB, aN, aA, aM, aA]
     obtain ⟨h', y1, y2, y3⟩ := qA (E := E) (A := A) (e := (jL T o.path).2) r27 (G19.trans g27) (q6.grown g27) rfl (o19.grown g27) rfl (by omega) n6 n17 (by omega) (by omega) back
     exact ⟨v', h', y1, y2, y3⟩
   rw [show (o.kind == Int.ofNat 3) = false from by rw [beq_eq_false_iff_ne]; exact c3, aC]
   rw [gM, aA]; by_cases c4 : o.kind = 4
   · obtain ⟨B0, b0, s0⟩ := D.rm.call; obtain ⟨v', h27, f27, r27, g27⟩ := s0 A' _ T k o.path h19 r19 hI hk hpl hA; have eo : tZ T o = lV T o.path := by unfold tZ; rw [if_neg c1, if_neg c2, if_neg c3, if_pos c4]
     rw [show (o.kind == Int.ofNat 4) = true from by rw [beq_iff_eq]; exact c4, aD, if_pos (show o.kind <= 8 by omega), eo, q2.all (n := 2) rfl, aA, fx, aA, rd3, aA, b0, f27, aB, aN, aA, aM, aA]
     obtain ⟨h', y1, y2, y3⟩ := qA (E := E) (A := A) (e := (lV T o.path).2) r27 (G19.trans g27) (q6.grown g27) rfl (o19.grown g27) rfl (by omega) n6 n17 (by omega) (by omega) back
     exact ⟨v', h', y1, y2, y3⟩
   rw [show (o.kind == Int.ofNat 4) = false from by rw [beq_eq_false_iff_ne]; exact c4, aC]
   rw [gM, aA]; by_cases c5 : o.kind = 5
   · obtain ⟨B0, b0, s0⟩ := D.rn.call; obtain ⟨v', h27, f27, r27, g27⟩ := s0 A' _ T k o.path o.other h19 r19 hI hk hpl hol oko hA; have eo : tZ T o = jN T o.path o.other := by unfold tZ; rw [if_neg c1, if_neg c2, if_neg c3, if_neg c4, if_pos c5]
     rw [show (o.kind == Int.ofNat 5) = true from by rw [beq_iff_eq]; exact c5, aD, if_pos (show o.kind <= 8 by omega), eo, q2.all (n := 2) rfl, aA, fx, aA, rd3, aA, fx, aA, rd4, aA, b0, f27, aB, aN, aA, aM, aA]
     obtain ⟨h', y1, y2, y3⟩ := qA (E := E) (A := A) (e := (jN T o.path o.other).2) r27 (G19.trans g27) (q6.grown g27) rfl (o19.grown g27) rfl (by omega) n6 n17 (by omega) (by omega) back
     exact ⟨v', h', y1, y2, y3⟩
   rw [show (o.kind == Int.ofNat 5) = false from by rw [beq_eq_false_iff_ne]; exact c5, aC]
   rw [gM, aA]; by_cases c6 : o.kind = 6
   · obtain ⟨B0, b0, s0⟩ := D.ln.call; obtain ⟨v', h27, f27, r27, g27⟩ := s0 A' _ T k o.path o.other h19 r19 hI hk hpl hol oko hA; have eo : tZ T o = qF T o.path o.other := by unfold tZ; rw [if_neg c1, if_neg c2, if_neg c3, if_neg c4, if_neg c5, if_pos c6]
     rw [show (o.kind == Int.ofNat 6) = true from by rw [beq_iff_eq]; exact c6, aD, if_pos (show o.kind <= 8 by omega), eo, q2.all (n := 2) rfl, aA, fx, aA, rd3, aA, fx, aA, rd4, aA, b0, f27, aB, aN, aA, aM, aA]
     obtain ⟨h', y1, y2, y3⟩ := qA (E := E) (A := A) (e := (qF T o.path o.other).2) r27 (G19.trans g27) (q6.grown g27) rfl (o19.grown g27) rfl (by omega) n6 n17 (by omega) (by omega) back
     exact ⟨v', h', y1, y2, y3⟩
   rw [show (o.kind == Int.ofNat 6) = false from by rw [beq_eq_false_iff_ne]; exact c6, aC]
   rw [gM, aA]; by_cases c7 : o.kind = 7
   · obtain ⟨B0, b0, s0⟩ := D.wr.call; obtain ⟨v', h27, f27, r27, g27⟩ := s0 A' _ T k o.path o.at_ o.text h19 r19 hI hk hpl okt ha0 hA; have eo : tZ T o = lS T o.path o.at_ o.text := by unfold tZ; rw [if_neg c1, if_neg c2, if_neg c3, if_neg c4, if_neg c5, if_neg c6, if_pos c7]
     rw [show (o.kind == Int.ofNat 7) = true from by rw [beq_iff_eq]; exact c7, aD, if_pos (show o.kind <= 8 by omega), eo, q2.all (n := 2) rfl, aA, fx, aA, rd3, aA, fx, aA, rd1, aA, fx, aA, rd5, aA, b0, f27, aB, aN, aA, aM, aA]
     obtain ⟨h', y1, y2, y3⟩ := qA (E := E) (A := A) (e := (lS T o.path o.at_ o.text).2) r27 (G19.trans g27) (q6.grown g27) rfl (o19.grown g27) rfl (by omega) n6 n17 (by omega) (by omega) back
     exact ⟨v', h', y1, y2, y3⟩
   rw [show (o.kind == Int.ofNat 7) = false from by rw [beq_eq_false_iff_ne]; exact c7, aC]
   rw [gM, aA]; by_cases c8 : o.kind = 8
   · obtain ⟨B0, b0, s0⟩ := D.tr.call; obtain ⟨v', h27, f27, r27, g27⟩ := s0 A' _ T k o.path o.n h19 r19 hI hk hpl hn0 hA; have eo : tZ T o = lT T o.path o.n := by unfold tZ; rw [if_neg c1, if_neg c2, if_neg c3, if_neg c4, if_neg c5, if_neg c6, if_neg c7, if_pos c8]
     rw [show (o.kind == Int.ofNat 8) = true from by rw [beq_iff_eq]; exact c8, aD, if_pos (show o.kind <= 8 by omega), eo, q2.all (n := 2) rfl, aA, fx, aA, rd3, aA, fx, aA, rd2, aA, b0, f27, aB, aN, aA, aM, aA]
     obtain ⟨h', y1, y2, y3⟩ := qA (E := E) (A := A) (e := (lT T o.path o.n).2) r27 (G19.trans g27) (q6.grown g27) rfl (o19.grown g27) rfl (by omega) n6 n17 (by omega) (by omega) back
     exact ⟨v', h', y1, y2, y3⟩
   rw [show (o.kind == Int.ofNat 8) = false from by rw [beq_eq_false_iff_ne]; exact c8, aC]
   obtain ⟨h115, f115, g115⟩ := s9 A' _ T k o h19 r19 hI hk256 hok hpl; obtain ⟨h120, f120, o120, k120⟩ := (q6.grown g115).setAll (n := 2) (cs := [s, ii T.gen]) rfl rfl one2; rw [if_neg (show ¬ o.kind <= 8 by omega)]
   refine ⟨_, h120, ?_, (r19.grown g115).move (Nat.le_of_eq k120.size.symm) (λ c hc _ => k120.get c λ e => n6 (e ▸ hc)) (λ c hc _ => back c hc), k120.grown (G19.trans g115) (by omega)⟩
   rw [q2.all (n := 2) rfl, aA, q4.all (n := 6) rfl, aA, b9, f115, aB, aN, aA, aM, aA, (q2.grown g115).all (n := 2) rfl, aA, f120, aB, o120.all (n := 2) rfl, aA]
 · have dec : (!decide (tU o = 0)) = true := by simp [e0]
   obtain ⟨h13, f13, o13, k13⟩ := (o6.grown g9).setAll (n := 2) (cs := [s, ii T.gen]) rfl rfl one2; obtain ⟨A2, hA2⟩ : ∃ A2 : Nat -> Prop, A2 = λ c => A c /\ c < h.size := ⟨_, rfl⟩
   have r9 : eB A2 h9 (.agg [s, ii T.gen]) T := hR.move G9.size (λ c _ hc => G9.get c hc) λ c hc hl => by rw [hA2]; exact ⟨hc, hl⟩
   rw [if_neg e0]; refine ⟨_, h13, ?_, r9.move (Nat.le_of_eq k13.size.symm) (λ c hc _ => k13.get c λ e => by rw [hA2] at hc; have := hc.2; omega) (λ c hc _ => by rw [hA2] at hc; exact hc.1), k13.grown G9 (by omega)⟩
   rw [dec, aD, q29.all (n := 2) rfl, aA, f13, aB, o13.all (n := 2) rfl, aA]
def aWB (t b b2 : Nat) (o : tM) : DV :=
 if o.kind = 1 then .ifc 102 (.agg [.fn (.func 40) [.ptr t 0] [], .str o.path]) else
 if o.kind = 2 then .ifc 102 (.agg [.fn (.func 41) [.ptr t 0] [], .str o.path]) else
 if o.kind = 3 then .ifc 102 (.agg [.fn (.func 42) [.ptr t 0] [], .str o.path]) else
 if o.kind = 4 then .ifc 102 (.agg [.fn (.func 43) [.ptr t 0] [], .str o.path]) else
 if o.kind = 5 then .ifc 104 (.agg [.fn (.func 44) [.ptr t 0] [], .str o.path, .str o.other]) else
 if o.kind = 6 then .ifc 104 (.agg [.fn (.func 45) [.ptr t 0] [], .str o.path, .str o.other]) else
 if o.kind = 7 then .ifc 106 (.agg [.fn (.func 113) [] [.ptr b 0, .ptr b2 0]]) else
 if o.kind = 8 then .ifc 106 (.agg [.fn (.func 114) [] [.ptr b 0, .ptr b2 0]]) else
 if o.kind = 9 then .ifc 109 (.agg [.fn (.func 115) [] [.ptr b 0, .ptr b2 0]]) else
 if o.kind = 10 then .ifc 109 (.agg [.fn (.func 116) [] [.ptr b 0, .ptr b2 0]]) else
 .ifc 109 (.agg [.fn (.func 118) [] [.ptr b 0, .ptr b2 0]])
def aFk (B : cB) : Prop := ∀ (t : Nat) (o : tM) (h : H), ∃ h4 b b2, B [.ptr t 0, .agg (qR o)] h = some (aWB t b b2 o, h4) /\ aI h h4 /\ bD h4 b [.ptr t 0] /\ bD h4 b2 (qR o)
theorem qV {a : Int} {n : Nat} {x y : aV} (h : a = Int.ofNat n) : bK (.bool (a == Int.ofNat n)) x y = x := by
 rw [show (a == Int.ofNat n) = true from by rw [beq_iff_eq]; exact h, aD]
theorem qU {a : Int} {n : Nat} {x y : aV} (h : ¬ a = Int.ofNat n) : bK (.bool (a == Int.ofNat n)) x y = y := by
 rw [show (a == Int.ofNat n) = false from by rw [beq_eq_false_iff_ne]; exact h, aC]
theorem aUb {E : bG} : aFk (S64 E) := by
 intro t o h; obtain ⟨h2, eh2, g2, o2⟩ := aO h 1 1 [.ptr t 0] rfl; obtain ⟨h4, eh4, g4, o4⟩ := aO h2 6 6 (qR o) rfl; refine ⟨h4, h.size, h2.size, ?_, g2.trans g4, o2.grown g4, o4⟩; have fx : ∀ q, aH q (.ptr h2.size 0) = some (.ptr h2.size q) := λ q => by rw [aK, Nat.zero_add]
 have rt : aF h4.get (.ptr h.size 0) = some (.ptr t 0) := (o2.grown g4).read rfl; have rd0 : aF h4.get (.ptr h2.size 0) = some (.int .i64 o.kind) := o4.read rfl; have rd3 : aF h4.get (.ptr h2.size 3) = some (.str o.path) := o4.read rfl; have rd4 : aF h4.get (.ptr h2.size 4) = some (.str o.other) := o4.read rfl; show aSs E (.ptr t 0) (.agg (qR o)) h = _; unfold aSs aWB; rw [oN rfl, <- eh2, nbx eh4 rfl]; simp only [fx, rt, rd0, rd3, rd4, gM, aA]; by_cases c1 : o.kind = 1
 · rw [qV (n := 1) c1, if_pos c1]; rfl
 rw [qU (n := 1) c1, if_neg c1]; by_cases c2 : o.kind = 2
 · rw [qV (n := 2) c2, if_pos c2]; rfl
 rw [qU (n := 2) c2, if_neg c2]; by_cases c3 : o.kind = 3
 · rw [qV (n := 3) c3, if_pos c3]; rfl
 rw [qU (n := 3) c3, if_neg c3]; by_cases c4 : o.kind = 4
 · rw [qV (n := 4) c4, if_pos c4]; rfl
 rw [qU (n := 4) c4, if_neg c4]; by_cases c5 : o.kind = 5
 · rw [qV (n := 5) c5, if_pos c5]; rfl
 rw [qU (n := 5) c5, if_neg c5]; by_cases c6 : o.kind = 6
 · rw [qV (n := 6) c6, if_pos c6]; rfl
 rw [qU (n := 6) c6, if_neg c6]; by_cases c7 : o.kind = 7
 · rw [qV (n := 7) c7, if_pos c7]; rfl
 rw [qU (n := 7) c7, if_neg c7]; by_cases c8 : o.kind = 8
 · rw [qV (n := 8) c8, if_pos c8]; rfl
 rw [qU (n := 8) c8, if_neg c8]; by_cases c9 : o.kind = 9
 · rw [qV (n := 9) c9, if_pos c9]; rfl
 rw [qU (n := 9) c9, if_neg c9]; by_cases c10 : o.kind = 10
 · rw [qV (n := 10) c10, if_pos c10]; rfl
 rw [qU (n := 10) c10, if_neg c10]
 rfl
theorem aII {E : bG} (g t : Nat) (p : Ln) (K : DV -> H -> aV) (h10 : H) : ∃ h', aI h10 h' /\ (dN 2 2 (.list [.nilf, (.str [])]) h10 λ x14 h15 => wK (bS 2 x14 (.agg [.fn (.func g) [.ptr t 0] [], .str p]) h15) λ x16 h17 => vK (aH 0 x14) λ x18 => vK (aF h17.get x18) λ x19 => vK (aH 1 x14) λ x20 => vK (aF h17.get x20) λ x21 => wK (kE E x19 [x21] h17) K) = wK (aE E g [.ptr t 0, .str p] h') K := by
 obtain ⟨h15, e15, g15, o15⟩ := aO h10 2 2 [.nilf, (.str [])] rfl; obtain ⟨h17, f17, o17, k17⟩ := o15.setAll (n := 2) (cs := [.fn (.func g) [.ptr t 0] [], .str p]) rfl rfl rfl; have fx : ∀ q, aH q (.ptr h10.size 0) = some (.ptr h10.size q) := λ q => by rw [aK, Nat.zero_add]
 refine ⟨h17, k17.grown g15 (Nat.le_refl _), ?_⟩; rw [bN, <- e15, f17, aB, fx, aA, o17.read (j := 0) rfl, aA, fx, aA, o17.read (j := 1) rfl, aA]; rfl
theorem aWC {E : bG} (g t : Nat) (p q : Ln) (K : DV -> H -> aV) (h10 : H) : ∃ h', aI h10 h' /\ (dN 3 3 (.list [.nilf, (.str []), (.str [])]) h10 λ x14 h15 => wK (bS 3 x14 (.agg [.fn (.func g) [.ptr t 0] [], .str p, .str q]) h15) λ x16 h17 => vK (aH 0 x14) λ x18 => vK (aF h17.get x18) λ x19 => vK (aH 1 x14) λ x20 => vK (aF h17.get x20) λ x21 => vK (aH 2 x14) λ x35 => vK (aF h17.get x35) λ x36 => wK (kE E x19 [x21, x36] h17) K) = wK (aE E g [.ptr t 0, .str p, .str q] h') K := by
 obtain ⟨h15, e15, g15, o15⟩ := aO h10 3 3 [.nilf, (.str []), (.str [])] rfl; obtain ⟨h17, f17, o17, k17⟩ := o15.setAll (n := 3) (cs := [.fn (.func g) [.ptr t 0] [], .str p, .str q]) rfl rfl rfl; have fx : ∀ q, aH q (.ptr h10.size 0) = some (.ptr h10.size q) := λ q => by rw [aK, Nat.zero_add]
 refine ⟨h17, k17.grown g15 (Nat.le_refl _), ?_⟩; rw [bN, <- e15, f17, aB, fx, aA, o17.read (j := 0) rfl, aA, fx, aA, o17.read (j := 1) rfl, aA, fx, aA, o17.read (j := 2) rfl, aA]; rfl
theorem aAy {E : bG} (g b b2 : Nat) (K : DV -> H -> aV) (h10 : H) : ∃ h', aI h10 h' /\ (dN 1 1 (.list [.nilf]) h10 λ x14 h15 => wK (bS 1 x14 (.agg [.fn (.func g) [] [.ptr b 0, .ptr b2 0]]) h15) λ x16 h17 => vK (aH 0 x14) λ x18 => vK (aF h17.get x18) λ x19 => wK (kE E x19 [] h17) K) = wK (aE E g [.ptr b 0, .ptr b2 0] h') K := by
 obtain ⟨h15, e15, g15, o15⟩ := aO h10 1 1 [.nilf] rfl; obtain ⟨h17, f17, o17, k17⟩ := o15.setAll (n := 1) (cs := [.fn (.func g) [] [.ptr b 0, .ptr b2 0]]) rfl rfl rfl; have fx : ∀ q, aH q (.ptr h10.size 0) = some (.ptr h10.size q) := λ q => by rw [aK, Nat.zero_add]
 refine ⟨h17, k17.grown g15 (Nat.le_refl _), ?_⟩; rw [bN, <- e15, f17, aB, fx, aA, o17.read (j := 0) rfl, aA]; rfl
theorem uJ {t : Nat} {z v : DV} : mI t z true (.ifc t v) = some (.tup [v, .bool true]) := by simp [mI]
theorem oU {t u : Nat} {z v : DV} (h : Nat.beq u t = false) : mI t z true (.ifc u v) = some (.tup [z, .bool false]) := by simp [mI, h]
def iX (f : TreeP -> tM -> TreeP × DV) (B : cB) : Prop := ∀ (t : Nat) (T : TreeP) (C : List DV) (FN : Nat -> Ln) (k : Nat) (o : tM) (b b2 : Nat) (h : H), dA h t T C FN -> Inv k T -> k <= 256 -> o.ok -> o.path.length < 140737488355328 -> bD h b [.ptr t 0] -> bD h b2 (qR o) ->
 ∃ h' C' FN', B [.ptr b 0, .ptr b2 0] h = some ((f T o).2, h') /\ dA h' t (f T o).1 C' FN' /\ iW t h FN h' FN'
def bEH (T : TreeP) (o : tM) : TreeP × DV := ((lS T o.path o.at_ o.text).1, ii ((lS T o.path o.at_ o.text).2))
def bEG (T : TreeP) (o : tM) : TreeP × DV := ((lT T o.path o.n).1, ii ((lT T o.path o.n).2))
def bAu (T : TreeP) (o : tM) : TreeP × DV := (T, .tup [ii ((tO T o.path o.at_ o.n).2), .str (tO T o.path o.at_ o.n).1])
def bAt (T : TreeP) (o : tM) : TreeP × DV := (T, .tup [ii ((aPd T o.path).1), .str (aPd T o.path).2])
def bAs (T : TreeP) (o : tM) : TreeP × DV := (T, .tup [ii ((aPe T o.path).1), .str (aPe T o.path).2])
theorem aUr {E : bG} (hF : bP E 46 tH) : iX bEH (aXX E) := by
 obtain ⟨B0, b0, s0⟩ := hF.call; intro t T C FN k o b b2 h hT hI hk hok hpl p q; obtain ⟨hk0, ha0, hn0, okp, oko, okt⟩ := id hok; have fx : ∀ q, aH q (.ptr b2 0) = some (.ptr b2 q) := λ q => by rw [aK, Nat.zero_add]
 obtain ⟨h', C', FN', y1, y2, y3⟩ := s0 t T C FN k o.path o.at_ o.text h hT hI (by omega) hpl okt ha0
 refine ⟨h', C', FN', ?_, y2, y3⟩; show aKf E (.ptr b 0) (.ptr b2 0) h = _; unfold aKf; rw [p.read (j := 0) rfl, aA, fx, aA, q.read (j := 3) rfl, aA, fx, aA, q.read (j := 1) rfl, aA, fx, aA, q.read (j := 5) rfl, aA, b0, y1, aB]; rfl
theorem aUq {E : bG} (hF : bP E 47 tI) : iX bEG (aXW E) := by
 obtain ⟨B0, b0, s0⟩ := hF.call; intro t T C FN k o b b2 h hT hI hk hok hpl p q; obtain ⟨hk0, ha0, hn0, okp, oko, okt⟩ := id hok; have fx : ∀ q, aH q (.ptr b2 0) = some (.ptr b2 q) := λ q => by rw [aK, Nat.zero_add]
 obtain ⟨h', C', FN', y1, y2, y3⟩ := s0 t T C FN k o.path o.n h hT hI (by omega) hpl hn0
 refine ⟨h', C', FN', ?_, y2, y3⟩; show aKe E (.ptr b 0) (.ptr b2 0) h = _; unfold aKe; rw [p.read (j := 0) rfl, aA, fx, aA, q.read (j := 3) rfl, aA, fx, aA, q.read (j := 2) rfl, aA, b0, y1, aB]; rfl
theorem aUp {E : bG} (hF : bP E 33 aBB) : iX bAu (aXV E) := by
 obtain ⟨B0, b0, s0⟩ := hF.call; intro t T C FN k o b b2 h hT hI hk hok hpl p q; obtain ⟨hk0, ha0, hn0, okp, oko, okt⟩ := id hok; have fx : ∀ q, aH q (.ptr b2 0) = some (.ptr b2 q) := λ q => by rw [aK, Nat.zero_add]
 obtain ⟨h', y1, g⟩ := s0 t T C FN k o.path o.at_ o.n h hT hI (by omega) hpl ha0 hn0
 refine ⟨h', C, FN, ?_, hT.grown g, .grown g⟩; show aKd E (.ptr b 0) (.ptr b2 0) h = _; unfold aKd; rw [p.read (j := 0) rfl, aA, fx, aA, q.read (j := 3) rfl, aA, fx, aA, q.read (j := 1) rfl, aA, fx, aA, q.read (j := 2) rfl, aA, b0, y1, aB, aN, aA, aM, aA]; rfl
theorem aUo {E : bG} (hF : bP E 117 (xL aPd)) : iX bAt (aXU E) := by
 obtain ⟨B0, b0, s0⟩ := hF.call; intro t T C FN k o b b2 h hT hI hk hok hpl p q; obtain ⟨hk0, ha0, hn0, okp, oko, okt⟩ := id hok; have fx : ∀ q, aH q (.ptr b2 0) = some (.ptr b2 q) := λ q => by rw [aK, Nat.zero_add]
 obtain ⟨h', y1, g⟩ := s0 t T C FN k o.path h hT hI hk hpl; refine ⟨h', C, FN, ?_, hT.grown g, .grown g⟩; show aKc E (.ptr b 0) (.ptr b2 0) h = _; unfold aKc; rw [p.read (j := 0) rfl, aA, fx, aA, q.read (j := 3) rfl, aA, b0, y1, aB, aN, aA, aM, aA]; rfl
theorem aUn {E : bG} (hF : bP E 119 (xL aPe)) : iX bAs (aXS E) := by
 obtain ⟨B0, b0, s0⟩ := hF.call; intro t T C FN k o b b2 h hT hI hk hok hpl p q; obtain ⟨hk0, ha0, hn0, okp, oko, okt⟩ := id hok; have fx : ∀ q, aH q (.ptr b2 0) = some (.ptr b2 q) := λ q => by rw [aK, Nat.zero_add]
 obtain ⟨h', y1, g⟩ := s0 t T C FN k o.path h hT hI hk hpl; refine ⟨h', C, FN, ?_, hT.grown g, .grown g⟩; show aJZ E (.ptr b 0) (.ptr b2 0) h = _; unfold aJZ; rw [p.read (j := 0) rfl, aA, fx, aA, q.read (j := 3) rfl, aA, b0, y1, aB, aN, aA, aM, aA]; rfl
structure aYX (E : bG) : Prop where
 A : bP E 113 (iX bEH)
 B : bP E 114 (iX bEG)
 C : bP E 115 (iX bAu)
 D : bP E 116 (iX bAt)
 E : bP E 118 (iX bAs)
def aFl (B : cB) : Prop := ∀ (t : Nat) (T : TreeP) (C : List DV) (FN : Nat -> Ln) (k : Nat) (o : tM) (h : H), dA h t T C FN -> Inv k T -> k <= 256 -> o.ok ->
 ∃ h' C' FN', B [.ptr t 0, .agg (qR o)] h = some (.tup [ii ((tX T o).2.1), .str (tX T o).2.2], h') /\ dA h' t (tX T o).1 C' FN' /\ iW t h FN h' FN'
theorem aUe {E : bG} (Q : aDo E) (R : aYX E) (hC : bP E 17 xK) (hD : bP E 64 aFk) : aFl (S19 E) := by
 obtain ⟨B8, b8, s8⟩ := hC.call; obtain ⟨B9, b9, s9⟩ := hD.call; intro t T C FN k o h hT hI hk256 hok; have hk : k < 900 := by omega
 obtain ⟨hk0, ha0, hn0, okp, oko, okt⟩ := id hok; obtain ⟨h2, eh2, g2, o2⟩ := aO h 6 6 (qR o) rfl; obtain ⟨h6, f6, g6⟩ := s8 o h2; have G6 := g2.trans g6; show ∃ h' C' FN', aSU E (.ptr t 0) (.agg (qR o)) h = _ /\ _; unfold aSU tX; rw [nbx eh2 rfl, dG, aA, aC, o2.all (n := 6) rfl, aA, b8, f6, aB, bL, aA]; by_cases e0 : tU o = 0
 · obtain ⟨hk1, hk11, hpl0, hol0, htl0⟩ := aWN e0; have hpl : o.path.length < 140737488355328 := by omega
   have hol : o.other.length < 140737488355328 := by omega
   have dec : (!decide (tU o = 0)) = false := by rw [e0]; rfl
   obtain ⟨h10, b, b2, f10, g10, ob, ob2⟩ := s9 t o h6; rw [dec, aC, if_pos e0, (o2.grown g6).all (n := 6) rfl, aA, b9, f10, aB]; have G10 := G6.trans g10; have t10 := hT.grown G10; have fin : ∀ {hh h' : H} {FN' : Nat -> Ln}, aI h10 hh -> iW t hh FN h' FN' -> iW t h FN h' FN' := λ g s => (iW.grown (G10.trans g)).trans s
   unfold aWB; by_cases c1 : o.kind = 1
   · obtain ⟨B0, b0, s0⟩ := Q.md.call; obtain ⟨hh, gg, e⟩ := aII (E := E) 40 t o.path (λ x22 h23 => some ((.tup [x22, (.str [])]), h23)) h10
     obtain ⟨h', C', FN', y1, y2, y3⟩ := s0 t T C FN k o.path hh (t10.grown gg) hI hk okp hpl; have eo : tZ T o = mkT T o.path 2 := by unfold tZ; rw [if_pos c1]
     rw [if_pos c1, if_pos (show o.kind <= 8 by omega), eo, uJ, aA, aM, aA, aN, aA, aD, e, b0, y1, aB]
     exact ⟨h', C', FN', rfl, y2, fin gg y3⟩
   by_cases c2 : o.kind = 2
   · obtain ⟨B0, b0, s0⟩ := Q.cr.call; obtain ⟨hh, gg, e⟩ := aII (E := E) 41 t o.path (λ x22 h23 => some ((.tup [x22, (.str [])]), h23)) h10
     obtain ⟨h', C', FN', y1, y2, y3⟩ := s0 t T C FN k o.path hh (t10.grown gg) hI hk okp hpl; have eo : tZ T o = mkT T o.path 1 := by unfold tZ; rw [if_neg c1, if_pos c2]
     rw [if_neg c1, if_pos c2, if_pos (show o.kind <= 8 by omega), eo, uJ, aA, aM, aA, aN, aA, aD, e, b0, y1, aB]
     exact ⟨h', C', FN', rfl, y2, fin gg y3⟩
   by_cases c3 : o.kind = 3
   · obtain ⟨B0, b0, s0⟩ := Q.un.call; obtain ⟨hh, gg, e⟩ := aII (E := E) 42 t o.path (λ x22 h23 => some ((.tup [x22, (.str [])]), h23)) h10
     obtain ⟨h', C', FN', y1, y2, y3⟩ := s0 t T C FN k o.path hh (t10.grown gg) hI hk okp hpl; have eo : tZ T o = jL T o.path := by unfold tZ; rw [if_neg c1, if_neg c2, if_pos c3]
     rw [if_neg c1, if_neg c2, if_pos c3, if_pos (show o.kind <= 8 by omega), eo, uJ, aA, aM, aA, aN, aA, aD, e, b0, y1, aB]
     exact ⟨h', C', FN', rfl, y2, fin gg y3⟩
   by_cases c4 : o.kind = 4
   · obtain ⟨B0, b0, s0⟩ := Q.rm.call; obtain ⟨hh, gg, e⟩ := aII (E := E) 43 t o.path (λ x22 h23 => some ((.tup [x22, (.str [])]), h23)) h10
     obtain ⟨h', C', FN', y1, y2, y3⟩ := s0 t T C FN k o.path hh (t10.grown gg) hI hk okp hpl; have eo : tZ T o = lV T o.path := by unfold tZ; rw [if_neg c1, if_neg c2, if_neg c3, if_pos c4]
     rw [if_neg c1, if_neg c2, if_neg c3, if_pos c4, if_pos (show o.kind <= 8 by omega), eo, uJ, aA, aM, aA, aN, aA, aD, e, b0, y1, aB]
     exact ⟨h', C', FN', rfl, y2, fin gg y3⟩
   by_cases c5 : o.kind = 5
   · obtain ⟨B0, b0, s0⟩ := Q.rn.call; obtain ⟨hh, gg, e⟩ := aWC (E := E) 44 t o.path o.other (λ x22 h23 => some ((.tup [x22, (.str [])]), h23)) h10
     obtain ⟨h', C', FN', y1, y2, y3⟩ := s0 t T C FN k o.path o.other hh (t10.grown gg) hI hk oko hpl hol; have eo : tZ T o = jN T o.path o.other := by unfold tZ; rw [if_neg c1, if_neg c2, if_neg c3, if_neg c4, if_pos c5]
     rw [if_neg c1, if_neg c2, if_neg c3, if_neg c4, if_pos c5, if_pos (show o.kind <= 8 by omega), eo, oU rfl, aA, aM, aA, aN, aA, aC, uJ, aA, aM, aA, aN, aA, aD, e, b0, y1, aB]
     exact ⟨h', C', FN', rfl, y2, fin gg y3⟩
   by_cases c6 : o.kind = 6
   · obtain ⟨B0, b0, s0⟩ := Q.ln.call; obtain ⟨hh, gg, e⟩ := aWC (E := E) 45 t o.path o.other (λ x22 h23 => some ((.tup [x22, (.str [])]), h23)) h10
     obtain ⟨h', C', FN', y1, y2, y3⟩ := s0 t T C FN k o.path o.other hh (t10.grown gg) hI hk oko hpl hol; have eo : tZ T o = qF T o.path o.other := by unfold tZ; rw [if_neg c1, if_neg c2, if_neg c3, if_neg c4, if_neg c5, if_pos c6]
     rw [if_neg c1, if_neg c2, if_neg c3, if_neg c4, if_neg c5, if_pos c6, if_pos (show o.kind <= 8 by omega), eo, oU rfl, aA, aM, aA, aN, aA, aC, uJ, aA, aM, aA, aN, aA, aD, e, b0, y1, aB]
     exact ⟨h', C', FN', rfl, y2, fin gg y3⟩
   by_cases c7 : o.kind = 7
   · obtain ⟨B0, b0, s0⟩ := R.A.call; obtain ⟨hh, gg, e⟩ := aAy (E := E) 113 b b2 (λ x48 h49 => some ((.tup [x48, (.str [])]), h49)) h10
     obtain ⟨h', C', FN', y1, y2, y3⟩ := s0 t T C FN k o b b2 hh (t10.grown gg) hI hk256 hok hpl (ob.grown gg) (ob2.grown gg); have eo : tZ T o = lS T o.path o.at_ o.text := by unfold tZ; rw [if_neg c1, if_neg c2, if_neg c3, if_neg c4, if_neg c5, if_neg c6, if_pos c7]
     rw [if_neg c1, if_neg c2, if_neg c3, if_neg c4, if_neg c5, if_neg c6, if_pos c7, if_pos (show o.kind <= 8 by omega), eo, oU rfl, aA, aM, aA, aN, aA, aC, oU rfl, aA, aM, aA, aN, aA, aC, uJ, aA, aM, aA, aN, aA, aD, e, b0, y1, aB]
     exact ⟨h', C', FN', rfl, y2, fin gg y3⟩
   by_cases c8 : o.kind = 8
   · obtain ⟨B0, b0, s0⟩ := R.B.call; obtain ⟨hh, gg, e⟩ := aAy (E := E) 114 b b2 (λ x48 h49 => some ((.tup [x48, (.str [])]), h49)) h10
     obtain ⟨h', C', FN', y1, y2, y3⟩ := s0 t T C FN k o b b2 hh (t10.grown gg) hI hk256 hok hpl (ob.grown gg) (ob2.grown gg); have eo : tZ T o = lT T o.path o.n := by unfold tZ; rw [if_neg c1, if_neg c2, if_neg c3, if_neg c4, if_neg c5, if_neg c6, if_neg c7, if_pos c8]
     rw [if_neg c1, if_neg c2, if_neg c3, if_neg c4, if_neg c5, if_neg c6, if_neg c7, if_pos c8, if_pos (show o.kind <= 8 by omega), eo, oU rfl, aA, aM, aA, aN, aA, aC, oU rfl, aA, aM, aA, aN, aA, aC, uJ, aA, aM, aA, aN, aA, aD, e, b0, y1, aB]
     exact ⟨h', C', FN', rfl, y2, fin gg y3⟩
   by_cases c9 : o.kind = 9
   · obtain ⟨B0, b0, s0⟩ := R.C.call; obtain ⟨hh, gg, e⟩ := aAy (E := E) 115 b b2 (λ x59 h60 => vK (aG 0 x59) λ x61 => vK (aG 1 x59) λ x62 => some ((.tup [x61, x62]), h60)) h10
     obtain ⟨h', C', FN', y1, y2, y3⟩ := s0 t T C FN k o b b2 hh (t10.grown gg) hI hk256 hok hpl (ob.grown gg) (ob2.grown gg); have eo : aGt T o = ((tO T o.path o.at_ o.n).2, (tO T o.path o.at_ o.n).1) := by unfold aGt; rw [if_pos c9]
     rw [if_neg c1, if_neg c2, if_neg c3, if_neg c4, if_neg c5, if_neg c6, if_neg c7, if_neg c8, if_pos c9, if_neg (show ¬ o.kind <= 8 by omega), eo, oU rfl, aA, aM, aA, aN, aA, aC, oU rfl, aA, aM, aA, aN, aA, aC, oU rfl, aA, aM, aA, aN, aA, aC, uJ, aA, aM, aA, aN, aA, aD, e, b0, y1, aB]
     unfold bAu; rw [aN, aA, aM, aA]; exact ⟨h', C', FN', rfl, y2, fin gg y3⟩
   by_cases c10 : o.kind = 10
   · obtain ⟨B0, b0, s0⟩ := R.D.call; obtain ⟨hh, gg, e⟩ := aAy (E := E) 116 b b2 (λ x59 h60 => vK (aG 0 x59) λ x61 => vK (aG 1 x59) λ x62 => some ((.tup [x61, x62]), h60)) h10
     obtain ⟨h', C', FN', y1, y2, y3⟩ := s0 t T C FN k o b b2 hh (t10.grown gg) hI hk256 hok hpl (ob.grown gg) (ob2.grown gg); have eo : aGt T o = aPd T o.path := by unfold aGt; rw [if_neg c9, if_pos c10]; rfl
     rw [if_neg c1, if_neg c2, if_neg c3, if_neg c4, if_neg c5, if_neg c6, if_neg c7, if_neg c8, if_neg c9, if_pos c10, if_neg (show ¬ o.kind <= 8 by omega), eo, oU rfl, aA, aM, aA, aN, aA, aC, oU rfl, aA, aM, aA, aN, aA, aC, oU rfl, aA, aM, aA, aN, aA, aC, uJ, aA, aM, aA, aN, aA, aD, e, b0, y1, aB]
     unfold bAt; rw [aN, aA, aM, aA]; exact ⟨h', C', FN', rfl, y2, fin gg y3⟩
   obtain ⟨B0, b0, s0⟩ := R.E.call; obtain ⟨hh, gg, e⟩ := aAy (E := E) 118 b b2 (λ x59 h60 => vK (aG 0 x59) λ x61 => vK (aG 1 x59) λ x62 => some ((.tup [x61, x62]), h60)) h10
   obtain ⟨h', C', FN', y1, y2, y3⟩ := s0 t T C FN k o b b2 hh (t10.grown gg) hI hk256 hok hpl (ob.grown gg) (ob2.grown gg); have eo : aGt T o = aPe T o.path := by unfold aGt; rw [if_neg c9, if_neg c10]; rfl
   rw [if_neg c1, if_neg c2, if_neg c3, if_neg c4, if_neg c5, if_neg c6, if_neg c7, if_neg c8, if_neg c9, if_neg c10, if_neg (show ¬ o.kind <= 8 by omega), eo, oU rfl, aA, aM, aA, aN, aA, aC, oU rfl, aA, aM, aA, aN, aA, aC, oU rfl, aA, aM, aA, aN, aA, aC, uJ, aA, aM, aA, aN, aA, aD, e, b0, y1, aB]
   unfold bAs; rw [aN, aA, aM, aA]; exact ⟨h', C', FN', rfl, y2, fin gg y3⟩
 · have dec : (!decide (tU o = 0)) = true := by simp [e0]
   rw [dec, aD, if_neg e0]; exact ⟨h6, C, FN, rfl, hT.grown G6, .grown G6⟩
theorem aWA {k : Nat} {T : TreeP} {o : tM} (h : Inv k T) (ho : o.ok) : Inv (k + 1) (tX T o).1 := by
 unfold tX; split
 · split
   · exact aZB h ho
   · exact h.mono (Nat.le_succ _)
 · exact h.mono (Nat.le_succ _)
theorem aWD {B D : cB} (sB : aIV B) (sD : aFl D) {N0 : Nat} {hh : H} {t b : Nat} {T : TreeP} {C : List DV} {FN : Nat -> Ln} {v : DV} {k : Nat} {o : tM} (S : aCY N0 hh t b T C FN v k) (hk : k <= 255) (ho : o.ok) :
   ∃ v' h9 h14 h17 h21 C' FN', B [v, .agg (qR o)] (hh.push (.blk ⟨2, 2, false, true, Tr.ofL [.nils, ii 0]⟩)) = some (.tup [v', ii ((tX T o).2.1), .str (tX T o).2.2], h9) /\ bS 2 (.ptr hh.size 0) v' h9 = some (.tup [], h14) /\ aJ 2 h14.get (.ptr hh.size 0) = some v' /\ bS 2 (.ptr b 0) v' h14 = some (.tup [], h17) /\ kH (λ c => N0 <= c) hh h17 /\
     D [.ptr t 0, .agg (qR o)] h17 = some (.tup [ii ((tX T o).2.1), .str (tX T o).2.2], h21) /\ aCY N0 h21 t b (tX T o).1 C' FN' v' (k + 1) /\ kH (λ c => N0 <= c) hh h21 := by
 obtain ⟨h7, eh7, g7, o7⟩ := aO hh 2 2 [.nils, ii 0] rfl; have z7 : h7.size = hh.size + 1 := by rw [eh7]; exact H.size_push _ _
 have S7 := S.grown g7; have hlt : ∀ c, Fp t FN c -> c < hh.size := λ c hc => S.tree.lt hc
 obtain ⟨sv, ev, hsv, ob⟩ := S7.box; have hb7 : b < hh.size := by
   obtain ⟨s, _, _, oo⟩ := S.box; exact oo.1
 have hN := S.size; have r7 : eB (NA t FN (λ c => c = b \/ c = hh.size)) h7 v T := (aVq S.ref λ c hc x => x.elim id λ y => by omega).grown g7
 obtain ⟨v', h9, f9, r9, g9⟩ := sB _ v T k o h7 r7 S.inv (by omega) ho λ c hc => ⟨λ x => by have := hlt c x; omega, λ x => by omega⟩
 obtain ⟨s, ev', hs'⟩ := r9.agg; have one2 : ([s, ii ((tX T o).1.gen)]).all DV.one = true := by simp only [List.all_cons, List.all_nil, hs']; rfl
 obtain ⟨h14, f14, o14, k14⟩ := (o7.grown g9).setAll (n := 2) (cs := [s, ii ((tX T o).1.gen)]) rfl rfl one2; obtain ⟨h17, f17, o17, k17⟩ := ((ob.grown g9).but (by omega) k14).setAll (n := 2) (cs := [s, ii ((tX T o).1.gen)]) rfl rfl one2
 have t17 := ((S7.tree.grown g9).off (k14.off (F := λ c => c = hh.size) rfl) (λ c hc e => by have := hlt c hc; omega)).off (k17.off (F := λ c => c = b) rfl) (λ c hc e => S.hb (e ▸ hc))
 have r17 := aQV (aQV r9 k14 (.inr rfl)) k17 (.inl rfl); have off17 : kH (λ c => N0 <= c) hh h17 := (((g7.off _).trans (g9.off _)).trans (k14.off (F := λ c => N0 <= c) hN)).trans (k17.off S.lob)
 obtain ⟨h21, C', FN', f21, t21, s21⟩ := sD t T C FN k o h17 t17 S.inv (by omega) ho
 subst ev'; have z17 := off17.size; refine ⟨_, h9, h14, h17, h21, C', FN', by rw [<- eh7]; exact f9, f14, o14.all (n := 2) rfl, f17, off17, f21, ⟨t21, (aVp r17 s21).move (Nat.le_refl _) (λ _ _ _ => rfl) (λ c hc _ => ⟨hc.1, λ e => hc.2 (.inl e)⟩), aWA S.inv ho, ⟨s, rfl, hs', o17.off s21.off S.hb⟩, λ x => (s21.fp b x).elim S.hb λ y => by omega, λ c hc => (s21.fp c hc).elim (S.lo c) λ y => by omega, S.lob⟩, off17.trans (s21.off.weak λ c _ hc => S.lo c hc)⟩
structure aPM (E : bG) : Prop where
 rd : bP E 23 aIV
 de : bP E 19 aFl
 fw : bP E 20 aKm
 P : aDo E
 D : aKp E
 aw : E 12 = some aFh
theorem aMf {E : bG} (K : aPM E) {l : List tM} {w : DV} {n0 t b : Nat} (hok : ∀ o ∈ l, o.ok) (hl : l.length <= 60) :
   ∀ (k i m : Nat) (hh : H) (T : TreeP) (C : List DV) (FN : Nat -> Ln) (v : DV), l.length - i = k -> i <= l.length -> RowE (λ c => c < n0) 6 hh w (xO l) -> aCY n0 hh t b T C FN v i ->
   (aUz E w (.ptr t 0) (.ptr b 0) (m + (k + 1)) (ii i) hh).map (·.1) = some (.bool true) := by
 obtain ⟨B0, b0, s0⟩ := K.rd.call; obtain ⟨B1, b1, s1⟩ := K.de.call; obtain ⟨B4, b4, s4⟩ := K.P.tx.call; obtain ⟨B5, b5, s5⟩ := K.D.tx.call; have aw : ∀ m, aE E 12 [] m = some (.bool true, m) := λ m => by rw [cK K.aw]; rfl
 intro k
 induction k with
 | zero =>
   intro i m hh T C FN v hk hi r S; have : i = l.length := by omega
   subst this; show (aZe E w _ _ (aUz E w _ _ m) _ hh).map _ = _; unfold aZe; rw [aAj r, aA, aP, aA, decide_eq_false (Nat.lt_irrefl _), aC]; unfold bCm; obtain ⟨h3, f3, g3⟩ := s4 t T C FN _ hh S.tree S.inv (by omega)
   have S3 := S.grown g3; obtain ⟨h5, f5, g5⟩ := s5 _ v T _ h3 S3.ref S3.inv (by omega)
   rw [S.ld, aA, b4, f3, aB, S3.ld, aZy S3.ref, eM, b5, f5, aB]; simp only [fX, beq_self_eq_true, aA, iL, aw, aB, cL, Option.map_some]
 | succ k ih =>
   intro i m hh T C FN v hk hi r S; have hlt : i < l.length := by omega
   obtain ⟨o, ho⟩ : ∃ o, l[i]? = some o := ⟨_, List.getElem?_eq_getElem hlt⟩; obtain ⟨rb, ro, q1, q2, q3, q4, q5, q6, q7, q8, q9⟩ := aVA r ho .i64; obtain ⟨v', h9, h14, h17, h21, C', FN', f9, f14, l14, f17, off17, f21, S21, off21⟩ := aWD s0 s1 S (by omega) (hok o (List.mem_of_getElem? ho))
   obtain ⟨rb', ro', p1, p2, p3, p4, p5, p6, p7, p8, p9⟩ := aVA (aQS r off17) ho .i64; cases q1.symm.trans p1; show (aZe E w _ _ (aUz E w _ _ (m + (k + 1))) _ hh).map _ = _; unfold aZe; rw [aAj r, aA, aP, aA, decide_eq_true hlt, aD, S.ld, aA, q1, aA, q9, aA, bN, b0, f9, aB, aN, aA, aM, aA, mU, aA, f14, aB, l14, aA, f17, aB, aA, p9, aA, b1, f21, aB, aN, aA, aM, aA, aGB]; simp only [aA, eD, kJ, bne_self_eq_false, cI, aC]; rw [bQ (by omega), aA]
   exact ih (i + 1) m h21 _ C' FN' _ (by omega) (by omega) (aQS r off21) S21
theorem aCX {E : bG} (K : aPM E) {A : Nat -> Prop} {w : DV} {l : List tM} {h0 : H} (r : RowE A 6 h0 w (xO l)) (hok : ∀ o ∈ l, o.ok) : (S6 E [w] h0).map (·.1) = some (.bool true) := by
 obtain ⟨B0, b0, s0⟩ := K.fw.call; have aw : ∀ m, aE E 12 [] m = some (.bool true, m) := λ m => by rw [cK K.aw]; rfl
 obtain ⟨e, fe, he⟩ := s0 A w l h0 r; show (bCn E w h0).map _ = _; unfold bCn; rw [b0, fe, aB, cJ, aA]; by_cases e0 : e = 0
 · rw [decide_eq_true e0, aD, aw, aB]; rfl
 · obtain ⟨hl60, hsm⟩ := he e0; rw [decide_eq_false e0, aC]; obtain ⟨t, v, h7, h9, h13, C, FN, b, f7, f9, rfl, f13, S, g13⟩ := aWQ K.P K.D h0; rw [f7, aB, f9, aB, bN, f13, aB]; have := aMf K (l := l) (w := w) hok hl60 l.length 0 (aT - (l.length + 1)) h13 qY C FN v (by omega) (by omega) ((aAK r).grown g13) S
   rw [show aT - (l.length + 1) + (l.length + 1) = aT from by unfold aT; omega] at this
   exact this
def bDj : bG := nD 12 aFh aIR
def LD (m : Nat) : bG := SE bDj table m
theorem bEK (m : Nat) : bP (LD (m + 1)) 140 aDn := ⟨vY, by kernel_rfl, λ s t a h h1 h2 h3 h4 => aHA h1 h2 h3 h4 h⟩
theorem bDQ (m : Nat) : bP (LD (m + 1)) 139 aDn := ⟨vY, by kernel_rfl, λ s t a h h1 h2 h3 h4 => aHA h1 h2 h3 h4 h⟩
theorem bEL (m : Nat) : bP (LD (m + 1)) 101 aRM := ⟨aHB, by kernel_rfl, λ s n h h1 h2 => aUB h1 h2 h⟩
theorem aVf (m : Nat) : bP (LD (m + 1)) 131 aHr := ⟨mH, by kernel_rfl, λ n h h1 => aCP h1 h⟩
theorem bEA (m : Nat) : bP (LD (m + 1)) 147 aDq := ⟨rW LI, by kernel_rfl, aLO LI⟩
theorem aCJ (m : Nat) : bP (LD (m + 1)) 97 aDp := ⟨S97 (LD (m + 0)), by kernel_rfl, aUd  ⟩
theorem qE (m : Nat) : bP (LD (m + 1)) 48 nS := ⟨S48 (LD (m + 0)), by kernel_rfl, aTN  ⟩
theorem yL (m : Nat) : bP (LD (m + 1)) 106 aAL := ⟨aPg (LD (m + 0)), by kernel_rfl, aVF  ⟩
theorem uD (m : Nat) : bP (LD (m + 4)) 50 lB := ⟨S50 (LD (m + 3)), by kernel_rfl, aSZ (F := LD (m + 2)) (G := LD (m + 1)) (by kernel_rfl) (by kernel_rfl) (yL m)⟩
theorem aNC (m : Nat) : bP (LD (m + 2)) 108 aIS := ⟨aPf (LD (m + 1)), by kernel_rfl, aUR  (yL m)⟩
theorem zM (m : Nat) : bP (LD (m + 5)) 51 mS := ⟨S51 (LD (m + 4)), by kernel_rfl, aNu (F := LD (m + 3)) (G := LD (m + 2)) (by kernel_rfl) (by kernel_rfl) (aNC m)⟩
theorem oA (m : Nat) : bP (LD (m + 1)) 52 jJ := ⟨S52 (LD (m + 0)), by kernel_rfl, aNx  ⟩
theorem aIE (m : Nat) : bP (LD (m + 6)) 220 aCi := ⟨aXb (LD (m + 5)), by kernel_rfl, aOS  (qE (m + 4)) (uD (m + 1)) (zM m) (oA (m + 4))⟩
theorem aHD (m : Nat) : bP (LD (m + 3)) 49 rL := ⟨S49 (LD (m + 2)), by kernel_rfl, aNy (F := LD (m + 1)) (G := LD (m + 0)) (by kernel_rfl) (by kernel_rfl)⟩
theorem aRf (m : Nat) : aEV (LD (m + 2)) where
 k1 f h := by rw [cK (show LD (m + 2) 221 = some (bAE (LD (m + 1))) by kernel_rfl)]; rfl
 k2 d h := by rw [cK (show LD (m + 2) 217 = some (aXe (LD (m + 1))) by kernel_rfl)]; exact aOJ d h
 s1 f l s h o := by rw [cK (show LD (m + 2) 222 = some (aXa (LD (m + 1))) by kernel_rfl)]; exact aOL f l s h o
 s2 d l h r := by
   obtain ⟨B, b, s⟩ := (aCJ m).call; rw [cK (show LD (m + 2) 218 = some (aXd (LD (m + 1))) by kernel_rfl)]; exact aOI b s d l h r
theorem aZH (m : Nat) : aMO (LD (m + 7)) where
 t1 f l s h o := by rw [cK (show LD (m + 7) 223 = some (aWZ (LD (m + 6))) by kernel_rfl)]; exact aOK f l s h o
 t2 d l h r hl hok := by
   obtain ⟨B, b, s⟩ := (aIE m).call; rw [cK (show LD (m + 7) 219 = some (aXc (LD (m + 6))) by kernel_rfl)]; exact aOH b s d l h r hl hok
theorem aOZ (m : Nat) : bP (LD (m + 1)) 17 xK := ⟨S17 (LD (m + 0)), by kernel_rfl, aMy  ⟩
theorem aLu (m : Nat) : bP (LD (m + 1)) 18 xK := ⟨S18 (LD (m + 0)), by kernel_rfl, aTG  ⟩
theorem sN (m : Nat) : bP (LD (m + 1)) 170 jH := ⟨aXi (LD (m + 0)), by kernel_rfl, aOd  ⟩
theorem mW (m : Nat) : bP (LD (m + 2)) 154 iM := ⟨aXp (LD (m + 1)), by kernel_rfl, aLk  (sN m)⟩
theorem aAf (m : Nat) : bP (LD (m + 2)) 156 vT := ⟨aXn (LD (m + 1)), by kernel_rfl, aOi  (sN m)⟩
theorem aDV (m : Nat) : bP (LD (m + 3)) 150 zC := ⟨aXt (LD (m + 2)), by kernel_rfl, aIe  (mW m) (aAf m)⟩
theorem sO (m : Nat) : bP (LD (m + 1)) 169 rS := ⟨aXj (LD (m + 0)), by kernel_rfl, aOk  ⟩
theorem aAe (m : Nat) : bP (LD (m + 2)) 151 rR := ⟨aXs (LD (m + 1)), by kernel_rfl, aOg  (sO m)⟩
theorem yF (m : Nat) : bP (LD (m + 1)) 122 tL := ⟨aXO (LD (m + 0)), by kernel_rfl, aVv  ⟩
theorem hY (m : Nat) : bP (LD (m + 3)) 124 jK := ⟨aXM (LD (m + 2)), by kernel_rfl, aNT  (mW m) (aAe m) (yF (m + 1))⟩
theorem nI (m : Nat) : bP (LD (m + 4)) 120 pM := ⟨aXQ (LD (m + 3)), by kernel_rfl, aTA  (aDV m) (hY m)⟩
theorem qO (m : Nat) : bP (LD (m + 3)) 121 pL := ⟨aXP (LD (m + 2)), by kernel_rfl, aLi  (aAe m)⟩
theorem aLx (m : Nat) : bP (LD (m + 2)) 152 aEU := ⟨aXr (LD (m + 1)), by kernel_rfl, aTI  (sN m) (sO m)⟩
theorem sK (m : Nat) : bP (LD (m + 1)) 153 rO := ⟨aXq (LD (m + 0)), by kernel_rfl, aNS  ⟩
theorem uN (m : Nat) : bP (LD (m + 3)) 123 vP := ⟨aXN (LD (m + 2)), by kernel_rfl, aTy  (aLx m) (sK (m + 1))⟩
theorem aOe (m : Nat) : bP (LD (m + 5)) 66 aBI := ⟨S66 (LD (m + 4)), by kernel_rfl, aVl  (nI m) (qO (m + 1)) (yF (m + 3)) (uN (m + 1))⟩
theorem aLl (m : Nat) : bP (LD (m + 2)) 155 aES := ⟨aXo (LD (m + 1)), by kernel_rfl, aTx  (sO m)⟩
theorem sM (m : Nat) : bP (LD (m + 3)) 125 rQ := ⟨aXL (LD (m + 2)), by kernel_rfl, aNY  (aLl m) (sK (m + 1))⟩
theorem qP (m : Nat) : bP (LD (m + 1)) 126 pN := ⟨aXK (LD (m + 0)), by kernel_rfl, aLn  ⟩
theorem aAg (m : Nat) : bP (LD (m + 2)) 127 xH := ⟨aXJ (LD (m + 1)), by kernel_rfl, aOj  (yF m)⟩
theorem aNV (m : Nat) : bP (LD (m + 5)) 67 (xG jL) := ⟨S67 (LD (m + 4)), by kernel_rfl, aVi  (hY (m + 1)) (nI m) (sM (m + 1)) (qP (m + 3)) (aAg (m + 2))⟩
theorem aOb (m : Nat) : bP (LD (m + 5)) 68 (xG lV) := ⟨S68 (LD (m + 4)), by kernel_rfl, aVk  (hY (m + 1)) (nI m) (sM (m + 1)) (aAg (m + 2))⟩
theorem aOh (m : Nat) : bP (LD (m + 5)) 70 (rP qF) := ⟨S70 (LD (m + 4)), by kernel_rfl, aVn  (hY (m + 1)) (nI m) (qO (m + 1)) (qP (m + 3)) (uN (m + 1))⟩
theorem aDQ (m : Nat) : bP (LD (m + 3)) 128 mR := ⟨aXI (LD (m + 2)), by kernel_rfl, aHX  (mW m)⟩
theorem aGg (m : Nat) : bP (LD (m + 3)) 129 aCj := ⟨aXH (LD (m + 2)), by kernel_rfl, aLt  (mW m) (aAf m)⟩
theorem aNZ (m : Nat) : bP (LD (m + 5)) 69 (rP jN) := ⟨S69 (LD (m + 4)), by kernel_rfl, aVj  (hY (m + 1)) (nI m) (qO (m + 1)) (sM (m + 1)) (uN (m + 1)) (aDQ (m + 1)) (aGg (m + 1))⟩
theorem sP (m : Nat) : bP (LD (m + 4)) 130 rT := ⟨aXG (LD (m + 3)), by kernel_rfl, aOm  (hY m)⟩
theorem aLg (m : Nat) : bP (LD (m + 1)) 32 aER := ⟨S32 (LD (m + 0)), by kernel_rfl, aTw  ⟩
theorem aAh (m : Nat) : bP (LD (m + 2)) 132 xI := ⟨aXF (LD (m + 1)), by kernel_rfl, aOl  (aLg m) (sK m)⟩
theorem aFU (m : Nat) : bP (LD (m + 3)) 90 yX := ⟨S90 (LD (m + 2)), by kernel_rfl, aLe  (bDQ (m + 1)) (aAh m)⟩
theorem aGh (m : Nat) : bP (LD (m + 5)) 71 yY := ⟨S71 (LD (m + 4)), by kernel_rfl, aLy  (sP m) (aFU (m + 1))⟩
theorem aGi (m : Nat) : bP (LD (m + 5)) 72 yZ := ⟨S72 (LD (m + 4)), by kernel_rfl, aLz  (sP m) (aVf (m + 3)) (aAh (m + 2))⟩
theorem nJ (m : Nat) : bP (LD (m + 1)) 53 mE := ⟨S53 (LD (m + 0)), by kernel_rfl, aTD  ⟩
theorem sL (m : Nat) : bP (LD (m + 2)) 54 lR := ⟨S54 (LD (m + 1)), by kernel_rfl, aNX  (nJ m)⟩
theorem aCQ (m : Nat) : bP (LD (m + 3)) 77 tK := ⟨S77 (LD (m + 2)), by kernel_rfl, aGe  (nJ (m + 1)) (sL m)⟩
theorem aIb (m : Nat) : bP (LD (m + 4)) 25 qX := ⟨S25 (LD (m + 3)), by kernel_rfl, aNW  (nJ (m + 2)) (sL (m + 1)) (aCQ m)⟩
theorem aCI (m : Nat) : bP (LD (m + 1)) 65 aAN := ⟨S65 (LD (m + 0)), by kernel_rfl, aUc  ⟩
theorem aFR (m : Nat) : bP (LD (m + 5)) 161 yW := ⟨aXm (LD (m + 4)), by kernel_rfl, aKV (F := LD (m + 3)) (G := LD (m + 2)) (K := LD (m + 1)) (M := LD (m + 0)) (by kernel_rfl) (by kernel_rfl) (by kernel_rfl) (by kernel_rfl) (by kernel_rfl)⟩
theorem aAz (m : Nat) : bP (LD (m + 3)) 146 jH := ⟨aXv (LD (m + 2)), by kernel_rfl, aOU (F := LD (m + 1)) (G := LD (m + 0)) (by kernel_rfl) (by kernel_rfl)⟩
theorem qQ (m : Nat) : bP (LD (m + 6)) 137 iM := ⟨aXC (LD (m + 5)), by kernel_rfl, aLA  (aFR m) (aAz (m + 2))⟩
theorem pT (m : Nat) : bP (LD (m + 1)) 87 pK := ⟨S87 (LD (m + 0)), by kernel_rfl, aTn  ⟩
theorem aFS (m : Nat) : bP (LD (m + 2)) 162 yV := ⟨aXl (LD (m + 1)), by kernel_rfl, aLd (F := LD (m + 0)) (by kernel_rfl)⟩
theorem tD (m : Nat) : bP (LD (m + 3)) 142 vX := ⟨aXz (LD (m + 2)), by kernel_rfl, aOX  (aFS m)⟩
theorem aAA (m : Nat) : bP (LD (m + 4)) 145 vR := ⟨aXw (LD (m + 3)), by kernel_rfl, aOV  (tD m)⟩
theorem zU (m : Nat) : bP (LD (m + 5)) 138 xE := ⟨aXB (LD (m + 4)), by kernel_rfl, aND  (pT (m + 3)) (aAA m)⟩
theorem nH (m : Nat) : bP (LD (m + 7)) 95 nR := ⟨S95 (LD (m + 6)), by kernel_rfl, aTk  (qQ m) (zU (m + 1)) (pT (m + 5))⟩
theorem qM (m : Nat) : bP (LD (m + 5)) 99 pJ := ⟨S99 (LD (m + 4)), by kernel_rfl, aKK  (aAA m)⟩
theorem aHO (m : Nat) : bP (LD (m + 1)) 141 aBD := ⟨aXA (LD (m + 0)), by kernel_rfl, aNK  ⟩
theorem vC (m : Nat) : bP (LD (m + 4)) 100 rY := ⟨aXZ (LD (m + 3)), by kernel_rfl, aUg  (aAz m) (tD m) (bEA (m + 2))⟩
theorem aCn (m : Nat) : bP (LD (m + 8)) 94 aAJ := ⟨S94 (LD (m + 7)), by kernel_rfl, aTo  (nH m) (qM (m + 2)) (aHO (m + 6)) (vC (m + 3))⟩
theorem aFQ (m : Nat) : bP (LD (m + 9)) 40 (jG (λ T p => mkT T p 2)) := ⟨S40 (LD (m + 8)), by kernel_rfl, aKO  (aCI (m + 7)) (aCn m)⟩
theorem aDI (m : Nat) : bP (LD (m + 9)) 41 (jG (λ T p => mkT T p 1)) := ⟨S41 (LD (m + 8)), by kernel_rfl, aHQ  (aCn m)⟩
theorem iQ (m : Nat) : bP (LD (m + 7)) 85 kP := ⟨S85 (LD (m + 6)), by kernel_rfl, aNI  (qQ m) (zU (m + 1))⟩
theorem oC (m : Nat) : bP (LD (m + 1)) 86 oO := ⟨S86 (LD (m + 0)), by kernel_rfl, aNM  ⟩
theorem aMh (m : Nat) : bP (LD (m + 1)) 143 aFm := ⟨aXy (LD (m + 0)), by kernel_rfl, aUf  ⟩
theorem vB (m : Nat) : bP (LD (m + 4)) 96 rX := ⟨S96 (LD (m + 3)), by kernel_rfl, aUa  (tD m) (aMh (m + 2))⟩
theorem aDC (m : Nat) : bP (LD (m + 8)) 42 (jG jL) := ⟨S42 (LD (m + 7)), by kernel_rfl, aHI  (iQ m) (oC (m + 6)) (nH m) (vB (m + 3))⟩
theorem aFO (m : Nat) : bP (LD (m + 8)) 43 (jG lV) := ⟨S43 (LD (m + 7)), by kernel_rfl, aKL  (iQ m) (pT (m + 6)) (aCJ (m + 6)) (nH m) (vB (m + 3))⟩
theorem aHN (m : Nat) : bP (LD (m + 8)) 45 (rM qF) := ⟨S45 (LD (m + 7)), by kernel_rfl, aNJ  (iQ m) (nH m) (oC (m + 6)) (qM (m + 2)) (vC (m + 3))⟩
theorem aGm (m : Nat) : bP (LD (m + 1)) 144 aPL := ⟨aXx (LD (m + 0)), by kernel_rfl, aLY  ⟩
theorem aDX (m : Nat) : bP (LD (m + 7)) 98 mR := ⟨S98 (LD (m + 6)), by kernel_rfl, aIp  (qQ m) (aGm (m + 5))⟩
theorem aDD (m : Nat) : bP (LD (m + 8)) 44 (rM jN) := ⟨S44 (LD (m + 7)), by kernel_rfl, aHK  (iQ m) (nH m) (aDX m) (qM (m + 2)) (vB (m + 3)) (vC (m + 3))⟩
theorem sA (m : Nat) : bP (LD (m + 8)) 83 rN := ⟨S83 (LD (m + 7)), by kernel_rfl, aNH  (iQ m) (oC (m + 6))⟩
theorem zW (m : Nat) : bP (LD (m + 1)) 102 xF := ⟨aXY (LD (m + 0)), by kernel_rfl, aNL  ⟩
theorem aFN (m : Nat) : bP (LD (m + 2)) 92 yU := ⟨S92 (LD (m + 1)), by kernel_rfl, aKJ  (bEK m) (zW m)⟩
theorem xV (m : Nat) : bP (LD (m + 9)) 46 tH := ⟨S46 (LD (m + 8)), by kernel_rfl, aKQ  (sA m) (aFN (m + 6))⟩
theorem xW (m : Nat) : bP (LD (m + 9)) 47 tI := ⟨S47 (LD (m + 8)), by kernel_rfl, aKR  (sA m) (bEL (m + 7)) (zW (m + 7))⟩
theorem aDE (m : Nat) : bP (LD (m + 10)) 24 vO := ⟨S24 (LD (m + 9)), by kernel_rfl, aHL (F := LD (m + 8)) (G := LD (m + 7)) (by kernel_rfl) (by kernel_rfl) (by kernel_rfl) (qE (m + 7)) (oA (m + 7)) (uD (m + 3)) (aHD (m + 4)) (zM (m + 2)) (aRf (m + 5)) (aZH m)⟩
theorem aKN (m : Nat) : bP (LD (m + 2)) 21 aEQ := ⟨S21 (LD (m + 1)), by kernel_rfl, aTl  (aCI m)⟩
theorem aOM (m : Nat) : bP (LD (m + 1)) 20 aKm := ⟨S20 (LD (m + 0)), by kernel_rfl, aWd  ⟩
theorem aId (m : Nat) : bP (LD (m + 1)) 93 aBF := ⟨S93 (LD (m + 0)), by kernel_rfl, aOa  ⟩
theorem aIn (m : Nat) : bP (LD (m + 5)) 80 aBH := ⟨S80 (LD (m + 4)), by kernel_rfl, aOr  (sP m) (aId (m + 3))⟩
theorem aIm (m : Nat) : bP (LD (m + 4)) 81 aBG := ⟨S81 (LD (m + 3)), by kernel_rfl, aOq  (hY m) (qP (m + 2))⟩
theorem aGb (m : Nat) : bP (LD (m + 1)) 136 zB := ⟨aXD (LD (m + 0)), by kernel_rfl, aLm  ⟩
theorem aIo (m : Nat) : bP (LD (m + 4)) 82 aBJ := ⟨S82 (LD (m + 3)), by kernel_rfl, aOs  (hY m) (aGb (m + 2))⟩
theorem aFY (m : Nat) : bP (LD (m + 3)) 133 zA := ⟨aXE (LD (m + 2)), by kernel_rfl, aLj  (nJ (m + 1)) (sL m)⟩
theorem aLw (m : Nat) : bP (LD (m + 6)) 73 aET := ⟨S73 (LD (m + 5)), by kernel_rfl, aTH  (aIn m) (aIm (m + 1)) (aIo (m + 1)) (nJ (m + 4)) (aFY (m + 2))⟩
theorem aMc (m : Nat) : bP (LD (m + 1)) 64 aFk := ⟨S64 (LD (m + 0)), by kernel_rfl, aUb  ⟩
theorem aMx (m : Nat) : bP (LD (m + 10)) 113 (iX bEH) := ⟨aXX (LD (m + 9)), by kernel_rfl, aUr  (xV m)⟩
theorem aMw (m : Nat) : bP (LD (m + 10)) 114 (iX bEG) := ⟨aXW (LD (m + 9)), by kernel_rfl, aUq  (xW m)⟩
theorem aHM (m : Nat) : bP (LD (m + 1)) 84 aBz := ⟨S84 (LD (m + 0)), by kernel_rfl, aNG  ⟩
theorem aHS (m : Nat) : bP (LD (m + 9)) 33 aBB := ⟨S33 (LD (m + 8)), by kernel_rfl, aNO  (sA m) (aHM (m + 7))⟩
theorem aMv (m : Nat) : bP (LD (m + 10)) 115 (iX bAu) := ⟨aXV (LD (m + 9)), by kernel_rfl, aUp  (aHS m)⟩
theorem aHR (m : Nat) : bP (LD (m + 8)) 34 aBA := ⟨S34 (LD (m + 7)), by kernel_rfl, aNN  (iQ m) (oC (m + 6)) (aRf (m + 5))⟩
theorem aGo (m : Nat) : bP (LD (m + 9)) 117 (xL aPd) := ⟨aXT (LD (m + 8)), by kernel_rfl, aMe  (aHR m) (qE (m + 7)) (uD (m + 4)) (oA (m + 7))⟩
theorem aMu (m : Nat) : bP (LD (m + 10)) 116 (iX bAt) := ⟨aXU (LD (m + 9)), by kernel_rfl, aUo  (aGo m)⟩
theorem aIJ (m : Nat) : bP (LD (m + 1)) 88 aEW := ⟨S88 (LD (m + 0)), by kernel_rfl, aOW  ⟩
theorem aHT (m : Nat) : bP (LD (m + 8)) 35 aBC := ⟨S35 (LD (m + 7)), by kernel_rfl, aNP  (iQ m) (pT (m + 6)) (aIJ (m + 6))⟩
theorem aGv (m : Nat) : bP (LD (m + 1)) 106 aQs := ⟨aPg (LD (m + 0)), by kernel_rfl, aML  ⟩
theorem aGu (m : Nat) : bP (LD (m + 2)) 108 aKv := ⟨aPf (LD (m + 1)), by kernel_rfl, aMK  (aGv m)⟩
theorem aFK (m : Nat) : bP (LD (m + 5)) 149 yT := ⟨aXu (LD (m + 4)), by kernel_rfl, aKA (F := LD (m + 3)) (G := LD (m + 2)) (by kernel_rfl) (by kernel_rfl) (yL (m + 1)) (aGu m)⟩
theorem aGq (m : Nat) : bP (LD (m + 9)) 119 (xL aPe) := ⟨aXR (LD (m + 8)), by kernel_rfl, aMg  (aHT m) (qE (m + 7)) (aFK (m + 3)) (oA (m + 7))⟩
theorem aMt (m : Nat) : bP (LD (m + 10)) 118 (iX bAs) := ⟨aXS (LD (m + 9)), by kernel_rfl, aUn  (aGq m)⟩
theorem aVw (m : Nat) : aDo (LD (m + 10)) where
 nw := aKN (m + 8)
 md := aFQ (m + 1)
 cr := aDI (m + 1)
 un := aDC (m + 2)
 rm := aFO (m + 2)
 rn := aDD (m + 2)
 ln := aHN (m + 2)
 wr := xV (m + 1)
 tr := xW (m + 1)
 tx := aDE (m + 0)
theorem bDg (m : Nat) : aKp (LD (m + 10)) where
 nw := ⟨S22 (LD (m + 9)), by kernel_rfl, λ A h hA => aTB A h hA⟩
 md := aOe (m + 5)
 un := aNV (m + 5)
 rm := aOb (m + 5)
 rn := aNZ (m + 5)
 ln := aOh (m + 5)
 wr := aGh (m + 5)
 tr := aGi (m + 5)
 tx := aIb (m + 6)
theorem bOU (m : Nat) : aYX (LD (m + 10)) where
 A := aMx (m + 0)
 B := aMw (m + 0)
 C := aMv (m + 0)
 D := aMu (m + 0)
 E := aMt (m + 0)
theorem bOT (m : Nat) : aPM (LD (m + 11)) where
 rd := ⟨S23 (LD (m + 10)), by kernel_rfl, aVt (bDg m) (aLu (m + 9)) (aLw (m + 4))⟩
 de := ⟨S19 (LD (m + 10)), by kernel_rfl, aUe (aVw m) (bOU m) (aOZ (m + 9)) (aMc (m + 9))⟩
 fw := aOM (m + 10)
 P := aVw (m + 1)
 D := bDg (m + 1)
 aw := by kernel_rfl
theorem aMI : (S12 (SE aIR table 60) [] H0).map (λ x => x.1) = some (.bool true) := by kernel_rfl
theorem aKo : gE Tryz.prog 12 aFh := aNF (B := aIR) (n := 60) aHp tab (show Tr.at_ table 12 = some S12 by kernel_rfl) aMI
theorem aWR : kT Tryz.prog bDj := kG (tab.ok 12 S12 rfl).1 aKo aHp
end Go.Proofs.YtmafhiogonejfaaGreatDoor
end
