/- The document's trees: what they compute. No condition. -/
import Derived.Test.YtmafhiogonejfaaGreatDoorTr2
import Derived.KernelRfl
set_option linter.unusedVariables false
set_option linter.unusedSimpArgs false
noncomputable section
namespace Go.Proofs.YtmafhiogonejfaaGreatDoor
open Go.DI
structure bF where
 inode : Nat
 gen : Nat
 kind : Nat
 text : Ln
 l : EL
structure TreeP where
 l : List bF
 gen : Nat
abbrev NL := List bF
def bQ (L : NL) (i : Nat) : Option bF := L.find? λ n => n.inode == i
def kV (L : NL) : Prop := L.Pairwise λ a b => a.inode < b.inode
def iD (l : EL) (i : Nat) : Nat := l.countP λ e => e.2 == i
def aZ (L : NL) (i : Nat) : Nat := (L.map λ n => iD n.l i).sum
def cT (L : NL) : Nat := (L.map λ n => n.text.length).sum
def gA (L : NL) (i : Nat) (f : bF -> bF) : NL := L.map λ n => if n.inode = i then f n else n
def jN (L : NL) (i : Nat) : NL := L.filter λ n => n.inode != i
def qZ (L : NL) (x : bF) : NL := (L.takeWhile λ n => decide (n.inode < x.inode)) ++ x :: L.dropWhile λ n => decide (n.inode < x.inode)
def dZ (f : EL -> EL) (n : bF) : bF := { n with l := f n.l }
def gC (t : Ln) (n : bF) : bF := { n with text := t }
theorem dG {L : NL} {i : Nat} {n : bF} (h : bQ L i = some n) : n ∈ L /\ n.inode = i := by
 unfold bQ at h; exact ⟨List.mem_of_find?_eq_some h, by simpa using List.find?_some h⟩
theorem nX {L : NL} (hL : kV L) {n : bF} (hn : n ∈ L) : bQ L n.inode = some n := by
 unfold bQ
 induction L with
 | nil => cases hn
 | cons x L ih =>
   rw [kV, List.pairwise_cons] at hL; rw [List.find?_cons]; rcases List.mem_cons.1 hn with rfl | hn
   · simp
   · have := hL.1 n hn; have e : (x.inode == n.inode) = false := by rw [beq_eq_false_iff_ne]; omega
     rw [e]; exact ih hL.2 hn
theorem aCr {L : NL} {i : Nat} (h : bQ L i = none) : ∀ n ∈ L, n.inode ≠ i := by
 intro n hn e; unfold bQ at h; have := List.find?_eq_none.1 h n hn; simp [e] at this
theorem aBn {L : NL} {i : Nat} (h : ∀ n ∈ L, n.inode ≠ i) : bQ L i = none := by
 unfold bQ; exact List.find?_eq_none.2 λ n hn => by simpa using h n hn
theorem aML {L : NL} {i : Nat} {f : bF -> bF} {x : bF} : x ∈ gA L i f ↔ ∃ n ∈ L, x = if n.inode = i then f n else n := by
 unfold gA; rw [List.mem_map]; exact ⟨λ ⟨n, h1, h2⟩ => ⟨n, h1, h2.symm⟩, λ ⟨n, h1, h2⟩ => ⟨n, h1, h2.symm⟩⟩
theorem aCq {L : NL} {i : Nat} {f : bF -> bF} (hf : ∀ n, (f n).inode = n.inode) (j : Nat) : bQ (gA L i f) j = (bQ L j).map λ n => if j = i then f n else n := by
 induction L with
 | nil => rfl
 | cons x L ih =>
   unfold bQ gA at *; rw [List.map_cons, List.find?_cons, List.find?_cons]; have e : ((if x.inode = i then f x else x).inode == j) = (x.inode == j) := by split <;> simp [hf]
   rw [e]; cases hx : x.inode == j with
   | true =>
     rw [beq_iff_eq] at hx; simp only [Option.map_some]; by_cases h : j = i
     · rw [if_pos h, if_pos (hx.trans h)]
     · rw [if_neg h, if_neg (λ h2 => h (hx.symm.trans h2))]
   | false => exact ih
theorem nM {L : NL} {i : Nat} {f : bF -> bF} (hf : ∀ n, (f n).inode = n.inode) (h : kV L) : kV (gA L i f) := by
 unfold kV gA at *; rw [List.pairwise_map]; refine h.imp λ {a b} hab => ?_
 have e : ∀ n : bF, (if n.inode = i then f n else n).inode = n.inode := λ n => by split <;> simp [hf]
 rw [e, e]; exact hab
theorem mM {L : NL} (i j : Nat) : bQ (jN L i) j = if j = i then none else bQ L j := by
 induction L with
 | nil => simp [bQ, jN]
 | cons x L ih =>
   unfold bQ jN at *; rw [List.filter_cons]; by_cases hx : x.inode = i
   · have e : (x.inode != i) = false := by simp [hx]
     rw [e, if_neg (by simp)]
     rw [ih, List.find?_cons]; by_cases hj : j = i
     · rw [if_pos hj, if_pos hj]
     · have e2 : (x.inode == j) = false := by rw [beq_eq_false_iff_ne]; omega
       rw [if_neg hj, if_neg hj, e2]
   · have e : (x.inode != i) = true := by simp [hx]
     rw [e, if_pos rfl, List.find?_cons, List.find?_cons]; cases hxj : x.inode == j with
     | true =>
       rw [beq_iff_eq] at hxj; rw [if_neg (by omega)]
     | false => exact ih
theorem aWw {L : NL} (i : Nat) (h : kV L) : kV (jN L i) := List.Pairwise.filter _ h
theorem aMy (L : NL) (x : bF) : (L.takeWhile λ n => decide (n.inode < x.inode)) ++ (L.dropWhile λ n => decide (n.inode < x.inode)) = L := List.takeWhile_append_dropWhile
theorem aBl {L : NL} {x y : bF} : y ∈ qZ L x ↔ y = x \/ y ∈ L := by
 unfold qZ; rw [List.mem_append, List.mem_cons]
 conv => rhs; rw [<- aMy L x, List.mem_append]
 constructor
 · rintro (h | h | h)
   · exact .inr (.inl h)
   · exact .inl h
   · exact .inr (.inr h)
 · rintro (h | h | h)
   · exact .inr (.inl h)
   · exact .inl h
   · exact .inr (.inr h)
theorem aKg {L : NL} (hL : kV L) (x : bF) : ∀ n ∈ L.dropWhile λ n => decide (n.inode < x.inode), x.inode <= n.inode := by
 induction L with
 | nil => intro n hn; cases hn
 | cons y L ih =>
   rw [kV, List.pairwise_cons] at hL; intro n hn; rw [List.dropWhile_cons] at hn; split at hn
   · exact ih hL.2 n hn
   · rename_i hy; have hy : x.inode <= y.inode := by simpa using hy
     rcases List.mem_cons.1 hn with rfl | hn
     · exact hy
     · have := hL.1 n hn; omega
theorem aIm {L : NL} (hL : kV L) {x : bF} (hx : bQ L x.inode = none) : kV (qZ L x) := by
 have hne := aCr hx; unfold qZ kV; have h1 : ∀ n ∈ L.takeWhile λ n => decide (n.inode < x.inode), n.inode < x.inode := λ n hn => by simpa using nS hn
 have h2 : ∀ n ∈ L.dropWhile λ n => decide (n.inode < x.inode), x.inode < n.inode := λ n hn => by
   have a := aKg hL x n hn; have b := hne n ((List.dropWhile_sublist _).mem hn); omega
 rw [List.pairwise_append]; refine ⟨hL.sublist (List.takeWhile_sublist _), List.pairwise_cons.2 ⟨h2, hL.sublist (List.dropWhile_sublist _)⟩, λ a ha b hb => ?_⟩
 rcases List.mem_cons.1 hb with rfl | hb
 · exact h1 a ha
 · have := h1 a ha; have := h2 b hb; omega
theorem aIo {L : NL} (hL : kV L) {x : bF} (hx : bQ L x.inode = none) (j : Nat) : bQ (qZ L x) j = if j = x.inode then some x else bQ L j := by
 have hI := aIm hL hx; split
 · rename_i h; subst h; exact nX hI (aBl.2 (.inl rfl))
 · rename_i h; cases hg : bQ L j with
   | none =>
     refine aBn λ n hn => ?_
     rcases aBl.1 hn with rfl | hn
     · exact λ e => h e.symm
     · exact aCr hg n hn
   | some n =>
     obtain ⟨h1, h2⟩ := dG hg; have := nX hI (aBl.2 (.inr h1)); rw [h2] at this; exact this
theorem aAV (f : bF -> Nat) (L : NL) (x : bF) : ((qZ L x).map f).sum = (L.map f).sum + f x := by
 unfold qZ
 conv => rhs; rw [<- aMy L x]
 simp only [List.map_append, List.map_cons, List.sum_append, List.sum_cons]; omega
theorem vX (f : bF -> Nat) {L : NL} (hL : kV L) {i : Nat} {n : bF} (hn : bQ L i = some n) : ((jN L i).map f).sum + f n = (L.map f).sum := by
 induction L with
 | nil => simp [bQ] at hn
 | cons x L ih =>
   have hL' := hL; rw [kV, List.pairwise_cons] at hL'; unfold bQ at hn ih; rw [List.find?_cons] at hn; unfold jN at *; rw [List.filter_cons]; cases hx : x.inode == i with
   | true =>
     rw [hx] at hn; cases hn; rw [beq_iff_eq] at hx; have e : (n.inode != i) = false := by simp [hx]
     rw [e, if_neg (by simp)]
     have : (L.filter λ n => n.inode != i) = L := List.filter_eq_self.2 λ m hm => by have := hL'.1 m hm; simp; omega
     rw [this]; simp only [List.map_cons, List.sum_cons]; omega
   | false =>
     rw [hx] at hn; rw [beq_eq_false_iff_ne] at hx; have e : (x.inode != i) = true := by simp [hx]
     rw [e, if_pos rfl]; have := ih hL'.2 hn; simp only [List.map_cons, List.sum_cons]; omega
theorem qC (f : bF -> Nat) {L : NL} (hL : kV L) {i : Nat} {n : bF} (hn : bQ L i = some n) (g : bF -> bF) : ((gA L i g).map f).sum + f n = (L.map f).sum + f (g n) := by
 induction L with
 | nil => simp [bQ] at hn
 | cons x L ih =>
   have hL' := hL; rw [kV, List.pairwise_cons] at hL'; unfold bQ at hn ih; rw [List.find?_cons] at hn; unfold gA at *; rw [List.map_cons]; cases hx : x.inode == i with
   | true =>
     rw [hx] at hn; cases hn; rw [beq_iff_eq] at hx; rw [if_pos hx]; have : (L.map λ n => if n.inode = i then g n else n) = L := by
       conv => rhs; rw [<- List.map_id L]
       refine List.map_congr_left λ m hm => ?_
       have := hL'.1 m hm; rw [if_neg (by omega)]; rfl
     rw [this]; simp only [List.map_cons, List.sum_cons]; omega
   | false =>
     rw [hx] at hn; rw [beq_eq_false_iff_ne] at hx; rw [if_neg hx]; have := ih hL'.2 hn; simp only [List.map_cons, List.sum_cons]; omega
theorem aCm {f : bF -> Nat} {L : NL} {n : bF} (hn : n ∈ L) : f n <= (L.map f).sum := by
 induction L with
 | nil => cases hn
 | cons x L ih =>
   simp only [List.map_cons, List.sum_cons]; rcases List.mem_cons.1 hn with rfl | hn
   · omega
   · have := ih hn; omega
theorem aZo (l : EL) (key : Ln) (n i : Nat) : iD (gQ l key n) i = iD l i + if n = i then 1 else 0 := by
 unfold gQ iD
 conv => rhs; rw [<- List.take_append_drop (dY l key) l]
 rw [List.countP_append, List.countP_append, List.countP_cons]; simp only [beq_iff_eq]; omega
theorem aOt {l : EL} {key : Ln} (h : eS l key = true) (i : Nat) : iD (gF l key) i + (if jU l key = i then 1 else 0) = iD l i := by
 obtain ⟨n, h1, h2⟩ := oU h; rw [h2]; have hlt := (List.getElem?_eq_some_iff.1 h1).1; unfold gF iD
 conv => rhs; rw [<- List.take_append_drop (dY l key) l]
 have e : l.drop (dY l key) = (key, n) :: l.drop (dY l key + 1) := by
   rw [List.drop_eq_getElem_cons hlt]; rw [List.getElem?_eq_getElem hlt] at h1; rw [Option.some.inj h1]
 rw [e, List.countP_append, List.countP_append, List.countP_cons]; simp only [beq_iff_eq]; omega
theorem aEq {l : EL} {key : Ln} {i : Nat} (h : (key, i) ∈ l) : 1 <= iD l i := by
 unfold iD; exact List.countP_pos_iff.2 ⟨(key, i), h, by simp⟩
structure NOk (k g : Nat) (n : bF) : Prop where
 rng : 1 <= n.inode /\ n.inode < 256
 knd : (n.kind = 1 /\ n.l = []) \/ (n.kind = 2 /\ n.text = [])
 srt : iC n.l
 nam : ∀ e ∈ n.l, eJ e.1 = true /\ bB e.1 = true /\ 1 <= e.2 /\ e.2 < 256
 txt : bB n.text = true /\ n.text.length <= 16384
 len : n.l.length <= k
 gen : n.gen <= g
structure Inv (k : Nat) (T : TreeP) : Prop where
 inc : kV T.l
 ok : ∀ n ∈ T.l, NOk k T.gen n
 root : ∃ r, bQ T.l 1 = some r /\ r.kind = 2
 ent : ∀ i, 1 <= aZ T.l i -> ∃ m, bQ T.l i = some m
 one : ∀ i m, bQ T.l i = some m -> m.kind = 2 -> aZ T.l i <= 1
 rt0 : aZ T.l 1 = 0
 tot : cT T.l <= 65536
 gen : T.gen <= k
theorem NOk.mono {k k' g g' : Nat} {n : bF} (h : NOk k g n) (hk : k <= k') (hg : g <= g') : NOk k' g' n :=
 ⟨h.rng, h.knd, h.srt, h.nam, h.txt, Nat.le_trans h.len hk, Nat.le_trans h.gen hg⟩
theorem Inv.mono {k k' : Nat} {T : TreeP} (h : Inv k T) (hk : k <= k') : Inv k' T :=
 ⟨h.inc, λ n hn => (h.ok n hn).mono hk (Nat.le_refl _), h.root, h.ent, h.one, h.rt0, h.tot, Nat.le_trans h.gen hk⟩
theorem Inv.of {k : Nat} {T : TreeP} (h : Inv k T) {i : Nat} {n : bF} (hn : bQ T.l i = some n) : NOk k T.gen n /\ n.inode = i := ⟨h.ok n (dG hn).1, (dG hn).2⟩
theorem yG {L : NL} {n : bF} (hn : n ∈ L) {key : Ln} {i : Nat} (he : (key, i) ∈ n.l) : 1 <= aZ L i :=
 Nat.le_trans (aEq he) (aCm (f := λ n => iD n.l i) hn)
def eV (L : NL) : List (Ln) -> Nat -> Nat × Nat
 | [], at_ => (at_, 0)
 | n :: ns, at_ => match bQ L at_ with
   | some nd => if nd.kind = 1 then (0, 13) else if eS nd.l n then eV L ns (jU nd.l n) else (0, 7)
   | none => (0, 7)
theorem aAO {k : Nat} {T : TreeP} (h : Inv k T) : ∀ (ns : List (Ln)) (at_ i : Nat) {m : bF}, bQ T.l at_ = some m -> eV T.l ns at_ = (i, 0) -> ∃ n, bQ T.l i = some n
 | [], at_, i, m, hm, e => by
   simp only [eV, Prod.mk.injEq, and_true] at e; subst e; exact ⟨m, hm⟩
 | n :: ns, at_, i, m, hm, e => by
   simp only [eV, hm] at e; split at e
   · cases e
   · split at e
     · rename_i hh; obtain ⟨m', hm'⟩ := h.ent _ (yG (dG hm).1 (mJ hh)); exact aAO h ns _ i hm' e
     · cases e
def aU (T : TreeP) (p : Ln) : Nat × Nat := if eO p = 0 then eV T.l (aT p) 1 else (0, eO p)
theorem oR {k : Nat} {T : TreeP} (h : Inv k T) {p : Ln} {i : Nat} (e : aU T p = (i, 0)) : eO p = 0 /\ eV T.l (aT p) 1 = (i, 0) /\ ∃ n, bQ T.l i = some n := by
 unfold aU at e; split at e
 · rename_i h0; obtain ⟨r, hr, _⟩ := h.root; exact ⟨h0, e, aAO h _ _ _ hr e⟩
 · rename_i h0; simp only [Prod.mk.injEq] at e; exact absurd e.2 h0
def cH (T : TreeP) (p : Ln) : Nat × Ln × Nat :=
 if aT p = [] then (0, [], 15) else
   if (eV T.l ((aT p).take ((aT p).length - 1)) 1).2 = 0 then
     match bQ T.l (eV T.l ((aT p).take ((aT p).length - 1)) 1).1 with
     | some n => if n.kind = 1 then (0, [], 13) else ((eV T.l ((aT p).take ((aT p).length - 1)) 1).1, dT p, 0)
     | none => (0, [], 13)
   else (0, [], (eV T.l ((aT p).take ((aT p).length - 1)) 1).2)
theorem mV {T : TreeP} {p : Ln} {d : Nat} {name : Ln} (e : cH T p = (d, name, 0)) :
   aT p ≠ [] /\ eV T.l ((aT p).take ((aT p).length - 1)) 1 = (d, 0) /\ (∃ n, bQ T.l d = some n /\ n.kind ≠ 1) /\ name = dT p := by
 unfold cH at e; split at e
 · cases e
 · rename_i hne; split at e
   · rename_i h0; split at e
     · rename_i n hn; split at e
       · cases e
       · rename_i hk; simp only [Prod.mk.injEq, and_true] at e; obtain ⟨rfl, rfl⟩ := e; exact ⟨hne, by rw [<- h0], ⟨n, hn, hk⟩, rfl⟩
     · cases e
   · rename_i h0; simp only [Prod.mk.injEq] at e; exact absurd e.2.2 h0
theorem tO (L : NL) : ∀ (a b : List (Ln)) (i j : Nat), eV L a i = (j, 0) -> eV L (a ++ b) i = eV L b j
 | [], b, i, j, e => by
   simp only [eV, Prod.mk.injEq, and_true] at e; subst e; rfl
 | n :: a, b, i, j, e => by
   simp only [eV, List.cons_append] at e ⊢; split at e
   · rename_i nd hn; split at e
     · cases e
     · rename_i hk; split at e
       · rename_i hh; rw [if_neg hk, if_pos hh]; exact tO L a b _ j e
       · cases e
   · cases e
theorem aBR (L : NL) : ∀ (a b : List (Ln)) (i : Nat), (eV L a i).2 ≠ 0 -> (eV L (a ++ b) i) = eV L a i
 | [], b, i, e => absurd rfl e
 | n :: a, b, i, e => by
   simp only [eV, List.cons_append] at e ⊢; split
   · rename_i nd hn; rw [hn] at e; simp only at e; by_cases hk : nd.kind = 1
     · rw [if_pos hk, if_pos hk]
     · rw [if_neg hk] at e ⊢; rw [if_neg hk]; by_cases hh : eS nd.l n = true
       · rw [if_pos hh] at e ⊢; rw [if_pos hh]; exact aBR L a b _ e
       · rw [if_neg hh, if_neg hh]
   · rfl
theorem nJ {l : List (Ln)} (h : l ≠ []) : l = l.take (l.length - 1) ++ [l.getD (l.length - 1) []] := by
 have hp : 0 < l.length := List.length_pos_iff.2 h
 conv => lhs; rw [<- List.take_append_drop (l.length - 1) l]
 congr 1
 rw [List.drop_eq_getElem_cons (by omega), List.drop_of_length_le (by omega)]
 simp [List.getD, List.getElem?_eq_getElem (show l.length - 1 < l.length by omega)]
theorem oQ {k : Nat} {T : TreeP} (h : Inv k T) {p : Ln} {i : Nat} (e : aU T p = (i, 0)) (hi : i ≠ 1) : ∃ d n, cH T p = (d, dT p, 0) /\ bQ T.l d = some n /\ n.kind = 2 /\ eS n.l (dT p) = true /\ jU n.l (dT p) = i := by
 obtain ⟨h0, hw, m, hm⟩ := oR h e; have hne : aT p ≠ [] := by
   intro hh; rw [hh] at hw; simp only [eV, Prod.mk.injEq, and_true] at hw; exact hi hw.symm
 have hs := nJ hne; cases hpre : eV T.l ((aT p).take ((aT p).length - 1)) 1 with
 | mk d e1 =>
   by_cases he1 : e1 = 0
   · subst he1; obtain ⟨r, hr, _⟩ := h.root; obtain ⟨n, hn⟩ := aAO h _ _ _ hr hpre; have hw2 := hw; rw [hs, tO T.l _ _ _ _ hpre] at hw2; simp only [eV, hn] at hw2; split at hw2
     · cases hw2
     · rename_i hk; split at hw2
       · rename_i hh; simp only [Prod.mk.injEq, and_true] at hw2; have hk2 : n.kind = 2 := by
           rcases (h.of hn).1.knd with ⟨x, _⟩ | ⟨x, _⟩
           · exact absurd x hk
           · exact x
         refine ⟨d, n, ?_, hn, hk2, hh, hw2⟩; unfold cH; rw [if_neg hne, hpre]; simp only [if_true, hn]; rw [if_neg hk]
       · cases hw2
   · have := aBR T.l ((aT p).take ((aT p).length - 1)) [(aT p).getD ((aT p).length - 1) []] 1 (by rw [hpre]; exact he1)
     rw [<- hs, hw, hpre] at this; simp only [Prod.mk.injEq] at this; exact absurd this.2.symm he1
def kP (T : TreeP) (d : Nat) (name : Ln) : Bool := match bQ T.l d with
 | some n => eS n.l name
 | none => false
def aBp (L : NL) : Option Nat := (List.range' 2 254).find? λ i => (bQ L i).isNone
def gV (T : TreeP) (d : Nat) (name : Ln) (i : Nat) : NL := gA T.l d (dZ λ l => gQ l name i)
def eC (T : TreeP) (d : Nat) (name : Ln) : NL := gA T.l d (dZ λ l => gF l name)
def mkT (T : TreeP) (p : Ln) (kind : Nat) : TreeP × Nat :=
 if (cH T p).2.2 = 0 then
   if kP T (cH T p).1 (cH T p).2.1 then (T, 6) else
     match aBp T.l with
     | some i => (⟨qZ (gV T (cH T p).1 (cH T p).2.1 i) ⟨i, T.gen + 1, kind, [], []⟩, T.gen + 1⟩, 0)
     | none => (T, 5)
 else (T, (cH T p).2.2)
def aFr (T : TreeP) (i : Nat) : Nat := match bQ T.l i with
 | some n => n.kind
 | none => 0
def iL (T : TreeP) (p : Ln) : TreeP × Nat :=
 if (aU T p).2 = 0 then
   if aFr T (aU T p).1 = 2 then (T, 12) else
     (⟨if aZ (eC T (cH T p).1 (cH T p).2.1) (aU T p).1 = 0 then jN (eC T (cH T p).1 (cH T p).2.1) (aU T p).1 else eC T (cH T p).1 (cH T p).2.1, T.gen⟩, 0)
 else (T, (aU T p).2)
def aHY (T : TreeP) (i : Nat) : Nat := match bQ T.l i with
 | some n => n.l.length
 | none => 0
def kR (T : TreeP) (p : Ln) : TreeP × Nat :=
 if (aU T p).2 = 0 then
   if aFr T (aU T p).1 = 1 then (T, 13) else if (aU T p).1 = 1 then (T, 1) else if 0 < aHY T (aU T p).1 then (T, 14) else
     (⟨jN (eC T (cH T p).1 (cH T p).2.1) (aU T p).1, T.gen⟩, 0)
 else (T, (aU T p).2)
def iS (T : TreeP) (p o : Ln) : TreeP × Nat :=
 if (aU T p).2 = 0 then
   if (cH T o).2.2 = 0 then
     if (aU T p).1 = 1 \/ nQ p o = true then (T, 1) else if aT p = aT o then (T, 0) else if kP T (cH T o).1 (cH T o).2.1 then (T, 6) else
       (⟨gV ⟨eC T (cH T p).1 (cH T p).2.1, T.gen⟩ (cH T o).1 (cH T o).2.1 (aU T p).1, T.gen⟩, 0)
   else (T, (cH T o).2.2)
 else (T, (aU T p).2)
def oS (T : TreeP) (p o : Ln) : TreeP × Nat :=
 if (aU T p).2 = 0 then
   if (cH T o).2.2 = 0 then
     if aFr T (aU T p).1 = 2 then (T, 12) else if kP T (cH T o).1 (cH T o).2.1 then (T, 6) else if 100 <= aZ T.l (aU T p).1 then (T, 5) else
       (⟨gV T (cH T o).1 (cH T o).2.1 (aU T p).1, T.gen⟩, 0)
   else (T, (cH T o).2.2)
 else (T, (aU T p).2)
theorem sV {L : NL} (hL : kV L) {d : Nat} {n : bF} (hn : bQ L d = some n) (name : Ln) (i j : Nat) : aZ (gA L d (dZ λ l => gQ l name i)) j = aZ L j + if i = j then 1 else 0 := by
 have := qC (λ n => iD n.l j) hL hn (dZ λ l => gQ l name i)
 have e : iD (dZ (λ l => gQ l name i) n).l j = iD n.l j + if i = j then 1 else 0 := aZo n.l name i j
 unfold aZ; rw [e] at this; omega
theorem lK {L : NL} (hL : kV L) {d : Nat} {n : bF} (hn : bQ L d = some n) {name : Ln} (hh : eS n.l name = true) (j : Nat) : aZ (gA L d (dZ λ l => gF l name)) j + (if jU n.l name = j then 1 else 0) = aZ L j := by
 have := qC (λ n => iD n.l j) hL hn (dZ λ l => gF l name)
 have e : iD (dZ (λ l => gF l name) n).l j + (if jU n.l name = j then 1 else 0) = iD n.l j := aOt hh j
 unfold aZ; omega
theorem lG {L : NL} (hL : kV L) {d : Nat} {n : bF} (hn : bQ L d = some n) (f : EL -> EL) : cT (gA L d (dZ f)) = cT L := by
 have := qC (λ n => n.text.length) hL hn (dZ f)
 have e : (dZ f n).text.length = n.text.length := rfl; unfold cT; rw [e] at this; omega
theorem kL (f : EL -> EL) (n : bF) : (dZ f n).inode = n.inode := rfl
theorem uR {L : NL} {i : Nat} (h : aBp L = some i) : 2 <= i /\ i < 256 /\ bQ L i = none /\ ∀ j, 2 <= j -> j < i -> ∃ n, bQ L j = some n := by
 unfold aBp at h; have h1 := List.mem_of_find?_eq_some h; have h2 := List.find?_some h; rw [List.mem_range'_1] at h1; refine ⟨h1.1, by omega, by simpa using h2, λ j hj1 hj2 => ?_⟩
 rw [List.find?_range'_eq_some] at h; have := h.2.2 j hj1 hj2; cases hg : bQ L j with
 | none => rw [hg] at this; simp at this
 | some n => exact ⟨n, rfl⟩
theorem mW {L : NL} {d : Nat} (f : EL -> EL) (j : Nat) : bQ (gA L d (dZ f)) j = (bQ L j).map λ n => if j = d then dZ f n else n := aCq (kL f) j
theorem kQ {L : NL} {d j : Nat} (f : EL -> EL) {n : bF} (h : bQ L j = some n) : ∃ m, bQ (gA L d (dZ f)) j = some m /\ m.kind = n.kind /\ m.inode = n.inode /\ m.gen = n.gen /\ m.text = n.text := by
 rw [mW, h]; refine ⟨_, rfl, ?_⟩; split <;> exact ⟨rfl, rfl, rfl, rfl⟩
theorem aAW {L : NL} {d j : Nat} (f : EL -> EL) {m : bF} (h : bQ (gA L d (dZ f)) j = some m) : ∃ n, bQ L j = some n /\ m.kind = n.kind := by
 rw [mW] at h; cases hn : bQ L j with
 | none => rw [hn] at h; cases h
 | some n =>
   rw [hn] at h; simp only [Option.map_some, Option.some.injEq] at h; subst h; exact ⟨n, rfl, by split <;> rfl⟩
theorem uM : ∀ {s : Ln}, bB s = true -> ∀ p ∈ cR s, bB p = true
 | [], _, p, h => by simp [cR] at h; subst h; rfl
 | c :: s, hs, p, h => by
   simp only [bB, Bool.and_eq_true] at hs; rw [cR] at h; split at h
   · rcases List.mem_cons.1 h with rfl | h
     · rfl
     · exact uM hs.2 p h
   · split at h
     · simp at h; subst h; simp [bB, hs.1]
     · rename_i q r hq; rcases List.mem_cons.1 h with rfl | h
       · simp only [bB, Bool.and_eq_true]; exact ⟨hs.1, uM hs.2 q (by rw [hq]; simp)⟩
       · exact uM hs.2 p (by rw [hq]; simp [h])
theorem xS : ∀ {ps out r : List (Ln)}, (∀ n ∈ out, bB n = true) -> (∀ n ∈ ps, bB n = true) -> eB out ps = some r -> ∀ n ∈ r, bB n = true
 | [], out, r, h1, _, e => by
   simp only [eB, Option.some.injEq] at e; subst e; exact h1
 | p :: ps, out, r, h1, h2, e => by
   have h3 : ∀ n ∈ ps, bB n = true := λ n hn => h2 n (by simp [hn])
   rw [eB] at e; split at e
   · exact xS h1 h3 e
   · split at e
     · exact xS (λ n hn => h1 n (List.mem_of_mem_take hn)) h3 e
     · split at e
       · refine xS (λ n hn => ?_) h3 e
         rcases List.mem_append.1 hn with hn | hn
         · exact h1 n hn
         · simp at hn; subst hn; exact h2 n (by simp)
       · cases e
theorem bCn {p : Ln} (hp : bB p = true) : ∀ n ∈ aT p, eJ n = true /\ bB n = true := by
 intro n hn; refine ⟨(iJ p).1 n hn, ?_⟩; unfold aT at hn; cases hs : jL p with
 | none => rw [hs] at hn; cases hn
 | some l =>
   rw [hs] at hn; unfold jL at hs; split at hs
   · cases hs
   · exact xS (λ n hn => by cases hn) (uM (aAe hp 1)) hs n hn
theorem pK {p : Ln} (hp : bB p = true) (h : aT p ≠ []) : eJ (dT p) = true /\ bB (dT p) = true := by
 refine bCn hp _ ?_; unfold dT; have hl : 0 < (aT p).length := List.length_pos_iff.2 h; simp only [List.getD, List.getElem?_eq_getElem (show (aT p).length - 1 < (aT p).length by omega), Option.getD_some]
 exact List.getElem_mem _
theorem NOk.add {k g : Nat} {n : bF} (h : NOk k g n) (hk : n.kind = 2) {name : Ln} {i : Nat} (h1 : eJ name = true) (h2 : bB name = true) (h3 : 1 <= i /\ i < 256) (h4 : eS n.l name = false) : NOk (k + 1) g (dZ (λ l => gQ l name i) n) where
 rng := h.rng
 knd := by
   rcases h.knd with ⟨x, _⟩ | x
   · rw [hk] at x; cases x
   · exact .inr x
 srt := aOO h.srt h4
 nam := λ e he => by
   rcases aZz.1 he with rfl | he
   · exact ⟨h1, h2, h3.1, h3.2⟩
   · exact h.nam e he
 txt := h.txt
 len := by show (gQ n.l name i).length <= _; rw [aDU]; have := h.len; omega
 gen := h.gen
theorem NOk.rem {k g : Nat} {n : bF} (h : NOk k g n) (hk : n.kind = 2) (name : Ln) : NOk k g (dZ (λ l => gF l name) n) where
 rng := h.rng
 knd := by
   rcases h.knd with ⟨x, _⟩ | x
   · rw [hk] at x; cases x
   · exact .inr x
 srt := aNf h.srt name
 nam := λ e he => h.nam e (aNe he)
 txt := h.txt
 len := by
   show (gF n.l name).length <= _; have := h.len; unfold gF; rw [List.length_append, List.length_take, List.length_drop]; omega
 gen := h.gen
theorem aPX {k g : Nat} {L : NL} (hL : kV L) {d : Nat} {n : bF} (hn : bQ L d = some n) {f : EL -> EL} (h : ∀ m ∈ L, NOk k g m) (hf : NOk k g (dZ f n)) : ∀ m ∈ gA L d (dZ f), NOk k g m := by
 intro m hm; obtain ⟨x, hx, rfl⟩ := aML.1 hm; split
 · rename_i e; have := nX hL hx; rw [e, hn] at this; cases this; exact hf
 · exact h x hx
theorem aDI {k : Nat} {T : TreeP} (h : Inv k T) {i : Nat} {n : bF} (hn : bQ T.l i = some n) (hk : n.kind ≠ 1) : n.kind = 2 := by
 rcases (h.of hn).1.knd with ⟨x, _⟩ | ⟨x, _⟩
 · exact absurd x hk
 · exact x
theorem iT {T : TreeP} {i : Nat} {n : bF} (hn : bQ T.l i = some n) : aFr T i = n.kind := by unfold aFr; rw [hn]
theorem vR {T : TreeP} {d : Nat} {name : Ln} {n : bF} (hn : bQ T.l d = some n) (h : ¬ kP T d name = true) : eS n.l name = false := by
 unfold kP at h; rw [hn] at h; simpa using h
theorem aTt {k : Nat} {T : TreeP} (h : Inv k T) {p : Ln} (hp : bB p = true) {kind : Nat} (hkd : kind = 1 \/ kind = 2) : Inv (k + 1) (mkT T p kind).1 := by
 unfold mkT; split
 · rename_i e0; obtain ⟨hne, hw, ⟨n, hn, hk1⟩, hnm⟩ := mV (T := T) (p := p) (d := (cH T p).1) (name := (cH T p).2.1) (by rw [<- e0])
   generalize (cH T p).1 = d at *; generalize (cH T p).2.1 = name at *; have hk2 := aDI h hn hk1; split
   · exact h.mono (by omega)
   · rename_i hth; have hh := vR hn hth; have hnok := pK hp hne; rw [<- hnm] at hnok; split
     · rename_i i hi; obtain ⟨f1, f2, f3, _⟩ := uR hi; have hset := aPX (k := k + 1) (g := T.gen + 1) h.inc hn (f := λ l => gQ l name i) (λ m hm => (h.ok m hm).mono (by omega) (by omega)) ((((h.of hn).1.add hk2 hnok.1 hnok.2 ⟨by omega, f2⟩ hh).mono (Nat.le_refl _) (by omega)))
       have hinc := nM (i := d) (kL λ l => gQ l name i) h.inc
       have hfree : bQ (gV T d name i) i = none := by
         unfold gV; rw [mW, f3]; rfl
       have hl : ∀ j, aZ (qZ (gV T d name i) ⟨i, T.gen + 1, kind, [], []⟩) j = aZ T.l j + if i = j then 1 else 0 := λ j => by
         have := aAV (λ n => iD n.l j) (gV T d name i) ⟨i, T.gen + 1, kind, [], []⟩
         have e : iD ([] : EL) j = 0 := rfl; unfold aZ; rw [this, e]; exact sV h.inc hn name i j
       have hgi : ∀ j, bQ (qZ (gV T d name i) ⟨i, T.gen + 1, kind, [], []⟩) j = if j = i then some ⟨i, T.gen + 1, kind, [], []⟩ else bQ (gV T d name i) j := λ j => aIo (L := gV T d name i) (x := ⟨i, T.gen + 1, kind, [], []⟩) hinc hfree j
       refine ⟨aIm hinc hfree, λ m hm => ?_, ?_, λ j hj => ?_, λ j m hm hkm => ?_, ?_, ?_, by show T.gen + 1 <= k + 1; have := h.gen; omega⟩
       · rcases aBl.1 hm with rfl | hm
         · exact ⟨⟨by show 1 <= i; omega, f2⟩, hkd.elim (λ e => .inl ⟨e, rfl⟩) (λ e => .inr ⟨e, rfl⟩), List.Pairwise.nil, (λ e he => by cases he), ⟨rfl, by simp⟩, by simp, Nat.le_refl _⟩
         · exact hset m hm
       · obtain ⟨r, hr, hrk⟩ := h.root; obtain ⟨m, hm, hmk, _⟩ := kQ (d := d) (λ l => gQ l name i) hr
         exact ⟨m, (hgi 1).trans (by rw [if_neg (by omega)]; exact hm), by rw [hmk]; exact hrk⟩
       · change 1 <= aZ (qZ (gV T d name i) ⟨i, T.gen + 1, kind, [], []⟩) j at hj; rw [hl] at hj; by_cases hji : j = i
         · exact ⟨_, (hgi j).trans (if_pos hji)⟩
         · rw [if_neg (λ x => hji x.symm)] at hj
           obtain ⟨m, hm⟩ := h.ent j (by omega)
           obtain ⟨m', hm', _⟩ := kQ (d := d) (λ l => gQ l name i) hm
           exact ⟨m', (hgi j).trans (by rw [if_neg hji]; exact hm')⟩
       · show aZ (qZ (gV T d name i) ⟨i, T.gen + 1, kind, [], []⟩) j <= 1; rw [hl]
         replace hm := (hgi j).symm.trans hm
         by_cases hji : j = i
         · subst hji; have : aZ T.l j = 0 := by
             rcases Nat.lt_or_ge 0 (aZ T.l j) with hx | hx
             · obtain ⟨y, hy⟩ := h.ent j hx; rw [f3] at hy; cases hy
             · omega
           rw [this]; simp
         · rw [if_neg hji] at hm; obtain ⟨x, hx, hxk⟩ := aAW _ hm; rw [if_neg (λ y => hji y.symm)]
           exact h.one j x hx (by rw [<- hxk]; exact hkm)
       · show aZ (qZ (gV T d name i) ⟨i, T.gen + 1, kind, [], []⟩) 1 = 0; rw [hl, h.rt0, if_neg (by omega)]
       · have := aAV (λ n => n.text.length) (gV T d name i) ⟨i, T.gen + 1, kind, [], []⟩
         show cT _ <= _; unfold cT; rw [this]; have e := lG h.inc hn (λ l => gQ l name i)
         unfold cT at e; show ((gV T d name i).map λ n => n.text.length).sum + 0 <= _
         unfold gV; rw [e]; have := h.tot; unfold cT at this; omega
     · exact h.mono (by omega)
 · exact h.mono (by omega)
theorem uH {k : Nat} {T : TreeP} (h : Inv k T) {d : Nat} {n : bF} (hn : bQ T.l d = some n) (hk : n.kind = 2) {name : Ln} (hh : eS n.l name = true) : Inv k ⟨eC T d name, T.gen⟩ where
 inc := nM (kL _) h.inc
 ok := aPX h.inc hn (f := λ l => gF l name) h.ok ((h.of hn).1.rem hk name)
 root := by
   obtain ⟨r, hr, hrk⟩ := h.root; obtain ⟨m, hm, hmk, _⟩ := kQ (d := d) (λ l => gF l name) hr
   exact ⟨m, hm, by rw [hmk]; exact hrk⟩
 ent := λ i hi => by
   have := lK h.inc hn hh i; change 1 <= aZ (gA T.l d (dZ λ l => gF l name)) i at hi
   obtain ⟨m, hm⟩ := h.ent i (by omega)
   obtain ⟨m', hm', _⟩ := kQ (d := d) (λ l => gF l name) hm
   exact ⟨m', hm'⟩
 one := λ i m hm hkm => by
   obtain ⟨x, hx, hxk⟩ := aAW _ hm; have := h.one i x hx (by rw [<- hxk]; exact hkm)
   have := lK h.inc hn hh i; show aZ (gA T.l d (dZ λ l => gF l name)) i <= 1
   omega
 rt0 := by
   have := lK h.inc hn hh 1; have := h.rt0; show aZ (gA T.l d (dZ λ l => gF l name)) 1 = 0
   omega
 tot := by
   show cT (gA T.l d (dZ λ l => gF l name)) <= _
   rw [lG h.inc hn]; exact h.tot
 gen := h.gen
theorem aTC {k : Nat} {T : TreeP} (h : Inv k T) {i : Nat} {n : bF} (hn : bQ T.l i = some n) (hl : n.l = []) (h0 : aZ T.l i = 0) (h1 : i ≠ 1) : Inv k ⟨jN T.l i, T.gen⟩ := by
 have hlk : ∀ j, aZ (jN T.l i) j = aZ T.l j := λ j => by
   have := vX (λ n => iD n.l j) h.inc hn
   have e : iD n.l j = 0 := by rw [hl]; rfl
   unfold aZ; rw [e] at this; omega
 refine ⟨aWw i h.inc, λ m hm => h.ok m (List.mem_filter.1 hm).1, ?_, λ j hj => ?_, λ j m hm hkm => ?_, ?_, ?_, h.gen⟩
 · obtain ⟨r, hr, hrk⟩ := h.root; exact ⟨r, by rw [mM, if_neg (λ x => h1 x.symm)]; exact hr, hrk⟩
 · change 1 <= aZ (jN T.l i) j at hj; rw [hlk] at hj; obtain ⟨m, hm⟩ := h.ent j hj; exact ⟨m, by rw [mM, if_neg (λ x => by subst x; omega)]; exact hm⟩
 · show aZ (jN T.l i) j <= 1; rw [hlk]; rw [mM] at hm; split at hm
   · cases hm
   · exact h.one j m hm hkm
 · show aZ (jN T.l i) 1 = 0; rw [hlk]; exact h.rt0
 · have := vX (λ n => n.text.length) h.inc hn
   show cT (jN T.l i) <= _; have := h.tot; unfold cT at *; omega
theorem aMr {k : Nat} {T : TreeP} (h : Inv k T) (p : Ln) : Inv k (iL T p).1 := by
 unfold iL; split
 · rename_i e0; obtain ⟨_, _, n, hn⟩ := oR h (p := p) (i := (aU T p).1) (by rw [<- e0])
   split
   · exact h
   · rename_i hk; rw [iT hn] at hk; have hi : (aU T p).1 ≠ 1 := by
       intro hx; obtain ⟨r, hr, hrk⟩ := h.root; rw [hx, hr] at hn; cases hn; exact hk hrk
     obtain ⟨d, m, q1, q2, q3, q4, q5⟩ := oQ h (p := p) (i := (aU T p).1) (by rw [<- e0]) hi
     rw [q1]; have hr := uH h q2 q3 q4; show Inv k ⟨if aZ (eC T d (dT p)) (aU T p).1 = 0 then jN (eC T d (dT p)) (aU T p).1 else eC T d (dT p), T.gen⟩
     split
     · rename_i h0; obtain ⟨n', hn', hk', _⟩ := kQ (d := d) (λ l => gF l (dT p)) hn
       have hkk : n'.kind = 1 := by
         rcases (h.of hn).1.knd with ⟨x, _⟩ | ⟨x, _⟩
         · rw [hk']; exact x
         · exact absurd x hk
       have hl' : n'.l = [] := by
         rcases (hr.of hn').1.knd with ⟨_, x⟩ | ⟨x, _⟩
         · exact x
         · rw [hkk] at x; cases x
       exact aTC hr hn' hl' h0 hi
     · exact hr
 · exact h
theorem aQo {k : Nat} {T : TreeP} (h : Inv k T) (p : Ln) : Inv k (kR T p).1 := by
 unfold kR; split
 · rename_i e0; obtain ⟨_, _, n, hn⟩ := oR h (p := p) (i := (aU T p).1) (by rw [<- e0])
   split
   · exact h
   · rename_i hk; rw [iT hn] at hk; split
     · exact h
     · rename_i hi; split
       · exact h
       · rename_i hsz; obtain ⟨d, m, q1, q2, q3, q4, q5⟩ := oQ h (p := p) (i := (aU T p).1) (by rw [<- e0]) hi
         rw [q1]; have hr := uH h q2 q3 q4; have hnl : n.l = [] := by
           unfold aHY at hsz; rw [hn] at hsz; exact List.eq_nil_of_length_eq_zero (by simpa using hsz)
         have hk2 := aDI h hn hk; have h1 := h.one _ n hn hk2; have hlk := lK h.inc q2 q4 (aU T p).1; rw [q5, if_pos rfl] at hlk; have hne : (aU T p).1 ≠ d := by
           intro hx; rw [hx] at hn; rw [hn] at q2; cases q2; rw [hnl] at q4; simp [eS] at q4
         have hn' : bQ (eC T d (dT p)) (aU T p).1 = some n := by
           unfold eC; rw [mW, hn]; simp only [Option.map_some]; rw [if_neg hne]
         have h0 : aZ (eC T d (dT p)) (aU T p).1 = 0 := by
           unfold eC; omega
         exact aTC hr hn' hnl h0 hi
 · exact h
theorem aTZ {k : Nat} {T : TreeP} (h : Inv k T) {d i : Nat} {n x : bF} (hn : bQ T.l d = some n) (hk : n.kind = 2) {name : Ln} (h1 : eJ name = true) (h2 : bB name = true) (hh : eS n.l name = false) (hx : bQ T.l i = some x) (hxk : x.kind = 2 -> aZ T.l i = 0) (hi : i ≠ 1) : Inv (k + 1) ⟨gV T d name i, T.gen⟩ := by
 have hl := sV h.inc hn name i; have hrng := (h.of hx).1.rng; rw [(h.of hx).2] at hrng; refine ⟨nM (kL _) h.inc, aPX h.inc hn (λ m hm => (h.ok m hm).mono (by omega) (Nat.le_refl _)) ((h.of hn).1.add hk h1 h2 hrng hh), ?_, λ j hj => ?_, λ j m hm hkm => ?_, ?_, ?_, Nat.le_trans h.gen (by omega)⟩
 · obtain ⟨r, hr, hrk⟩ := h.root; obtain ⟨m, hm, hmk, _⟩ := kQ (d := d) (λ l => gQ l name i) hr
   exact ⟨m, hm, by rw [hmk]; exact hrk⟩
 · change 1 <= aZ (gA T.l d (dZ λ l => gQ l name i)) j at hj
   rw [hl] at hj; by_cases hij : i = j
   · subst hij; obtain ⟨m', hm', _⟩ := kQ (d := d) (λ l => gQ l name i) hx
     exact ⟨m', hm'⟩
   · rw [if_neg hij] at hj; obtain ⟨m, hm⟩ := h.ent j hj; obtain ⟨m', hm', _⟩ := kQ (d := d) (λ l => gQ l name i) hm
     exact ⟨m', hm'⟩
 · show aZ (gA T.l d (dZ λ l => gQ l name i)) j <= 1
   rw [hl]; obtain ⟨y, hy, hyk⟩ := aAW _ hm; by_cases hij : i = j
   · subst hij; rw [hx] at hy; cases hy; rw [if_pos rfl, hxk (by rw [<- hyk]; exact hkm)]; omega
   · rw [if_neg hij]; exact h.one j y hy (by rw [<- hyk]; exact hkm)
 · show aZ (gA T.l d (dZ λ l => gQ l name i)) 1 = 0
   rw [hl, h.rt0, if_neg hi]
 · show cT (gA T.l d (dZ λ l => gQ l name i)) <= _
   rw [lG h.inc hn]; exact h.tot
theorem aWr {k : Nat} {T : TreeP} (h : Inv k T) (p : Ln) {o : Ln} (ho : bB o = true) : Inv (k + 1) (oS T p o).1 := by
 unfold oS; split
 · rename_i e0; obtain ⟨_, _, x, hx⟩ := oR h (p := p) (i := (aU T p).1) (by rw [<- e0])
   split
   · rename_i e1; obtain ⟨hne, hw, ⟨n, hn, hk1⟩, hnm⟩ := mV (T := T) (p := o) (d := (cH T o).1) (name := (cH T o).2.1) (by rw [<- e1])
     have hk2 := aDI h hn hk1; have hnok := pK ho hne; rw [<- hnm] at hnok; split
     · exact h.mono (by omega)
     · rename_i hk; rw [iT hx] at hk; split
       · exact h.mono (by omega)
       · rename_i hth; split
         · exact h.mono (by omega)
         · exact aTZ h hn hk2 hnok.1 hnok.2 (vR hn hth) hx (λ y => absurd y hk) (λ hi => by
             obtain ⟨r, hr, hrk⟩ := h.root; rw [hi, hr] at hx; cases hx; exact hk hrk)
   · exact h.mono (by omega)
 · exact h.mono (by omega)
theorem aFv {l : EL} (hs : iC l) {a b : Ln} (h : eS l b = false) : eS (gF l a) b = false := by
 cases hx : eS (gF l a) b with
 | false => rfl
 | true => rw [(aDL hs (aNe (mJ hx))).1] at h; cases h
theorem aNd {k : Nat} {T : TreeP} (h : Inv k T) (p : Ln) {o : Ln} (ho : bB o = true) : Inv (k + 1) (iS T p o).1 := by
 unfold iS; split
 · rename_i e0; obtain ⟨_, _, x, hx⟩ := oR h (p := p) (i := (aU T p).1) (by rw [<- e0])
   split
   · rename_i e1; obtain ⟨hne, hw, ⟨n, hn, hk1⟩, hnm⟩ := mV (T := T) (p := o) (d := (cH T o).1) (name := (cH T o).2.1) (by rw [<- e1])
     have hk2 := aDI h hn hk1; have hnok := pK ho hne; rw [<- hnm] at hnok; split
     · exact h.mono (by omega)
     · rename_i hc; have hi : (aU T p).1 ≠ 1 := λ y => hc (.inl y)
       split
       · exact h.mono (by omega)
       · split
         · exact h.mono (by omega)
         · rename_i hth; obtain ⟨d, m, q1, q2, q3, q4, q5⟩ := oQ h (p := p) (i := (aU T p).1) (by rw [<- e0]) hi
           rw [q1]; have hr := uH h q2 q3 q4; have hlk := lK h.inc q2 q4 (aU T p).1; rw [q5, if_pos rfl] at hlk; obtain ⟨x', hx', hxk', _⟩ := kQ (d := d) (λ l => gF l (dT p)) hx
           have hn' : ∃ n', bQ (eC T d (dT p)) (cH T o).1 = some n' /\ n'.kind = 2 /\ eS n'.l (cH T o).2.1 = false := by
             have hh := vR hn hth; unfold eC; rw [mW, hn]; refine ⟨_, rfl, ?_⟩; split
             · exact ⟨hk2, aFv (h.of hn).1.srt hh⟩
             · exact ⟨hk2, hh⟩
           obtain ⟨n', hn', hk', hh'⟩ := hn'; exact aTZ hr hn' hk' hnok.1 hnok.2 hh' hx' (λ y => by
             have := h.one _ x hx (by rw [<- hxk']; exact y)
             show aZ (gA T.l d (dZ λ l => gF l (dT p))) (aU T p).1 = 0
             omega) hi
   · exact h.mono (by omega)
 · exact h.mono (by omega)
abbrev NV := bF × DV
def iF (x : NV) : List DV := [ii x.1.inode, ii x.1.gen, ii x.1.kind, .str x.1.text, x.2]
def fC (xs : List NV) : List DV := xs.flatMap iF
theorem qK (x : NV) (xs : List NV) : fC (x :: xs) = iF x ++ fC xs := rfl
theorem lJ (a b : List NV) : fC (a ++ b) = fC a ++ fC b := by unfold fC; rw [List.flatMap_append]
theorem cQ : ∀ xs : List NV, (fC xs).length = xs.length * 5
 | [] => rfl
 | x :: xs => by rw [qK, List.length_append, cQ xs]; simp [iF]; omega
theorem aIh : ∀ {xs : List NV} {i : Nat} {x : NV}, xs[i]? = some x -> ∀ j, j < 5 -> (fC xs)[i * 5 + j]? = (iF x)[j]?
 | [], i, x, h, _, _ => by simp at h
 | y :: xs, 0, x, h, j, hj => by
   simp at h; subst h; rw [qK, Nat.zero_mul, Nat.zero_add, List.getElem?_append_left (by simpa [iF] using hj)]
 | y :: xs, i + 1, x, h, j, hj => by
   simp only [List.getElem?_cons_succ] at h; rw [qK, List.getElem?_append_right (by simp [iF]; omega)]
   have : (i + 1) * 5 + j - (iF y).length = i * 5 + j := by simp [iF]; omega
   rw [this]; exact aIh h j hj
theorem qI (xs : List NV) (i : Nat) : (fC xs).take (i * 5) = fC (xs.take i) := by
 rcases Nat.lt_or_ge xs.length i with h | h
 · rw [List.take_of_length_le (by rw [cQ]; omega), List.take_of_length_le (by omega)]
 · conv => lhs; rw [<- List.take_append_drop i xs, lJ]
   rw [List.take_append_of_le_length (by rw [cQ, List.length_take]; omega), List.take_of_length_le (by rw [cQ, List.length_take]; omega)]
theorem qJ (xs : List NV) (i : Nat) : (fC xs).drop (i * 5) = fC (xs.drop i) := by
 rcases Nat.lt_or_ge xs.length i with h | h
 · rw [List.drop_of_length_le (by rw [cQ]; omega), List.drop_of_length_le (by omega)]; rfl
 · conv => lhs; rw [<- List.take_append_drop i xs, lJ]
   rw [show i * 5 = (fC (xs.take i)).length from by rw [cQ, List.length_take]; omega, List.drop_left]
theorem RowE.one {A : Nat -> Prop} {es : Nat} {h : H} {v : DV} {L : List DV} (r : RowE A es h v L) : v.one = true := by
 obtain ⟨n, _, ⟨rfl, _⟩ | ⟨b, o, o2, rfl, _⟩ | ⟨b, o, c, op, rfl, _⟩⟩ := r <;> rfl
theorem yE {A : Nat -> Prop} {h : H} : ∀ {xs : List NV}, (∀ x ∈ xs, RowE A 2 h x.2 (eA x.1.l)) -> (fC xs).all DV.one = true
 | [], _ => rfl
 | x :: xs, hx => by
   rw [qK, List.all_append, yE λ y hy => hx y (by simp [hy])]
   have := RowE.one (hx x (by simp))
   simp only [iF, List.all_cons, List.all_nil, this]; rfl
def eF (A : Nat -> Prop) (h : H) (v : DV) (T : TreeP) : Prop := ∃ s xs, v = .agg [s, ii T.gen] /\ xs.map (·.1) = T.l /\ RowE A 5 h s (fC xs) /\ ∀ x ∈ xs, RowE A 2 h x.2 (eA x.1.l)
theorem eF.move {A A' : Nat -> Prop} {h h' : H} {v : DV} {T : TreeP} (r : eF A h v T) (hs : h.size <= h'.size) (hg : ∀ c, A c -> c < h.size -> h'.get c = h.get c) (hA : ∀ c, A c -> c < h.size -> A' c) : eF A' h' v T := by
 obtain ⟨s, xs, e1, e2, e3, e4⟩ := r; exact ⟨s, xs, e1, e2, e3.move hs hg hA, λ x hx => (e4 x hx).move hs hg hA⟩
theorem eF.grown {A : Nat -> Prop} {h h' : H} {v : DV} {T : TreeP} (r : eF A h v T) (g : aH h h') : eF A h' v T := r.move g.size (λ c _ hc => g.get c hc) λ _ h _ => h
theorem gN {A : Nat -> Prop} {h : H} {s : DV} {xs : List NV} (r : RowE A 5 h s (fC xs)) {i : Nat} {x : NV} (he : xs[i]? = some x) (k : IntKind) :
   ∃ b o, cD 5 s (.int k (.ofNat i)) = some (.ptr b o) /\ (∀ q, aI q (.ptr b o) = some (.ptr b (o + q))) /\ aF h.get (.ptr b (o + 0)) = some (ii x.1.inode) /\ aF h.get (.ptr b (o + 1)) = some (ii x.1.gen) /\ aF h.get (.ptr b (o + 2)) = some (ii x.1.kind) /\
     aF h.get (.ptr b (o + 3)) = some (.str x.1.text) /\ aF h.get (.ptr b (o + 4)) = some x.2 /\ aM 5 h.get (.ptr b o) = some (.agg (iF x)) := by
 obtain ⟨b, o, h1, h2⟩ := r.ix (i := i) (n := xs.length) (cQ xs) (List.getElem?_eq_some_iff.1 he).1 (by omega) k
 have g := aIh he; have c : ∀ j, j < 5 -> ∀ y, (iF x)[j]? = some y -> rdCell h.get b (o + j) = some y := λ j hj y hy => h2 j y hj (by rw [g j hj]; exact hy)
 have c0 := c 0 (by omega) _ rfl
 have c1 := c 1 (by omega) _ rfl
 have c2 := c 2 (by omega) _ rfl
 have c3 := c 3 (by omega) _ rfl
 have c4 := c 4 (by omega) _ rfl
 refine ⟨b, o, h1, λ q => aJ q b o, by simp only [aF, cL]; exact c0, by simp only [aF, cL]; exact c1, by simp only [aF, cL]; exact c2, by simp only [aF, cL]; exact c3, by simp only [aF, cL]; exact c4, ?_⟩
 rw [Nat.add_zero] at c0; have hc : rdCells h.get b o 5 = some (iF x) := by
   simp only [rdCells, c0, c1, c2, c3, c4, Nat.add_assoc, Nat.reduceAdd]; rfl
 simp only [aM, cM, hc]; rfl
def kU (L : NL) (i : Nat) : Option Nat := L.findIdx? λ n => n.inode == i
theorem eP {L : NL} {i p : Nat} (h : kU L i = some p) : ∃ n, L[p]? = some n /\ bQ L i = some n := by
 unfold kU at h; rw [List.findIdx?_eq_some_iff_getElem] at h; obtain ⟨hp, h1, h2⟩ := h; refine ⟨L[p], List.getElem?_eq_getElem hp, ?_⟩; unfold bQ; rw [List.find?_eq_some_iff_getElem]; exact ⟨by simpa using h1, p, hp, rfl, λ j hj => by simpa using h2 j hj⟩
theorem wC {L : NL} {i : Nat} {n : bF} (h : bQ L i = some n) : ∃ p, kU L i = some p /\ L[p]? = some n := by
 cases hp : kU L i with
 | none =>
   unfold kU at hp; rw [List.findIdx?_eq_none_iff] at hp; obtain ⟨h1, h2⟩ := dG h; have := hp n h1; simp [h2] at this
 | some p =>
   obtain ⟨m, h1, h2⟩ := eP hp; rw [h] at h2; cases h2; exact ⟨p, rfl, h1⟩
theorem aQH {L : NL} {i : Nat} (h : bQ L i = none) : kU L i = none := by
 unfold kU; rw [List.findIdx?_eq_none_iff]; exact λ n hn => by simpa using aCr h n hn
def mT (L : NL) (i : Nat) : Int := match kU L i with
 | some p => .ofNat p
 | none => .negSucc 0
def vB (B : cF) : Prop := ∀ (A : Nat -> Prop) (v : DV) (T : TreeP) (i : Nat) (h : H), eF A h v T -> T.l.length < 100000 -> ∃ h', B [v, ii i] h = some (.int .i64 (mT T.l i), h') /\ aH h h'
theorem aQD {E : bJ} {A : Nat -> Prop} {s g : DV} {xs : List NV} {i b : Nat} {h : H} (r : RowE A 5 h s (fC xs)) (ho : aX h b [s, g]) (hl : xs.length < 100000) :
   ∀ (k j m : Nat), xs.length - j = k -> j <= xs.length -> (∀ q x, q < j -> xs[q]? = some x -> x.1.inode ≠ i) ->
   aAD E (ii i) (.ptr b 0) (m + (k + 1)) (ii j) h = some (.int .i64 (mT (xs.map (·.1)) i), h) := by
 obtain ⟨n, e1, e2⟩ := r.len; have hn : n = xs.length := by rw [cQ] at e1; omega
 subst hn; have fa : aI 0 (.ptr b 0) = some (.ptr b 0) := by rw [aJ]
 intro k
 induction k with
 | zero =>
   intro j m hk hj hq; have : j = xs.length := by omega
   subst this; have hp : kU (xs.map (·.1)) i = none := by
     unfold kU; rw [List.findIdx?_eq_none_iff]; intro x hx; obtain ⟨y, hy, rfl⟩ := List.mem_map.1 hx; obtain ⟨q, hq2⟩ := List.mem_iff_getElem?.1 hy; have := hq q y (List.getElem?_eq_some_iff.1 hq2).1 hq2
     simpa using this
   show aGQ E _ _ (aAD E _ _ m) _ h = _; unfold aGQ; rw [fa, aA, ho.read (j := 0) rfl, aA, e2, aA, aP, aA, decide_eq_false (Nat.lt_irrefl _), aC]; unfold aLx mT; rw [hp]
 | succ k ih =>
   intro j m hk hj hq; have hlt : j < xs.length := by omega
   obtain ⟨x, hx⟩ : ∃ x, xs[j]? = some x := ⟨_, List.getElem?_eq_getElem hlt⟩; obtain ⟨bb, o, q1, q2, q3, q4, q5, q6, q7, q8⟩ := gN r hx .i64; show aGQ E _ _ (aAD E _ _ (m + (k + 1))) _ h = _; unfold aGQ; rw [fa, aA, ho.read (j := 0) rfl, aA, e2, aA, aP, aA, decide_eq_true hlt, aD, aA, ho.read (j := 0) rfl, aA, q1, aA, q2, aA, q3, aA, cB, aA]; by_cases he : x.1.inode = i
   · have hp : kU (xs.map (·.1)) i = some j := by
       unfold kU; rw [List.findIdx?_eq_some_iff_getElem]; refine ⟨by simpa using hlt, ?_, λ q hq2 => ?_⟩
       · rw [List.getElem_map]; rw [List.getElem?_eq_getElem hlt] at hx; rw [Option.some.inj hx]; simpa using he
       · rw [List.getElem_map]; have := hq q _ hq2 (List.getElem?_eq_getElem (by omega))
         simpa using this
     rw [decide_eq_true he, aD]; unfold mT; rw [hp]
   · rw [decide_eq_false he, aC, bO (by omega), aA]
     refine ih (j + 1) m (by omega) (by omega) λ q y hq2 hy => ?_
     rcases Nat.lt_or_ge q j with h1 | h1
     · exact hq q y h1 hy
     · have : q = j := by omega
       subst this; rw [hx] at hy; cases hy; exact he
theorem aXX {E : bJ} : vB (bAr E) := by
 intro A v T i h r hl; obtain ⟨s, xs, rfl, e2, e3, e4⟩ := r; have hxl : xs.length = T.l.length := by rw [<- e2, List.length_map]
 obtain ⟨h1, eh, g1, o1⟩ := aO h 2 2 [s, ii T.gen] rfl; have := aQD (E := E) (i := i) (e3.grown g1) o1 (by omega) xs.length 0 (aQ - (xs.length + 1)) (by omega) (by omega) (λ q x hq => by omega)
 rw [show aQ - (xs.length + 1) + (xs.length + 1) = aQ from by unfold aQ; omega, e2] at this
 refine ⟨h1, ?_, g1⟩; show aLy E (.agg [s, ii T.gen]) (ii i) h = _; unfold aLy; rw [hU]; show aAD E _ _ _ _ (h.push (.blk ⟨2, 2, false, true, Tr.ofL [s, ii T.gen]⟩)) = _; rw [<- eh]; exact this
def qY (B : cF) : Prop := ∀ (A : Nat -> Prop) (v : DV) (T : TreeP) (i : Nat) (h : H), eF A h v T -> T.l.length < 1000 -> (∀ n ∈ T.l, n.l.length < 1000) -> ∃ h', B [v, ii i] h = some (ii ((aZ T.l i)), h') /\ aH h h'
theorem aJz {E : bJ} {A : Nat -> Prop} {s g : DV} {xs : List NV} {i b : Nat} {h : H} (r : RowE A 5 h s (fC xs)) (ho : aX h b [s, g]) {x : NV} {j : Nat} (hx : xs[j]? = some x) (rx : RowE A 2 h x.2 (eA x.1.l)) (hl : x.1.l.length < 1000) (i2 : DV -> DV -> H -> aV) :
   ∀ (k q c m : Nat), x.1.l.length - q = k -> q <= x.1.l.length -> c + (x.1.l.length - q) <= 2000000 ->
   xI E i2 (.int .i64 (.ofNat i)) (.ptr b 0) (.int .i64 (.ofNat j)) (m + (k + 1)) (.int .i64 (.ofNat c)) (.int .i64 (.ofNat q)) h = aGn E i2 (.int .i64 (.ofNat (c + iD (x.1.l.drop q) i))) (.int .i64 (.ofNat j)) h := by
 have fa : aI 0 (.ptr b 0) = some (.ptr b 0) := by rw [aJ]
 obtain ⟨bb, o, q1, q2, q3, q4, q5, q6, q7, q8⟩ := gN r hx .i64; obtain ⟨n, e1, e2⟩ := rx.len; have hn : n = x.1.l.length := by rw [bI] at e1; omega
 subst hn; intro k
 induction k with
 | zero =>
   intro q c m hk hq hc; have : q = x.1.l.length := by omega
   subst this; show aGN E i2 _ _ _ (xI E i2 _ _ _ m) _ _ h = _; unfold aGN; rw [fa, aA, ho.read (j := 0) rfl, aA, q1, aA, q2, aA, q7, aA, e2, aA, aP, aA, decide_eq_false (Nat.lt_irrefl _), aC, List.drop_length]
   rfl
 | succ k ih =>
   intro q c m hk hq hc; have hlt : q < x.1.l.length := by omega
   obtain ⟨e, he⟩ : ∃ e, x.1.l[q]? = some e := ⟨_, List.getElem?_eq_getElem hlt⟩; obtain ⟨b2, o2, i1, i2', i3, i4, i5, i6, i7, i8⟩ := kX rx he .i64; have hd : x.1.l.drop q = e :: x.1.l.drop (q + 1) := by
     rw [List.drop_eq_getElem_cons hlt]; rw [List.getElem?_eq_getElem hlt] at he; rw [Option.some.inj he]
   show aGN E i2 _ _ _ (xI E i2 _ _ _ (m + (k + 1))) _ _ h = _; unfold aGN; rw [fa, aA, ho.read (j := 0) rfl, aA, q1, aA, q2, aA, q7, aA, e2, aA, aP, aA, decide_eq_true hlt, aD, aA, ho.read (j := 0) rfl, aA, q1, aA, q2, aA, q7, aA, i1, aA, i6, aA, i8, aA, cB, aA]; have hcnt : iD (x.1.l.drop q) i = iD (x.1.l.drop (q + 1)) i + if e.2 = i then 1 else 0 := by
     rw [hd]; unfold iD; rw [List.countP_cons]; simp
   have hcl : iD (x.1.l.drop (q + 1)) i <= 1000 := Nat.le_trans (List.countP_le_length) (by rw [List.length_drop]; omega)
   by_cases hei : e.2 = i
   · rw [decide_eq_true hei, aD, bO (by omega), aA]
     unfold aGm; rw [bO (by omega), aA]
     rw [if_pos hei] at hcnt; rw [ih (q + 1) (c + 1) m (by omega) (by omega) (by omega), hcnt]
     congr 3; omega
   · rw [decide_eq_false hei, aC]; unfold aGm; rw [bO (by omega), aA]
     rw [if_neg hei] at hcnt; rw [ih (q + 1) c m (by omega) (by omega) (by omega), hcnt]; rfl
theorem aHn {E : bJ} {A : Nat -> Prop} {s g : DV} {xs : List NV} {i b : Nat} {h : H} (r : RowE A 5 h s (fC xs)) (ho : aX h b [s, g]) (rx : ∀ x ∈ xs, RowE A 2 h x.2 (eA x.1.l)) (hl : xs.length < 1000) (hxl : ∀ x ∈ xs, x.1.l.length < 1000) :
   ∀ (k j c m : Nat), xs.length - j = k -> j <= xs.length -> c <= 1000 * j ->
   mF E (ii i) (.ptr b 0) (m + (k + 1)) (ii c) (ii j) h = some (ii ((c + aZ ((xs.drop j).map (·.1)) i)), h) := by
 obtain ⟨n, e1, e2⟩ := r.len; have hn : n = xs.length := by rw [cQ] at e1; omega
 subst hn; have fa : aI 0 (.ptr b 0) = some (.ptr b 0) := by rw [aJ]
 intro k
 induction k with
 | zero =>
   intro j c m hk hj hc; have : j = xs.length := by omega
   subst this; show aGO E _ _ (mF E _ _ m) _ _ h = _; unfold aGO; rw [fa, aA, ho.read (j := 0) rfl, aA, e2, aA, aP, aA, decide_eq_false (Nat.lt_irrefl _), aC, List.drop_length]
   rfl
 | succ k ih =>
   intro j c m hk hj hc; have hlt : j < xs.length := by omega
   obtain ⟨x, hx⟩ : ∃ x, xs[j]? = some x := ⟨_, List.getElem?_eq_getElem hlt⟩; have hm := List.mem_of_getElem? hx; have hlx := hxl x hm; have hd : xs.drop j = x :: xs.drop (j + 1) := by
     rw [List.drop_eq_getElem_cons hlt]; rw [List.getElem?_eq_getElem hlt] at hx; rw [Option.some.inj hx]
   have hcl : iD x.1.l i <= 1000 := Nat.le_trans (List.countP_le_length) (by omega)
   show aGO E _ _ (mF E _ _ (m + (k + 1))) _ _ h = _; unfold aGO; rw [fa, aA, ho.read (j := 0) rfl, aA, e2, aA, aP, aA, decide_eq_true hlt, aD]; have hin := aJz (E := E) (i := i) r ho hx (rx x hm) hlx (mF E (ii i) (.ptr b 0) (m + (k + 1))) x.1.l.length 0 c (aQ - (x.1.l.length + 1)) (by omega) (by omega) (by omega)
   rw [show aQ - (x.1.l.length + 1) + (x.1.l.length + 1) = aQ from by unfold aQ; omega] at hin
   refine hin.trans ?_; unfold aGn; rw [bO (by omega), aA, List.drop_zero, ih (j + 1) _ m (by omega) (by omega) (by omega), hd]
   have e : c + iD x.1.l i + aZ ((xs.drop (j + 1)).map (·.1)) i = c + aZ ((x :: xs.drop (j + 1)).map (·.1)) i := by
     simp only [List.map_cons, List.sum_cons, aZ]; omega
   rw [e]
theorem aMX {E : bJ} : qY (bAn E) := by
 intro A v T i h r hl hll; obtain ⟨s, xs, rfl, e2, e3, e4⟩ := r; have hxl : xs.length = T.l.length := by rw [<- e2, List.length_map]
 obtain ⟨h1, eh, g1, o1⟩ := aO h 2 2 [s, ii T.gen] rfl; have := aHn (E := E) (i := i) (e3.grown g1) o1 (λ x hx => (e4 x hx).grown g1) (by omega) (λ x hx => hll x.1 (by rw [<- e2]; exact List.mem_map.2 ⟨x, hx, rfl⟩)) xs.length 0 0 (aQ - (xs.length + 1)) (by omega) (by omega) (by omega)
 rw [show aQ - (xs.length + 1) + (xs.length + 1) = aQ from by unfold aQ; omega, List.drop_zero, e2, Nat.zero_add] at this
 refine ⟨h1, ?_, g1⟩; show aLs E (.agg [s, ii T.gen]) (ii i) h = _; unfold aLs; rw [hU]; show mF E _ _ _ _ _ (h.push (.blk ⟨2, 2, false, true, Tr.ofL [s, ii T.gen]⟩)) = _; rw [<- eh]; exact this
def qW (B : cF) : Prop := ∀ (A : Nat -> Prop) (v : DV) (T : TreeP) (p : Nat) (n : bF) (name : Ln) (h : H), eF A h v T -> T.l[p]? = some n -> n.l.length < 1000 -> ∃ h', B [v, ii p, .str name] h = some (.bool (eS n.l name), h') /\ aH h h'
theorem jA {xs : List NV} {p : Nat} {n : bF} {L : NL} (e : xs.map (·.1) = L) (h : L[p]? = some n) : ∃ x, xs[p]? = some x /\ x.1 = n := by
 rw [<- e, List.getElem?_map] at h; cases hx : xs[p]? with
 | none => rw [hx] at h; cases h
 | some x => rw [hx] at h; cases h; exact ⟨x, rfl, rfl⟩
theorem aMS {E : bJ} (hL : bL E 151 tE) : qW (bAs E) := by
 obtain ⟨B, hB, sB⟩ := hL.call; intro A v T p n name h r hp hl; obtain ⟨s, xs, rfl, e2, e3, e4⟩ := r; obtain ⟨x, hx, rfl⟩ := jA e2 hp; obtain ⟨h1, eh, g1, o1⟩ := aO h 2 2 [s, ii T.gen] rfl; obtain ⟨bb, o, q1, q2, q3, q4, q5, q6, q7, q8⟩ := gN (e3.grown g1) hx .i64; refine ⟨h1, ?_, g1⟩; show aLz E (.agg [s, ii T.gen]) (ii p) (.str name) h = _; unfold aLz; rw [hU]; show (vK _ _ : aV) = _; rw [show h.push (.blk ⟨[s, ii T.gen].length, [s, ii T.gen].length, false, true, Tr.ofL [s, ii T.gen]⟩) = h1 from eh.symm, aJ, aA, o1.read (j := 0 + 0) rfl, aA, q1, aA, q2, aA, q7, aA, hB, sB A _ _ name h1 ((e4 x (List.mem_of_getElem? hx)).grown g1) (by omega), aB, aL, aA, aK, aA, cB, aA]
 unfold mK; cases eS x.1.l name <;> rfl
def sZ (B : cF) : Prop := ∀ (A : Nat -> Prop) (v : DV) (T : TreeP) (p : Nat) (x : NV) (h : H), eF A h v T -> T.l.length < 1000 -> p < T.l.length -> RowE A 2 h x.2 (eA x.1.l) -> (∀ c, h.size <= c -> A c) ->
 ∃ v' h', B [v, ii p, .agg (iF x)] h = some (v', h') /\ eF A h' v' ⟨T.l.set p x.1, T.gen⟩ /\ aH h h'
theorem aXF {α : Type} (l : List α) (p : Nat) (x : α) (hp : p < l.length) : l.take p ++ [x] ++ l.drop (p + 1) = l.set p x := by
 rw [List.set_eq_take_append_cons_drop, if_pos hp]; simp
theorem sU {A : Nat -> Prop} {h : H} {x : NV} (r : RowE A 2 h x.2 (eA x.1.l)) : (iF x).all DV.one = true := by
 have := RowE.one r; simp only [iF, List.all_cons, List.all_nil, this]; rfl
theorem aPZ {E : bJ} : sZ (aZT E) := by
 intro A v T p x h r hl hp rx hA; obtain ⟨s, xs, rfl, e2, e3, e4⟩ := r; have hxl : xs.length = T.l.length := by rw [<- e2, List.length_map]
 obtain ⟨h2, eh2, g2, o2⟩ := aO h 2 2 [s, ii T.gen] rfl; obtain ⟨h4, eh4, g4, o4⟩ : ∃ y, y = h2.push (.blk ⟨5, 5, false, true, Tr.ofL (iF x)⟩) /\ aH h2 y /\ aX y h2.size (iF x) := ⟨_, rfl, aH.push _ _, aCo _ _ rfl⟩; obtain ⟨h6, eh6, g6, o6⟩ := aO h4 2 2 [.nils, ii 0] rfl; have z2 : h2.size = h.size + 1 := by rw [eh2]; exact H.size_push _ _
 have z4 : h4.size = h2.size + 1 := by rw [eh4]; exact H.size_push _ _
 have z6 : h6.size = h4.size + 1 := by rw [eh6]; exact H.size_push _ _
 have g26 := (g2.trans g4).trans g6; have r6 := e3.grown g26; obtain ⟨n, y1, y2, y3⟩ := r6.src; have hn : n = xs.length := by rw [cQ] at y1; omega
 subst hn; have hone : (fC xs).all DV.one = true := yE λ y hy => e4 y hy
 obtain ⟨w, h10, f10, o10, k10⟩ := (jF.nil (n0 := h6.size) (es := 5) (h := h6)).app (Nat.le_refl _) (x := s) (bytes := 64) y2 y3 (cQ xs) hone (by omega) (λ m hm => iK (by simp at hm; omega) 64 (by omega))
 rw [List.nil_append] at o10; have g10 : aH h6 h10 := dH k10; have ox10 := (o4.grown g6).grown g10; obtain ⟨b, h14, i1, i2, i3, f14, o14, k14⟩ := o10.store (i := p) (n := xs.length) (cQ xs) (by omega) (by omega) (cs := iF x) rfl (sU rx) .i64
 have ot14 := (((o2.grown g4).grown g6).grown g10).but (by omega) k14
 obtain ⟨h17, f17, o17, k17⟩ := ot14.set (v := w) (j := 0) o10.one (by simp)
 have oz17 := ((o6.grown g10).but (by omega) k14).but (by omega) k17
 obtain ⟨h20, f20, o20, k20⟩ := oz17.setAll (n := 2) (cs := [w, ii T.gen]) rfl rfl (by simp only [List.all_cons, List.all_nil, o10.one]; rfl)
 have G : aH h h20 := by
   have a := k14.grown (g26.trans g10) (by omega)
   have b' := k17.grown a (Nat.le_refl _); exact k20.grown b' (by omega)
 have hA6 : ∀ c, h6.size <= c -> c < h20.size -> A c := λ c hc _ => hA c (by omega)
 have row20 : RowE A 5 h20 w (fC (xs.set p x)) := by
   have e : (fC xs).take (p * 5) ++ iF x ++ (fC xs).drop ((p + 1) * 5) = fC (xs.set p x) := by
     rw [qI, qJ, <- aXF xs p x (by omega), lJ, lJ]
     simp [fC]
   rw [e] at o14; have r14 := o14.row (A := λ c => h6.size <= c) (λ c hc _ => hc)
   exact r14.move (by rw [k20.size, k17.size]; exact Nat.le_refl _) (λ c hc _ => (k20.get c (by omega)).trans (k17.get c (by omega))) (λ c hc _ => hA c (by omega))
 refine ⟨.agg [w, ii T.gen], h20, ?_, ⟨w, xs.set p x, rfl, ?_, row20, λ y hy => ?_⟩, G⟩
 · show aKU E (.agg [s, ii T.gen]) (ii p) (.agg (iF x)) h = _; unfold aKU; have ld18 : aM 2 h17.get (.ptr h.size 0) = some (.agg [w, ii T.gen]) := o17.all (n := 2) rfl; rw [nbx eh2 rfl, nbx eh4 rfl, bG, <- eh6,
     aJ, aA, ((o2.grown g4).grown g6).read (j := 0 + 0) rfl, aA, f10, aB, ox10.all (n := 5) rfl, aA, i1, aA, f14, aB, aA]
   rw [show (DV.ptr h.size (0 + 0)) = .ptr h.size 0 from rfl, f17, aB, ld18, aA, f20, aB, o20.all (n := 2) rfl, aA]
 · show _ = T.l.set p x.1; rw [<- e2, List.map_set]
 · rcases List.mem_or_eq_of_mem_set hy with hy | rfl
   · exact (e4 y hy).grown G
   · exact rx.grown G
theorem yX {A : Nat -> Prop} {es : Nat} {h : H} {v : DV} {L : List DV} (r : RowE A es h v L) : RowE (λ c => c < h.size) es h v L := r.move (Nat.le_refl _) (λ _ _ _ => rfl) λ _ _ hc => hc
def xF (B : cF) : Prop := ∀ (A : Nat -> Prop) (v : DV) (T : TreeP) (p : Nat) (n : bF) (name : Ln) (i : Nat) (h : H), eF A h v T -> T.l.length < 1000 -> T.l[p]? = some n -> n.l.length < 1000 -> 1 <= i -> i < 256 -> eJ name = true -> eS n.l name = false -> (∀ c, h.size <= c -> A c) ->
 ∃ v' h', B [v, ii p, .str name, ii i] h = some (v', h') /\ eF A h' v' ⟨T.l.set p (dZ (λ l => gQ l name i) n), T.gen⟩ /\ aH h h'
theorem eF.agg {A : Nat -> Prop} {h : H} {v : DV} {T : TreeP} (r : eF A h v T) : ∃ s, v = .agg [s, ii T.gen] /\ s.one = true := by
 obtain ⟨s, xs, e1, e2, e3, e4⟩ := r; exact ⟨s, e1, RowE.one e3⟩
theorem aVY {E : bJ} (hAd : bL E 152 aGd) (hW : bL E 153 sZ) : xF (bAq E) := by
 obtain ⟨B1, b1, s1⟩ := hAd.call; obtain ⟨B2, b2, s2⟩ := hW.call; intro A v T p n name i h r hl hp hnl hi1 hi2 hk hh hA; have r0 := r; obtain ⟨s, xs, rfl, e2, e3, e4⟩ := r; obtain ⟨x, hx, rfl⟩ := jA e2 hp; obtain ⟨h2, eh2, g2, o2⟩ := aO h 2 2 [s, ii T.gen] rfl; obtain ⟨h4, eh4, g4, o4⟩ := aO h2 2 2 [.nils, ii 0] rfl; obtain ⟨h10, eh10, g10, o10⟩ := aO h4 5 5 [(ii 0), (ii 0), (ii 0), (.str []), .nils] rfl; have z2 : h2.size = h.size + 1 := by rw [eh2]; exact H.size_push _ _
 have z4 : h4.size = h2.size + 1 := by rw [eh4]; exact H.size_push _ _
 have z10 : h10.size = h4.size + 1 := by rw [eh10]; exact H.size_push _ _
 obtain ⟨bb, o, q1, q2, q3, q4, q5, q6, q7, q8⟩ := gN (e3.grown (g2.trans g4)) hx .i64; have rx := e4 x (List.mem_of_getElem? hx); obtain ⟨h12, f12, o12, k12⟩ := o10.setAll (n := 5) (cs := iF x) rfl rfl (sU rx); have G12 : aH h h12 := k12.grown ((g2.trans g4).trans g10) (by omega)
 obtain ⟨w, h16, f16, p16, g16⟩ := s1 x.2 x.1.l name i h12 (yX (rx.grown G12)) (by omega) hi1 hi2 hk hh
 have o16 := o12.grown g16; obtain ⟨h21, f21, o21, k21⟩ := o16.set (v := w) (j := 4) p16.one (by simp [iF])
 have o21' : aX h21 h4.size (iF (dZ (λ l => gQ l name i) x.1, w)) := o21
 have z12 : h12.size = h10.size := k12.size; have G21 : aH h h21 := k21.grown (G12.trans g16) (by omega)
 have ot21 := (((((o2.grown g4).grown g10).but (by omega) k12).grown g16).but (by omega) k21)
 have oz21 := ((((o4.grown g10).but (by omega) k12).grown g16).but (by omega) k21)
 have z16 := g16.size; have rw21 : RowE (λ c => (A c /\ c < h.size) \/ h12.size <= c) 2 h21 w (eA (gQ x.1.l name i)) := by
   have a := p16.row (A := λ c => h12.size <= c) (λ c hc _ => hc)
   exact a.move (by rw [k21.size]; exact Nat.le_refl _) (λ c hc _ => k21.get c (by omega)) (λ c hc _ => .inr hc)
 have z21 : h21.size = h16.size := k21.size; obtain ⟨u, h25, f25, r25, g25⟩ := s2 (λ c => (A c /\ c < h.size) \/ h12.size <= c) _ T p (dZ (λ l => gQ l name i) x.1, w) h21 (r0.move G21.size (λ c _ hc => G21.get c hc) (λ c ha hc => .inl ⟨ha, hc⟩)) hl (List.getElem?_eq_some_iff.1 hp).1 rw21 (λ c hc => .inr (by omega))
 obtain ⟨s', eu, us⟩ := r25.agg; obtain ⟨h27, f27, o27, k27⟩ := (oz21.grown g25).setAll (n := 2) (cs := [s', ii T.gen]) rfl rfl (by simp only [List.all_cons, List.all_nil, us]; rfl)
 have z25 := g25.size; have G27 : aH h h27 := k27.grown (G21.trans g25) (by omega)
 refine ⟨.agg [s', ii T.gen], h27, ?_, ?_, G27⟩
 · show aLw E (.agg [s, ii T.gen]) (ii p) (.str name) (ii i) h = _; unfold aLw; have eu' : u = .agg [s', ii T.gen] := eu; rw [eu'] at f25; rw [nbx eh2 rfl, bG, <- eh4,
     aJ, aA, (o2.grown g4).read (j := 0 + 0) rfl, aA, q1, aA, q8, aA, bG, <- eh10, f12, aB, aJ, aA, o12.read (j := 0 + 4) (x := x.2) rfl, aA, b1, f16, aB, aL, aA, aK, aA, aA]
   rw [show (DV.ptr h4.size (0 + 4)) = .ptr h4.size 4 from rfl, f21, aB, ot21.all (n := 2) rfl, aA, o21'.all (n := 5) rfl, aA, b2, f25, aB, f27, aB, o27.all (n := 2) rfl, aA]
 · rw [<- eu]; exact r25.move (by rw [k27.size]; exact Nat.le_refl _) (λ c hc _ => k27.get c (by rcases hc with ⟨_, hc⟩ | hc <;> omega)) (λ c hc _ => hc.elim (·.1) λ x => hA c (by omega))
def tD (B : cF) : Prop := ∀ (A : Nat -> Prop) (v : DV) (T : TreeP) (p : Nat) (n : bF) (name : Ln) (h : H), eF A h v T -> T.l.length < 1000 -> T.l[p]? = some n -> n.l.length < 1000 -> eS n.l name = true -> (∀ c, h.size <= c -> A c) ->
 ∃ v' h', B [v, ii p, .str name] h = some (v', h') /\ eF A h' v' ⟨T.l.set p (dZ (λ l => gF l name) n), T.gen⟩ /\ aH h h'
theorem aQf {E : bJ} (hAd : bL E 155 aGa) (hW : bL E 153 sZ) : tD (bAo E) := by
 obtain ⟨B1, b1, s1⟩ := hAd.call; obtain ⟨B2, b2, s2⟩ := hW.call; intro A v T p n name h r hl hp hnl hh hA; have r0 := r; obtain ⟨s, xs, rfl, e2, e3, e4⟩ := r; obtain ⟨x, hx, rfl⟩ := jA e2 hp; obtain ⟨h2, eh2, g2, o2⟩ := aO h 2 2 [s, ii T.gen] rfl; obtain ⟨h4, eh4, g4, o4⟩ := aO h2 2 2 [.nils, ii 0] rfl; obtain ⟨h10, eh10, g10, o10⟩ := aO h4 5 5 [(ii 0), (ii 0), (ii 0), (.str []), .nils] rfl; have z2 : h2.size = h.size + 1 := by rw [eh2]; exact H.size_push _ _
 have z4 : h4.size = h2.size + 1 := by rw [eh4]; exact H.size_push _ _
 have z10 : h10.size = h4.size + 1 := by rw [eh10]; exact H.size_push _ _
 obtain ⟨bb, o, q1, q2, q3, q4, q5, q6, q7, q8⟩ := gN (e3.grown (g2.trans g4)) hx .i64; have rx := e4 x (List.mem_of_getElem? hx); obtain ⟨h12, f12, o12, k12⟩ := o10.setAll (n := 5) (cs := iF x) rfl rfl (sU rx); have G12 : aH h h12 := k12.grown ((g2.trans g4).trans g10) (by omega)
 obtain ⟨w, h16, f16, p16, g16⟩ := s1 x.2 x.1.l name h12 (yX (rx.grown G12)) (by omega) hh
 have o16 := o12.grown g16; obtain ⟨h21, f21, o21, k21⟩ := o16.set (v := w) (j := 4) p16.one (by simp [iF])
 have o21' : aX h21 h4.size (iF (dZ (λ l => gF l name) x.1, w)) := o21
 have z12 : h12.size = h10.size := k12.size; have G21 : aH h h21 := k21.grown (G12.trans g16) (by omega)
 have ot21 := (((((o2.grown g4).grown g10).but (by omega) k12).grown g16).but (by omega) k21)
 have oz21 := ((((o4.grown g10).but (by omega) k12).grown g16).but (by omega) k21)
 have z16 := g16.size; have rw21 : RowE (λ c => (A c /\ c < h.size) \/ h12.size <= c) 2 h21 w (eA (gF x.1.l name)) := by
   have a := p16.row (A := λ c => h12.size <= c) (λ c hc _ => hc)
   exact a.move (by rw [k21.size]; exact Nat.le_refl _) (λ c hc _ => k21.get c (by omega)) (λ c hc _ => .inr hc)
 have z21 : h21.size = h16.size := k21.size; obtain ⟨u, h25, f25, r25, g25⟩ := s2 (λ c => (A c /\ c < h.size) \/ h12.size <= c) _ T p (dZ (λ l => gF l name) x.1, w) h21 (r0.move G21.size (λ c _ hc => G21.get c hc) (λ c ha hc => .inl ⟨ha, hc⟩)) hl (List.getElem?_eq_some_iff.1 hp).1 rw21 (λ c hc => .inr (by omega))
 obtain ⟨s', eu, us⟩ := r25.agg; obtain ⟨h27, f27, o27, k27⟩ := (oz21.grown g25).setAll (n := 2) (cs := [s', ii T.gen]) rfl rfl (by simp only [List.all_cons, List.all_nil, us]; rfl)
 have z25 := g25.size; have G27 : aH h h27 := k27.grown (G21.trans g25) (by omega)
 refine ⟨.agg [s', ii T.gen], h27, ?_, ?_, G27⟩
 · show aLt E (.agg [s, ii T.gen]) (ii p) (.str name) h = _; unfold aLt; have eu' : u = .agg [s', ii T.gen] := eu; rw [eu'] at f25; rw [nbx eh2 rfl, bG, <- eh4,
     aJ, aA, (o2.grown g4).read (j := 0 + 0) rfl, aA, q1, aA, q8, aA, bG, <- eh10, f12, aB, aJ, aA, o12.read (j := 0 + 4) (x := x.2) rfl, aA, b1, f16, aB, aL, aA, aK, aA, nR, aA, aA]
   rw [show (DV.ptr h4.size (0 + 4)) = .ptr h4.size 4 from rfl, f21, aB, ot21.all (n := 2) rfl, aA, o21'.all (n := 5) rfl, aA, b2, f25, aB, f27, aB, o27.all (n := 2) rfl, aA]
 · rw [<- eu]; exact r25.move (by rw [k27.size]; exact Nat.le_refl _) (λ c hc _ => k27.get c (by rcases hc with ⟨_, hc⟩ | hc <;> omega)) (λ c hc _ => hc.elim (·.1) λ x => hA c (by omega))
theorem aYm : ∀ {L : NL} {lo : Nat}, kV L -> (∀ n ∈ L, lo <= n.inode /\ n.inode < 256) -> lo <= 256 -> lo + L.length <= 256
 | [], lo, _, _, h => by simpa using h
 | n :: L, lo, hL, h, _ => by
   rw [kV, List.pairwise_cons] at hL; have h0 := h n (by simp)
   have := aYm (lo := n.inode + 1) hL.2 (λ m hm => ⟨hL.1 m hm, (h m (by simp [hm])).2⟩) (by omega)
   simp only [List.length_cons]; omega
theorem Inv.llen {k : Nat} {T : TreeP} (h : Inv k T) : T.l.length <= 255 := by
 have := aYm (lo := 1) h.inc (λ n hn => (h.ok n hn).rng) (by omega)
 omega
theorem zW {L : NL} (hL : kV L) {p : Nat} {n : bF} (hp : L[p]? = some n) (f : bF -> bF) : L.set p (f n) = gA L n.inode f := by
 have hpl := (List.getElem?_eq_some_iff.1 hp).1; refine List.ext_getElem? λ j => ?_
 unfold gA; rw [List.getElem?_set, List.getElem?_map]; by_cases hj : p = j
 · subst hj; rw [if_pos rfl, if_pos hpl, hp]; simp
 · rw [if_neg hj]; cases hx : L[j]? with
   | none => rfl
   | some x =>
     have hjl := (List.getElem?_eq_some_iff.1 hx).1; have hne : x.inode ≠ n.inode := by
       obtain ⟨_, e1⟩ := List.getElem?_eq_some_iff.1 hp; obtain ⟨_, e2⟩ := List.getElem?_eq_some_iff.1 hx; rcases Nat.lt_or_gt_of_ne hj with h | h
       · have := List.pairwise_iff_getElem.1 hL p j hpl hjl h; rw [e1, e2] at this; omega
       · have := List.pairwise_iff_getElem.1 hL j p hjl hpl h; rw [e1, e2] at this; omega
     simp [hne]
theorem bHh {L : NL} (hL : kV L) {p : Nat} {n : bF} (hp : L[p]? = some n) : L.take p ++ L.drop (p + 1) = jN L n.inode := by
 have hpl := (List.getElem?_eq_some_iff.1 hp).1; have e : L = L.take p ++ n :: L.drop (p + 1) := by
   conv => lhs; rw [<- List.take_append_drop p L, List.drop_eq_getElem_cons hpl]
   rw [List.getElem?_eq_getElem hpl] at hp; rw [Option.some.inj hp]
 have hL2 := hL; rw [e] at hL2; rw [kV, List.pairwise_append, List.pairwise_cons] at hL2; obtain ⟨_, ⟨h1, _⟩, h2⟩ := hL2; unfold jN
 conv => rhs; rw [e]
 rw [List.filter_append, List.filter_cons]; have : (n.inode != n.inode) = false := by simp
 rw [this, if_neg (by simp)]
 congr 1
 · exact (List.filter_eq_self.2 λ m hm => by have := h2 m hm n (by simp); simp; omega).symm
 · exact (List.filter_eq_self.2 λ m hm => by have := h1 m hm; simp; omega).symm
theorem xY {A : Nat -> Prop} {es : Nat} {h : H} {v : DV} {L : List DV} (r : RowE A es h v L) : vL (some v) v = true := by
 obtain ⟨n, _, ⟨rfl, _⟩ | ⟨b, o, o2, rfl, _⟩ | ⟨b, o, c, op, rfl, _⟩⟩ := r
 · rfl
 · show rB _ _ = true; simp [rB, Nat.beq_refl]
 · show rB _ _ = true; simp [rB, Nat.beq_refl]
def kE (B : cF) : Prop := ∀ (A : Nat -> Prop) (v : DV) (T : TreeP) (k : Nat) (p : Ln) (h : H), eF A h v T -> Inv k T -> k < 900 -> p.length < 140737488355328 ->
 ∃ pl h', B [v, .str p] h = some (.tup [ii pl, ii ((aU T p).2)], h') /\ aH h h' /\ ((aU T p).2 = 0 -> kU T.l (aU T p).1 = some pl)
theorem aJs {E : bJ} (hL : bL E 151 tE) (hAt : bL E 122 vB) {A : Nat -> Prop} {T : TreeP} {k0 : Nat} (hI : Inv k0 T) (hk0 : k0 < 900) {s w : DV} {b : Nat} {names : List (Ln)} (hnl : names.length < 1000000) {xs : List NV} (e2 : xs.map (·.1) = T.l) :
   ∀ (k j pl at_ m : Nat) (h : H) (n : bF), names.length - j = k -> j <= names.length -> dE h w (cU names) -> aX h b [s, ii T.gen] -> RowE A 5 h s (fC xs) -> (∀ x ∈ xs, RowE A 2 h x.2 (eA x.1.l)) -> T.l[pl]? = some n -> n.inode = at_ ->
   ∃ pl' h', aDd E (.ptr b 0) w (m + (k + 1)) (ii pl) (ii j) h = some (.tup [ii pl', ii ((eV T.l (names.drop j) at_).2)], h') /\ aH h h' /\ ((eV T.l (names.drop j) at_).2 = 0 -> kU T.l (eV T.l (names.drop j) at_).1 = some pl') := by
 obtain ⟨B1, b1, s1⟩ := hL.call; obtain ⟨B2, b2, s2⟩ := hAt.call; have fa : aI 0 (.ptr b 0) = some (.ptr b 0) := by rw [aJ]
 intro k
 induction k with
 | zero =>
   intro j pl at_ m h n hk hj rw_ ho re rx hp hn; have : j = names.length := by omega
   subst this; have hg : bQ T.l at_ = some n := by rw [<- hn]; exact nX hI.inc (List.mem_of_getElem? hp)
   obtain ⟨p', hp1, hp2⟩ := wC hg; refine ⟨pl, h, ?_, aH.refl _, λ _ => ?_⟩
   · show aGP E _ _ (aDd E _ _ m) _ _ h = _; unfold aGP; rw [rw_.len, aA, aP, aA, bH, decide_eq_false (Nat.lt_irrefl _), aC]; unfold aLu; rw [List.drop_length]; rfl
   · rw [List.drop_length]; show kU T.l at_ = some pl; have : p' = pl := by
       obtain ⟨q1, e3⟩ := List.getElem?_eq_some_iff.1 hp; obtain ⟨q2, e4⟩ := List.getElem?_eq_some_iff.1 hp2; rcases Nat.lt_trichotomy p' pl with x | x | x
       · have := List.pairwise_iff_getElem.1 hI.inc p' pl q2 q1 x; rw [e3, e4] at this; omega
       · exact x
       · have := List.pairwise_iff_getElem.1 hI.inc pl p' q1 q2 x; rw [e3, e4] at this; omega
     rw [hp1, this]
 | succ k ih =>
   intro j pl at_ m h n hk hj rw_ ho re rx hp hn; have hlt : j < names.length := by omega
   obtain ⟨nm, hnm⟩ : ∃ nm, names[j]? = some nm := ⟨_, List.getElem?_eq_getElem hlt⟩; have hd : names.drop j = nm :: names.drop (j + 1) := by
     rw [List.drop_eq_getElem_cons hlt]; rw [List.getElem?_eq_getElem hlt] at hnm; rw [Option.some.inj hnm]
   obtain ⟨x, hx, rfl⟩ := jA e2 hp; have hg : bQ T.l at_ = some x.1 := by rw [<- hn]; exact nX hI.inc (List.mem_of_getElem? hp)
   have hok := (hI.of hg).1; obtain ⟨bb, o, q1, q2, q3, q4, q5, q6, q7, q8⟩ := gN re hx .i64; have hlen := hok.len; obtain ⟨nb, no, i1, i2⟩ := rw_.at (j := j) (x := .str nm) (by unfold cU; rw [List.getElem?_map, hnm]; rfl) .i64
   rw [hd]; simp only [eV, hg]; show ∃ pl' h', aGP E _ _ (aDd E _ _ (m + (k + 1))) _ _ h = _ /\ _; unfold aGP; rw [rw_.len, aA, aP, aA, bH, decide_eq_true hlt, aD, fa, aA, ho.read (j := 0) rfl, aA, q1, aA, q2, aA, q5, aA, cB, aA]; by_cases hk1 : x.1.kind = 1
   · rw [decide_eq_true hk1, aD, if_pos hk1]; exact ⟨0, h, rfl, aH.refl _, λ hh => by cases hh⟩
   · rw [decide_eq_false hk1, aC, if_neg hk1]; have lk := s1 A x.2 x.1.l nm h (rx x (List.mem_of_getElem? hx)) (by omega)
     rw [aA, ho.read (j := 0) rfl, aA, q1, aA, q2, aA, q7, aA, i1, aA, i2, aA, b1, lk, aB, aL, aA, aK, aA, bC, aA]; by_cases hh : eS x.1.l nm = true
     · have e0 : mK x.1.l nm = 0 := by unfold mK; rw [hh]; rfl
       obtain ⟨mm, hm⟩ := hI.ent _ (yG (dG hg).1 (mJ hh)); obtain ⟨p', hp1, hp2⟩ := wC hm; obtain ⟨h', f1, g1⟩ := s2 A (.agg [s, ii T.gen]) T (jU x.1.l nm) h ⟨s, xs, rfl, e2, re, rx⟩ (by have := hI.llen; omega)
       have hpv : mT T.l (jU x.1.l nm) = .ofNat p' := by unfold mT; rw [hp1]
       rw [hpv] at f1; obtain ⟨pl', h2, f2, g2, c2⟩ := ih (j + 1) p' (jU x.1.l nm) m h' mm (by omega) (by omega) (rw_.grown g1) (ho.grown g1) (re.grown g1) (λ y hy => (rx y hy).grown g1) hp2 (dG hm).2
       rw [if_pos hh]; refine ⟨pl', h2, ?_, g1.trans g2, c2⟩; rw [e0]; simp only [decide_true, Bool.not_true]; rw [aC, ho.all (n := 2) rfl, aA, b2, f1, aB, bO (by omega), aA]
       exact f2
     · have e0 : mK x.1.l nm = 7 := by unfold mK; rw [if_neg hh]
       rw [if_neg hh, e0]; refine ⟨0, h, ?_, aH.refl _, λ hh2 => by cases hh2⟩
       rw [show (!decide (7 = 0)) = true from rfl, aD]
theorem aQa {E : bJ} (hS : bL E 154 jE) (hL : bL E 151 tE) (hAt : bL E 122 vB) : kE (bAp E) := by
 obtain ⟨B0, b0, s0⟩ := hS.call; obtain ⟨B2, b2, s2⟩ := hAt.call; intro A v T k p h r hI hk hp; have r0 := r; obtain ⟨s, xs, rfl, e2, e3, e4⟩ := r; obtain ⟨h1, eh, g1, o1⟩ := aO h 2 2 [s, ii T.gen] rfl; obtain ⟨w, h4, f4, r4, g4⟩ := s0 p h1 hp; have o4 := o1.grown g4; show ∃ pl h', aLv E (.agg [s, ii T.gen]) (.str p) h = _ /\ _; unfold aLv; rw [nbx eh rfl, b0, f4, aB, aL, aA, aK, aA, bC, aA]; unfold aU; by_cases hE : eO p = 0
 · obtain ⟨r1, hr1, _⟩ := hI.root; obtain ⟨p', hp1, hp2⟩ := wC hr1; obtain ⟨h10, f10, g10⟩ := s2 A (.agg [s, ii T.gen]) T 1 h4 (r0.grown (g1.trans g4)) (by have := hI.llen; omega)
   have hpv : mT T.l 1 = .ofNat p' := by unfold mT; rw [hp1]
   rw [hpv] at f10; have hnl : (aT p).length < 1000000 := by
     have := (iJ p).2.2.1; omega
   have G := (g1.trans g4).trans g10; obtain ⟨pl, h', f5, g5, c5⟩ := aJs (E := E) hL hAt hI hk hnl e2 (aT p).length 0 p' 1 (aQ - ((aT p).length + 1)) h10 r1 (by omega) (by omega) (r4.grown g10) (o4.grown g10) (e3.grown G) (λ y hy => (e4 y hy).grown G) hp2 (dG hr1).2
   rw [show aQ - ((aT p).length + 1) + ((aT p).length + 1) = aQ from by unfold aQ; omega] at f5
   rw [List.drop_zero] at f5 c5; rw [if_pos hE]; refine ⟨pl, h', ?_, G.trans g5, c5⟩; rw [hE]; simp only [decide_true, Bool.not_true]; rw [aC, o4.all (n := 2) rfl, aA, b2, f10, aB]; exact f5
 · rw [if_neg hE]; refine ⟨0, h4, ?_, g1.trans g4, λ x => absurd x hE⟩
   have d : (!decide (eO p = 0)) = true := by simp [hE]
   rw [d, aD]
theorem aQI {l : List (Ln)} (h : (dK l).length <= 255) : (wE l).length <= 255 := by
 unfold wE; split
 · simp
 · exact h
theorem aNN {l : List (Ln)} (n : Nat) : (dK (l.take n)).length <= (dK l).length := by
 conv => rhs; rw [<- List.take_append_drop n l]
 unfold dK; rw [List.map_append, List.flatten_append, List.length_append]; omega
theorem aQK {p : Ln} (h : aT p ≠ []) : eO (aEa p) = 0 /\ aT (aEa p) = (aT p).take ((aT p).length - 1) /\ (aEa p).length <= 255 := by
 obtain ⟨o1, o2, o3, o4⟩ := iJ p; have hn : ∀ n ∈ (aT p).take ((aT p).length - 1), eJ n = true := λ n hn => o1 n (List.mem_of_mem_take hn)
 have hl : (dK ((aT p).take ((aT p).length - 1))).length <= 255 := Nat.le_trans (aNN _) o2; have hj := aNC hn hl; have hs := sA hn hl; have e : aEa p = wE ((aT p).take ((aT p).length - 1)) := by
   unfold aEa aFt; rw [if_neg h, hj]; rfl
 rw [e]; refine ⟨by unfold eO; rw [hs], by show (jL _).getD [] = _; rw [hs]; rfl, aQI hl⟩
def qX (B : cF) : Prop := ∀ (A : Nat -> Prop) (v : DV) (T : TreeP) (k : Nat) (p : Ln) (h : H), eF A h v T -> Inv k T -> k < 900 -> p.length < 140737488355328 ->
 ∃ pl h', B [v, .str p] h = some (.tup [ii pl, .str (cH T p).2.1, ii ((cH T p).2.2)], h') /\ aH h h' /\ ((cH T p).2.2 = 0 -> kU T.l (cH T p).1 = some pl)
theorem aWa {E : bJ} (hP : bL E 150 aAB) (hW : bL E 124 kE) : qX (bAt E) := by
 obtain ⟨B0, b0, s0⟩ := hP.call; obtain ⟨B1, b1, s1⟩ := hW.call; intro A v T k p h r hI hk hp; have r0 := r; obtain ⟨s, xs, rfl, e2, e3, e4⟩ := r; obtain ⟨h1, eh, g1, o1⟩ := aO h 2 2 [s, ii T.gen] rfl; obtain ⟨h4, f4, g4⟩ := s0 p h1 hp; have o4 := o1.grown g4; show ∃ pl h', aLA E (.agg [s, ii T.gen]) (.str p) h = _ /\ _; unfold aLA; rw [nbx eh rfl, b0, f4, aB, aL, aA, aK, aA, nR, aA, bC, aA]; unfold cH; by_cases hne : aT p = []
 · have e15 : aJO p = 15 := by unfold aJO; rw [if_pos hne]
   rw [if_pos hne]; refine ⟨0, h4, ?_, g1.trans g4, λ x => by cases x⟩
   rw [e15, show (!decide (15 = 0)) = true from rfl, aD]
 · have e0 : aJO p = 0 := by unfold aJO; rw [if_neg hne]
   obtain ⟨d1, d2, d3⟩ := aQK hne; obtain ⟨pl, h11, f11, g11, c11⟩ := s1 A (.agg [s, ii T.gen]) T k (aEa p) h4 (r0.grown (g1.trans g4)) hI hk (by omega)
   have hlk : aU T (aEa p) = eV T.l ((aT p).take ((aT p).length - 1)) 1 := by unfold aU; rw [if_pos d1, d2]
   rw [hlk] at f11 c11; have G := (g1.trans g4).trans g11; rw [if_neg hne, e0, show (!decide (0 = 0)) = false from rfl, aC, o4.all (n := 2) rfl, aA, b1, f11, aB, aL, aA, aK, aA, bC, aA]
   by_cases hw : (eV T.l ((aT p).take ((aT p).length - 1)) 1).2 = 0
   · obtain ⟨n, hp1, hg⟩ := eP (c11 hw); obtain ⟨x, hx, rfl⟩ := jA e2 hp1; obtain ⟨bb, o, q1, q2, q3, q4, q5, q6, q7, q8⟩ := gN (e3.grown G) hx .i64; have fa0 : aI 0 (.ptr h.size 0) = some (.ptr h.size 0) := by rw [aJ]
     rw [if_pos hw, hg]; simp only [hw, decide_true, Bool.not_true]; rw [aC, fa0, aA, (o4.grown g11).read (j := 0) rfl, aA, q1, aA, q2, aA, q5, aA, cB, aA]; by_cases hk1 : x.1.kind = 1
     · rw [decide_eq_true hk1, aD, if_pos hk1]; exact ⟨0, h11, rfl, G, λ y => by cases y⟩
     · rw [decide_eq_false hk1, aC, if_neg hk1]; exact ⟨pl, h11, rfl, G, λ _ => c11 hw⟩
   · rw [if_neg hw]; refine ⟨0, h11, ?_, G, λ y => absurd y hw⟩
     have d : (!decide ((eV T.l ((aT p).take ((aT p).length - 1)) 1).2 = 0)) = true := by simp [hw]
     rw [d, aD]
def zA (B : cF) : Prop := ∀ (A : Nat -> Prop) (v : DV) (T : TreeP) (n : bF) (h : H), eF A h v T -> kV T.l -> T.l.length < 1000 -> n ∈ T.l -> (∀ c, h.size <= c -> A c) ->
 ∃ v' h', B [v, ii n.inode] h = some (v', h') /\ eF A h' v' ⟨jN T.l n.inode, T.gen⟩ /\ aH h h'
theorem aQs {E : bJ} (hAt : bL E 122 vB) : zA (bAm E) := by
 obtain ⟨B1, b1, s1⟩ := hAt.call; intro A v T n h r hinc hl hn hA; have r0 := r; obtain ⟨s, xs, rfl, e2, e3, e4⟩ := r; have hxl : xs.length = T.l.length := by rw [<- e2, List.length_map]
 obtain ⟨p, hp1, hp2⟩ := wC (nX hinc hn); have hpl := (List.getElem?_eq_some_iff.1 hp2).1; obtain ⟨h2, eh2, g2, o2⟩ := aO h 2 2 [s, ii T.gen] rfl; obtain ⟨h4, eh4, g4, o4⟩ := aO h2 2 2 [.nils, ii 0] rfl; have z2 : h2.size = h.size + 1 := by rw [eh2]; exact H.size_push _ _
 have z4 : h4.size = h2.size + 1 := by rw [eh4]; exact H.size_push _ _
 obtain ⟨h7, f7, g7⟩ := s1 A (.agg [s, ii T.gen]) T n.inode h4 (r0.grown (g2.trans g4)) (by omega)
 have hpv : mT T.l n.inode = .ofNat p := by unfold mT; rw [hp1]
 rw [hpv] at f7; have G7 := (g2.trans g4).trans g7; have r7 := e3.grown G7; obtain ⟨v1, u1, w1⟩ := r7.to (i := p) (cQ xs) (by omega) (by omega) .i64
 obtain ⟨v2, u2, w2⟩ := r7.from (i := p + 1) (cQ xs) (by omega) (by omega) .i64
 have hone : ∀ ys : List NV, (∀ y ∈ ys, y ∈ xs) -> (fC ys).all DV.one = true := λ ys hy => yE (A := A) (h := h) λ y h' => e4 y (hy y h')
 obtain ⟨k1, t1, t2, t3⟩ := w1.src; have l1 : ((fC xs).take (p * 5)).length = p * 5 := by rw [List.length_take, cQ]; omega
 have hk1 : k1 = p := by omega
 subst hk1; obtain ⟨y1, h16, f16, o16, p16⟩ := (jF.nil (n0 := h7.size) (es := 5) (h := h7)).app (Nat.le_refl _) (x := v1) (bytes := 64) t2 t3 l1 (by rw [qI]; exact hone _ λ y hy => List.mem_of_mem_take hy) (by omega) (λ m hm => iK (by simp at hm; omega) 64 (by omega))
 have g16 : aH h7 h16 := dH p16; obtain ⟨k2, t4, t5, t6⟩ := (w2.grown g16).src; have l2 : ((fC xs).drop ((k1 + 1) * 5)).length = (xs.length - (k1 + 1)) * 5 := by rw [List.length_drop, cQ]; omega
 have hk2 : k2 = xs.length - (k1 + 1) := by omega
 subst hk2; obtain ⟨y2, h18, f18, o18, p18⟩ := o16.app p16.size (x := v2) (bytes := 64) t5 t6 l2 (by rw [qJ]; exact hone _ λ y hy => List.mem_of_mem_drop hy) (by omega) (λ m hm => iK (by simp only [List.nil_append, l1] at hm; omega) 64 (by omega))
 have ecells : [] ++ (fC xs).take (k1 * 5) ++ (fC xs).drop ((k1 + 1) * 5) = fC (xs.take k1 ++ xs.drop (k1 + 1)) := by rw [List.nil_append, qI, qJ, lJ]
 rw [ecells] at o18; have g18 : aH h7 h18 := dH (p16.trans p18); have ot18 := ((o2.grown g4).grown g7).grown g18; have oz18 := (o4.grown g7).grown g18; obtain ⟨h21, f21, o21, k21⟩ := ot18.set (v := y2) (j := 0) o18.one (by simp)
 have oz21 := oz18.but (by omega) k21
 have one2 : ([y2, ii T.gen]).all DV.one = true := by simp only [List.all_cons, List.all_nil, o18.one]; rfl
 obtain ⟨h24, f24, o24, k24⟩ := oz21.setAll (n := 2) (cs := [y2, ii T.gen]) rfl rfl one2; have z7 := g7.size; have G : aH h h24 := k24.grown (k21.grown (G7.trans g18) (Nat.le_refl _)) (by omega)
 have row24 : RowE A 5 h24 y2 (fC (xs.take k1 ++ xs.drop (k1 + 1))) := by
   have a := o18.row (A := λ c => h7.size <= c) (λ c hc _ => hc)
   exact a.move (by rw [k24.size, k21.size]; exact Nat.le_refl _) (λ c hc _ => (k24.get c (by omega)).trans (k21.get c (by omega))) (λ c hc _ => hA c (by omega))
 refine ⟨.agg [y2, ii T.gen], h24, ?_, ⟨y2, xs.take k1 ++ xs.drop (k1 + 1), rfl, ?_, row24, λ y hy => ?_⟩, G⟩
 · show aLr E (.agg [s, ii T.gen]) (ii n.inode) h = _; unfold aLr; have fa0 : aI 0 (.ptr h.size 0) = some (.ptr h.size 0) := by rw [aJ]
   have rd7 := ((o2.grown g4).grown g7).read (j := 0) (x := s) rfl; have rd16 := (((o2.grown g4).grown g7).grown g16).read (j := 0) (x := s) rfl; have ld21 : aM 2 h21.get (.ptr h.size 0) = some (.agg [y2, ii T.gen]) := o21.all (n := 2) rfl; rw [nbx eh2 rfl, bG, <- eh4, (o2.grown g4).all (n := 2) rfl, aA, b1, f7, aB, fa0, aA, rd7, aA, u1, aA, aA, rd7, aA,
     bO (by omega), aA, u2, aA, f16, aB, rd16, xY e3, eQ, f18, aB, aA, f21, aB, ld21, aA, f24, aB, o24.all (n := 2) rfl, aA]
 · show _ = jN T.l n.inode; rw [List.map_append, List.map_take, List.map_drop, e2]; exact bHh hinc hp2
 · rcases List.mem_append.1 hy with hy | hy
   · exact (e4 y (List.mem_of_mem_take hy)).grown G
   · exact (e4 y (List.mem_of_mem_drop hy)).grown G
theorem aXx {α : Type} {p : α -> Bool} {l : List α} {j : Nat} {e : α} (hj : j < (l.takeWhile p).length) (he : l[j]? = some e) : p e = true := by
 have h1 : (l.takeWhile p)[j]? = some e := by
   have : l = l.takeWhile p ++ l.dropWhile p := (List.takeWhile_append_dropWhile).symm; rw [this, List.getElem?_append_left hj] at he; exact he
 exact nS (List.mem_of_getElem? h1)
theorem bFb {α : Type} {p : α -> Bool} : ∀ {l : List α} {e : α}, l[(l.takeWhile p).length]? = some e -> p e = false
 | [], e, h => by simp at h
 | x :: l, e, h => by
   rw [List.takeWhile_cons] at h; split at h
   · simp only [List.length_cons, List.getElem?_cons_succ] at h; exact bFb h
   · rename_i hx; simp only [List.length_nil, List.getElem?_cons_zero, Option.some.injEq] at h; subst h; simpa using hx
theorem aXw {α : Type} (p : α -> Bool) (l : List α) : l.take (l.takeWhile p).length = l.takeWhile p /\ l.drop (l.takeWhile p).length = l.dropWhile p := by
 have e : l = l.takeWhile p ++ l.dropWhile p := (List.takeWhile_append_dropWhile).symm; constructor
 · conv => lhs; arg 2; rw [e]
   rw [List.take_left]
 · conv => lhs; arg 2; rw [e]
   rw [List.drop_left]
theorem aQW {L : NL} (h : aBp L = none) : ∀ j, 2 <= j -> j < 256 -> ∃ n, bQ L j = some n := by
 intro j h1 h2; unfold aBp at h; have := List.find?_eq_none.1 h j (by rw [List.mem_range'_1]; omega)
 cases hg : bQ L j with
 | none => rw [hg] at this; simp at this
 | some n => exact ⟨n, rfl⟩
def jV (L : NL) : Nat := (aBp L).getD 256
theorem aBv {k : Nat} {T : TreeP} (h : Inv k T) : 2 <= jV T.l /\ jV T.l <= 256 /\ bQ T.l (jV T.l) = none /\ ∀ j, 2 <= j -> j < jV T.l -> ∃ n, bQ T.l j = some n := by
 unfold jV; cases hf : aBp T.l with
 | none =>
   refine ⟨by simp, by simp, aBn λ n hn => ?_, λ j h1 h2 => aQW hf j h1 (by simpa using h2)⟩
   have := (h.ok n hn).rng; simp; omega
 | some i =>
   obtain ⟨f1, f2, f3, f4⟩ := uR hf; exact ⟨f1, by simp; omega, f3, f4⟩
theorem aXQ {E : bJ} (hAt : bL E 122 vB) {A : Nat -> Prop} {T : TreeP} {k0 : Nat} (hI : Inv k0 T) {s r2 r6 r8 r9 : DV} {b : Nat} :
   ∀ (k j m : Nat) (h : H), jV T.l - j = k -> 2 <= j -> j <= jV T.l -> aX h b [s, ii T.gen] -> eF A h (.agg [s, ii T.gen]) T ->
   ∃ h', aIQ E r2 (.ptr b 0) r6 r8 r9 (m + (k + 1)) (ii j) h = aOT E r2 (.ptr b 0) r6 r8 r9 (ii (jV T.l)) h' /\ aH h h' := by
 obtain ⟨B, hB, sB⟩ := hAt.call; obtain ⟨q1, q2, q3, q4⟩ := aBv hI; have hl := hI.llen; intro k
 induction k with
 | zero =>
   intro j m h hk h2 hj ho r; have : j = jV T.l := by omega
   subst this; obtain ⟨h', f1, g1⟩ := sB A _ T (jV T.l) h r (by omega)
   have hpv : mT T.l (jV T.l) = .negSucc 0 := by unfold mT; rw [aQH q3]
   rw [hpv] at f1; refine ⟨h', ?_, g1⟩; show aPj E _ _ _ _ _ (aIQ E _ _ _ _ _ m) _ h = _; unfold aPj; rw [ho.all (n := 2) rfl, aA, hB, f1, aB]; have e : oG (.int .i64 (.negSucc 0)) (ii 0) = some (.bool false) := rfl; rw [e, aA, aC]
 | succ k ih =>
   intro j m h hk h2 hj ho r; obtain ⟨n, hn⟩ := q4 j h2 (by omega)
   obtain ⟨p, hp1, _⟩ := wC hn; obtain ⟨h', f1, g1⟩ := sB A _ T j h r (by omega)
   have hpv : mT T.l j = .ofNat p := by unfold mT; rw [hp1]
   rw [hpv] at f1; obtain ⟨h3, f2, g2⟩ := ih (j + 1) m h' (by omega) (by omega) (by omega) (ho.grown g1) (r.grown g1)
   refine ⟨h3, ?_, g1.trans g2⟩; show aPj E _ _ _ _ _ (aIQ E _ _ _ _ _ (m + (k + 1))) _ h = _; unfold aPj; rw [ho.all (n := 2) rfl, aA, hB, f1, aB, fZ, aA, decide_eq_true (Nat.zero_le p), aD, bO (by omega), aA]
   exact f2
def mC (L : NL) (i : Nat) : Nat := (L.takeWhile λ n => decide (n.inode < i)).length
theorem bBX {E : bJ} {A : Nat -> Prop} {s g r2 r6 : DV} {b i : Nat} {xs : List NV} (hl : xs.length < 1000) {h : H} (re : RowE A 5 h s (fC xs)) (ho : aX h b [s, g]) :
   ∀ (k j m : Nat), mC (xs.map (·.1)) i - j = k -> j <= mC (xs.map (·.1)) i ->
   aIP E r2 (.ptr b 0) r6 (ii i) (m + (k + 1)) (ii j) h = aIV E r2 (.ptr b 0) r6 (ii i) (ii (mC (xs.map (·.1)) i)) h := by
 obtain ⟨n, e1, e2⟩ := re.len; have hn : n = xs.length := by rw [cQ] at e1; omega
 subst hn; have fa : aI 0 (.ptr b 0) = some (.ptr b 0) := by rw [aJ]
 have hple : mC (xs.map (·.1)) i <= xs.length := by
   have := (List.takeWhile_sublist (λ n : bF => decide (n.inode < i)) (l := xs.map (·.1))).length_le
   rw [List.length_map] at this; exact this
 have rd := ho.read (j := 0) (x := s) rfl; intro k
 induction k with
 | zero =>
   intro j m hk hj; have : j = mC (xs.map (·.1)) i := by omega
   subst this; show aPi E _ _ _ _ (aIP E _ _ _ _ m) _ h = _; unfold aPi; rw [fa, aA, rd, aA, e2, aA, aP, aA]; by_cases hlt : mC (xs.map (·.1)) i < xs.length
   · obtain ⟨x, hx⟩ : ∃ x, xs[mC (xs.map (·.1)) i]? = some x := ⟨_, List.getElem?_eq_getElem hlt⟩; obtain ⟨bb, o, q1, q2, q3, q4, q5, q6, q7, q8⟩ := gN re hx .i64; have hno : (decide (x.1.inode < i)) = false := bFb (l := xs.map (·.1)) (p := λ n : bF => decide (n.inode < i)) (by
       show (xs.map (·.1))[mC (xs.map (·.1)) i]? = some x.1; rw [List.getElem?_map, hx]; rfl)
     simp only [decide_eq_true hlt, gT, fa, aA, rd, q1, q2, q3, aP, hno, bZ]; rw [aC]
   · simp only [decide_eq_false hlt, wJ, eD, bT, aA]; rw [aC]
 | succ k ih =>
   intro j m hk hj; have hlt : j < xs.length := by omega
   obtain ⟨x, hx⟩ : ∃ x, xs[j]? = some x := ⟨_, List.getElem?_eq_getElem hlt⟩; obtain ⟨bb, o, q1, q2, q3, q4, q5, q6, q7, q8⟩ := gN re hx .i64; have hyes : (decide (x.1.inode < i)) = true := aXx (l := xs.map (·.1)) (p := λ n : bF => decide (n.inode < i)) (j := j) (by show j < mC (xs.map (·.1)) i; omega) (by rw [List.getElem?_map, hx]; rfl)
   show aPi E _ _ _ _ (aIP E _ _ _ _ (m + (k + 1))) _ h = _; unfold aPi; rw [fa, aA, rd, aA, e2, aA, aP, aA]; simp only [decide_eq_true hlt, gT, fa, aA, rd, q1, q2, q3, aP, hyes, bZ]; rw [aD, bO (by omega), aA]
   exact ih (j + 1) m (by omega) (by omega)
theorem bBY {E : bJ} {A : Nat -> Prop} {T : TreeP} {s : DV} {xs : List NV} {i kind b1 b3 n0 : Nat} {h : H} {L3 : List DV} (hl : xs.length < 1000) (e2 : xs.map (·.1) = T.l) (re : RowE A 5 h s (fC xs)) (rx : ∀ x ∈ xs, RowE A 2 h x.2 (eA x.1.l)) (o1 : aX h b1 [s, ii T.gen]) (o3 : aX h b3 L3) (h3 : L3.length = 2)
   (h13 : b1 ≠ b3) (hA1 : ¬ A b1) (hA3 : ¬ A b3) (hA : ∀ c, h.size <= c -> A c) (hn1 : n0 <= b1) (hn3 : n0 <= b3) :
   ∃ v' h', aIV E (ii kind) (.ptr b1 0) (.ptr b3 0) (ii i) (ii (mC T.l i)) h = some (.tup [v', ii 0], h') /\ eF A h' v' ⟨qZ T.l ⟨i, T.gen, kind, [], []⟩, T.gen⟩ /\ cK n0 h h' := by
 have hxl : xs.length = T.l.length := by rw [<- e2, List.length_map]
 have hb1 := o1.1; have hb3 := o3.1; have hple : mC T.l i <= xs.length := by
   have := (List.takeWhile_sublist (λ n : bF => decide (n.inode < i)) (l := T.l)).length_le
   rw [hxl]; exact this
 have fa0 : aI 0 (.ptr b1 0) = some (.ptr b1 0) := by rw [aJ]
 have fa1 : aI 1 (.ptr b1 0) = some (.ptr b1 1) := by rw [aJ]
 obtain ⟨v1, u1, w1⟩ := re.to (i := mC T.l i) (cQ xs) hple (by omega) .i64
 obtain ⟨v2, u2, w2⟩ := re.from (i := mC T.l i) (cQ xs) hple (by omega) .i64
 obtain ⟨h8, eh8, g8, o8⟩ := aO h 5 5 (iF (⟨i, T.gen, kind, [], []⟩, .nils)) rfl; have z8 : h8.size = h.size + 1 := by rw [eh8]; exact H.size_push _ _
 have hone : ∀ ys : List NV, (∀ y ∈ ys, y ∈ xs) -> (fC ys).all DV.one = true := λ ys hy => yE (A := A) (h := h) λ y h' => rx y (hy y h')
 obtain ⟨k1, t1, t2, t3⟩ := (w1.grown g8).src; have l1 : ((fC xs).take (mC T.l i * 5)).length = mC T.l i * 5 := by rw [List.length_take, cQ]; omega
 have hk1 : k1 = mC T.l i := by omega
 subst hk1; obtain ⟨y1, h13', f13, o13, p13⟩ := (jF.nil (n0 := h8.size) (es := 5) (h := h8)).app (Nat.le_refl _) (x := v1) (bytes := 64) t2 t3 l1 (by rw [qI]; exact hone _ λ y hy => List.mem_of_mem_take hy) (by omega) (λ m hm => iK (by simp at hm; omega) 64 (by omega))
 have g13 : aH h8 h13' := dH p13; have hN2 : dR 5 h13'.get (.slc h.size 0 1 1 false) = some (iF (⟨i, T.gen, kind, [], []⟩, .nils)) := by
   have := (o8.grown g13).cells (o := 0) (k := 5) (by simp [iF])
   exact this
 obtain ⟨y2, h15, f15, o15, p15⟩ := o13.app p13.size (x := .slc h.size 0 1 1 false) (k := 1) (bytes := 64) rfl hN2 rfl rfl (by omega) (λ m hm => iK (by simp only [List.nil_append, l1] at hm; omega) 64 (by omega))
 have K15 : cK h8.size h8 h15 := p13.trans p15; have g15 : aH h8 h15 := dH K15; obtain ⟨k2, t4, t5, t6⟩ := ((w2.grown g8).grown g15).src; have l2 : ((fC xs).drop (mC T.l i * 5)).length = (xs.length - mC T.l i) * 5 := by rw [List.length_drop, cQ]; omega
 have hk2 : k2 = xs.length - mC T.l i := by omega
 subst hk2; obtain ⟨y3, h17, f17, o17, p17⟩ := o15.app K15.size (x := v2) (bytes := 64) t5 t6 l2 (by rw [qJ]; exact hone _ λ y hy => List.mem_of_mem_drop hy) (by omega) (λ m hm => iK (by
   simp only [List.nil_append, List.length_append, l1] at hm; have e5 : (iF (⟨i, T.gen, kind, [], []⟩, DV.nils)).length = 5 := rfl; rw [e5] at hm; omega) 64 (by omega))
 have g17 : aH h8 h17 := dH (K15.trans p17); have ecells : [] ++ (fC xs).take (mC T.l i * 5) ++ iF (⟨i, T.gen, kind, [], []⟩, .nils) ++ (fC xs).drop (mC T.l i * 5) = fC (xs.take (mC T.l i) ++ (⟨i, T.gen, kind, [], []⟩, .nils) :: xs.drop (mC T.l i)) := by
   rw [List.nil_append, qI, qJ, lJ, qK]; simp
 rw [ecells] at o17; have o1' := (o1.grown g8).grown g17; have o3' := (o3.grown g8).grown g17; obtain ⟨h20, f20, o20, k20⟩ := o1'.set (v := y3) (j := 0) o17.one (by simp)
 have one2 : ([y3, ii T.gen]).all DV.one = true := by simp only [List.all_cons, List.all_nil, o17.one]; rfl
 obtain ⟨h23, f23, o23, k23⟩ := (o3'.but (Ne.symm h13) k20).setAll (n := 2) (cs := [y3, ii T.gen]) h3 rfl one2; have gg : aH h h17 := g8.trans g17; have same : ∀ c, c ≠ b1 -> c ≠ b3 -> c < h.size -> h23.get c = h.get c := λ c c1 c2 c3 => (k23.get c c2).trans ((k20.get c c1).trans (gg.get c c3))
 have size : h.size <= h23.size := by rw [k23.size, k20.size]; exact gg.size
 have row23 : RowE A 5 h23 y3 (fC (xs.take (mC T.l i) ++ (⟨i, T.gen, kind, [], []⟩, .nils) :: xs.drop (mC T.l i))) := by
   have a := o17.row (A := λ c => h8.size <= c) (λ c hc _ => hc)
   exact a.move (by rw [k23.size, k20.size]; exact Nat.le_refl _) (λ c hc _ => (k23.get c (by omega)).trans (k20.get c (by omega))) (λ c hc _ => hA c (by omega))
 have moveA : ∀ x ∈ xs, RowE A 2 h23 x.2 (eA x.1.l) := λ x hx => (rx x hx).move size (λ c hc hc2 => same c (λ e => hA1 (e ▸ hc)) (λ e => hA3 (e ▸ hc)) hc2) λ _ hc _ => hc
 refine ⟨.agg [y3, ii T.gen], h23, ?_, ⟨y3, _, rfl, ?_, row23, λ y hy => ?_⟩, ⟨size, λ c hc => same c (by omega) (by omega) (by omega)⟩⟩
 · unfold aIV; have bld : dO [(ii 0), (ii 0), (ii 0), (.str []), .nils] [(0, 1, ii i), (1, 1, ii T.gen), (2, 1, ii kind)] = some (.agg (iF (⟨i, T.gen, kind, [], []⟩, .nils))) := rfl; have hf : gP (gM [(ii 0), (ii 0), (ii 0), (.str []), .nils] 1) [(0, 5, .agg (iF (⟨i, T.gen, kind, [], []⟩, .nils)))] = some (iF (⟨i, T.gen, kind, [], []⟩, .nils)) := rfl; have rd0 := o1.read (j := 0) (x := s) rfl; have rd1 := o1.read (j := 1) (x := ii T.gen) rfl; have rd8 := (o1.grown g8).read (j := 0) (x := s) rfl; have rd13 := ((o1.grown g8).grown g13).read (j := 0) (x := s) rfl; have rd13' := ((o1.grown g8).grown g13).read (j := 1) (x := ii T.gen) rfl; have rd15 := ((o1.grown g8).grown g15).read (j := 0) (x := s) rfl; have ld20 : aM 2 h20.get (.ptr b1 0) = some (.agg [y3, ii T.gen]) := o20.all (n := 2) rfl; rw [fa0, aA, rd0, aA, u1, aA, fa1, aA, rd1, aA, bld, aA]; simp only [fG, hf, Option.bind_some, H.pushK_eq]; rw [show h.push (.blk ⟨1 * 5, 5, false, true, Tr.ofL (iF (⟨i, T.gen, kind, [], []⟩, .nils))⟩) = h8 from eh8.symm, aA, rd8, aA, u2, aA, f13, aB, rd13, xY re, eQ, rd13', gS, eQ, f15, aB, rd15, xY re, eQ, f17, aB, aA, f20, aB, ld20, aA, f23, aB, o23.all (n := 2) rfl, aA]
 · show _ = qZ T.l _; rw [List.map_append, List.map_cons, List.map_take, List.map_drop, e2]; obtain ⟨s1, s2⟩ := aXw (λ n : bF => decide (n.inode < i)) T.l
   unfold mC qZ; rw [s1, s2]
 · rcases List.mem_append.1 hy with hy | hy
   · exact moveA y (List.mem_of_mem_take hy)
   · rcases List.mem_cons.1 hy with rfl | hy
     · exact RowE.nils
     · exact moveA y (List.mem_of_mem_drop hy)
theorem eF.weak {A A' : Nat -> Prop} {h : H} {v : DV} {T : TreeP} (r : eF A h v T) (hA : ∀ c, A c -> c < h.size -> A' c) : eF A' h v T := by
 obtain ⟨s, xs, e1, e2, e3, e4⟩ := r; exact ⟨s, xs, e1, e2, e3.weak hA, λ x hx => (e4 x hx).weak hA⟩
def aCK (B : cF) : Prop := ∀ (A : Nat -> Prop) (v : DV) (T : TreeP) (k : Nat) (p : Ln) (kind : Nat) (h : H), eF A h v T -> Inv k T -> k < 900 -> bB p = true -> p.length < 140737488355328 -> (∀ c, h.size <= c -> A c) ->
 ∃ v' h', B [v, .str p, ii kind] h = some (.tup [v', ii ((mkT T p kind).2)], h') /\ eF A h' v' (mkT T p kind).1 /\ aH h h'
theorem aXP {E : bJ} (hP : bL E 120 qX) (hT : bL E 121 qW) (hAt : bL E 122 vB) (hPut : bL E 123 xF) : aCK (S66 E) := by
 obtain ⟨B1, b1, s1⟩ := hP.call; obtain ⟨B2, b2, s2⟩ := hT.call; obtain ⟨B3, b3, s3⟩ := hPut.call; intro A v T k p kind h r hI hk hok hp hA; have r0 := r; obtain ⟨s, xs, rfl, e2, e3, e4⟩ := r; have hs1 := RowE.one e3; have hll := hI.llen; obtain ⟨h2, eh2, g2, o2⟩ := aO h 2 2 [s, ii T.gen] rfl; obtain ⟨h4, eh4, g4, o4⟩ := aO h2 2 2 [.nils, ii 0] rfl; have z2 : h2.size = h.size + 1 := by rw [eh2]; exact H.size_push _ _
 have z4 : h4.size = h2.size + 1 := by rw [eh4]; exact H.size_push _ _
 have o24 := o2.grown g4; obtain ⟨A', hA'⟩ : ∃ A' : Nat -> Prop, A' = λ c => (A c /\ c < h.size) \/ h4.size <= c := ⟨_, rfl⟩
 have back : ∀ c, A' c -> A c := λ c hc => by rw [hA'] at hc; exact hc.elim (·.1) λ x => hA c (by omega)
 have new' : ∀ c, h4.size <= c -> A' c := λ c hc => by rw [hA']; exact .inr hc
 have not1 : ¬ A' h.size := by rw [hA']; rintro (⟨_, x⟩ | x) <;> omega
 have not3 : ¬ A' h2.size := by rw [hA']; rintro (⟨_, x⟩ | x) <;> omega
 have r4 : eF A' h4 (.agg [s, ii T.gen]) T := r0.move (g2.trans g4).size (λ c _ hc => (g2.trans g4).get c hc) (λ c ha hc => by rw [hA']; exact .inl ⟨ha, hc⟩)
 obtain ⟨pl, h7, f7, g7, c7⟩ := s1 A' _ T k p h4 r4 hI hk hp; have G7 := (g2.trans g4).trans g7; have same : ∀ (hh : H) (e : Nat), aH h4 hh -> ∃ h', (vK (aM 2 hh.get (.ptr h.size 0)) λ x12 => wK (bY 2 (.ptr h2.size 0) x12 hh) λ x13 h14 => vK (aM 2 h14.get (.ptr h2.size 0)) λ x15 => some ((.tup [x15, ii e]), h14) : aV) = some (.tup [.agg [s, ii T.gen], ii e], h') /\ eF A h' (.agg [s, ii T.gen]) T /\ aH h h' := by
   intro hh e g; have one2 : ([s, ii T.gen]).all DV.one = true := by simp only [List.all_cons, List.all_nil, hs1]; rfl
   obtain ⟨h', q1, q2, q3⟩ := (o4.grown g).setAll (n := 2) (cs := [s, ii T.gen]) rfl rfl one2; have G := q3.grown ((g2.trans g4).trans g) (by omega)
   refine ⟨h', by rw [(o24.grown g).all (n := 2) rfl, aA, q1, aB, q2.all (n := 2) rfl, aA], ?_, G⟩
   exact r0.grown G
 show ∃ v' h', aUG E (.agg [s, ii T.gen]) (.str p) (ii kind) h = _ /\ _; unfold aUG; rw [nbx eh2 rfl, bG, <- eh4, o24.all (n := 2) rfl, aA, b1, f7, aB, aL, aA, aK, aA, nR, aA, bC, aA]; unfold mkT; by_cases he : (cH T p).2.2 = 0
 · obtain ⟨hne, hw, ⟨n, hn, hk1⟩, hnm⟩ := mV (T := T) (p := p) (d := (cH T p).1) (name := (cH T p).2.1) (by rw [<- he])
   obtain ⟨n', hp1, hg⟩ := eP (c7 he); rw [hn] at hg; cases hg; have hnok := pK hok hne; rw [<- hnm] at hnok; generalize (cH T p).1 = d at *; generalize (cH T p).2.1 = name at *; have hk2 := aDI hI hn hk1; have hlen := (hI.of hn).1.len; obtain ⟨h18, f18, g18⟩ := s2 A' _ T pl n name h7 (r4.grown g7) hp1 (by omega)
   have hth : kP T d name = eS n.l name := by unfold kP; rw [hn]
   rw [if_pos he, he, show (!decide (0 = 0)) = false from rfl, aC, (o24.grown g7).all (n := 2) rfl, aA, b2, f18, aB, hth]
   by_cases hh : eS n.l name = true
   · rw [hh, aD, if_pos rfl]; obtain ⟨h', q1, q2, q3⟩ := same h18 6 (g7.trans g18); exact ⟨_, h', q1, q2, q3⟩
   · rw [Bool.not_eq_true] at hh; rw [hh, aC, if_neg (by simp)]
     obtain ⟨y1, y2, y3, y4⟩ := aBv hI; obtain ⟨h20, f20, g20⟩ := aXQ (E := E) hAt hI (s := s) (r2 := ii kind) (r6 := .ptr h2.size 0) (r8 := ii pl) (r9 := .str name) (b := h.size) (jV T.l - 2) 2 (aQ - (jV T.l - 2 + 1)) h18 rfl (Nat.le_refl _) y1 ((o24.grown g7).grown g18) ((r4.grown g7).grown g18); rw [show aQ - (jV T.l - 2 + 1) + (jV T.l - 2 + 1) = aQ from by unfold aQ; omega] at f20
     rw [f20]; unfold aOT; have g420 := (g7.trans g18).trans g20; cases hf : aBp T.l with
     | none =>
       have e256 : jV T.l = 256 := by unfold jV; rw [hf]; rfl
       rw [e256, fZ, aA, decide_eq_true (Nat.le_refl _), aD]; obtain ⟨h', q1, q2, q3⟩ := same h20 5 g420; exact ⟨_, h', q1, q2, q3⟩
     | some i =>
       have ei : jV T.l = i := by unfold jV; rw [hf]; rfl
       obtain ⟨f1', f2', f3', _⟩ := uR hf; rw [ei, fZ, aA, decide_eq_false (by omega), aC]
       have o20 := o24.grown g420; have o420 := o4.grown g420; have z20 := g420.size; obtain ⟨u, h8, f8, r8, g8⟩ := s3 A' _ T pl n name i h20 (r4.grown g420) (by omega) hp1 (by omega) (by omega) f2' hnok.1 hh (λ c hc => new' c (by omega))
       have eset : T.l.set pl (dZ (λ l => gQ l name i) n) = gV T d name i := by
         rw [zW hI.inc hp1 (dZ λ l => gQ l name i), (dG hn).2]; rfl
       rw [eset] at r8; obtain ⟨s', xs', eu, e2', e3', e4'⟩ := r8
       replace e2' : xs'.map (·.1) = gV T d name i := e2'
       have eu' : u = .agg [s', ii T.gen] := eu; subst eu'; have hs1' := RowE.one e3'; have one2 : ([s', ii T.gen]).all DV.one = true := by simp only [List.all_cons, List.all_nil, hs1']; rfl
       obtain ⟨h10, f10, o10, k10⟩ := (o20.grown g8).setAll (n := 2) (cs := [s', ii T.gen]) rfl rfl one2; obtain ⟨h16, f16, o16, k16⟩ := o10.set (v := ii ((T.gen + 1))) (j := 1) rfl (by simp)
       have o3' := ((o420.grown g8).but (by omega) k10).but (by omega) k16
       have mv : ∀ {es : Nat} {w : DV} {L : List DV}, RowE A' es h8 w L -> RowE A' es h16 w L := λ x => x.move (by rw [k16.size, k10.size]; exact Nat.le_refl _) (λ c hc _ => (k16.get c (λ e => not1 (e ▸ hc))).trans (k10.get c (λ e => not1 (e ▸ hc)))) λ _ hc _ => hc
       have hxl' : xs'.length <= 255 := by
         have a : (gV T d name i).length = T.l.length := by unfold gV gA; rw [List.length_map]
         have b : xs'.length = (gV T d name i).length := by rw [<- e2', List.length_map]
         omega
       have z8 := g8.size; have z16 : h16.size = h8.size := by rw [k16.size, k10.size]
       have hgen := hI.gen; have pos := bBX (E := E) (r2 := ii kind) (r6 := .ptr h2.size 0) (i := i) (by omega) (mv e3') o16 (mC (xs'.map (·.1)) i) 0 (aQ - (mC (xs'.map (·.1)) i + 1)) (by omega) (by omega)
       have hple : mC (xs'.map (·.1)) i <= xs'.length := by
         have := (List.takeWhile_sublist (λ n : bF => decide (n.inode < i)) (l := xs'.map (·.1))).length_le
         rw [List.length_map] at this; exact this
       rw [show aQ - (mC (xs'.map (·.1)) i + 1) + (mC (xs'.map (·.1)) i + 1) = aQ from by unfold aQ; omega] at pos
       obtain ⟨v', h', q1, q2, q3⟩ := bBY (E := E) (A := A') (T := ⟨gV T d name i, T.gen + 1⟩) (kind := kind) (i := i) (n0 := h.size) (by omega) e2' (mv e3') (λ x hx => mv (e4' x hx)) o16 o3' rfl (by omega) not1 not3 (λ c hc => new' c (by omega)) (Nat.le_refl _) (by omega)
       refine ⟨v', h', ?_, q2.weak λ c hc _ => back c hc, ?_⟩
       · have fa1 : aI 1 (.ptr h.size 0) = some (.ptr h.size 1) := by rw [aJ]
         rw [o20.all (n := 2) rfl, aA, b3, f8, aB, f10, aB, fa1, aA, o10.read (j := 1) (x := ii T.gen) rfl, aA, bO (by omega), aA, aA, f16, aB]
         refine pos.trans ?_; rw [e2']; exact q1
       · have K : cK h.size h h16 := ((((g2.trans g4).trans g420).trans g8).keeps (Nat.le_refl _)).trans ((k10.keeps (Nat.le_refl _)).trans (k16.keeps (Nat.le_refl _))); exact dH (K.trans q3)
 · rw [if_neg he]; have d : (!decide ((cH T p).2.2 = 0)) = true := by simp [he]
   rw [d, aD]; obtain ⟨h', q1, q2, q3⟩ := same h7 (cH T p).2.2 g7; exact ⟨_, h', q1, q2, q3⟩
structure Pre (A A' : Nat -> Prop) (h h4 : H) (s : DV) (T : TreeP) : Prop where
 one : s.one = true
 size : h4.size = h.size + 2
 grown : aH h h4
 o1 : aX h4 h.size [s, ii T.gen]
 o3 : aX h4 (h.size + 1) [.nils, ii 0]
 back : ∀ c, A' c -> A c
 new : ∀ c, h4.size <= c -> A' c
 not1 : ¬ A' h.size
 not3 : ¬ A' (h.size + 1)
 ref : eF A' h4 (.agg [s, ii T.gen]) T
theorem wB {A : Nat -> Prop} {h : H} {s : DV} {T : TreeP} (r : eF A h (.agg [s, ii T.gen]) T) (hA : ∀ c, h.size <= c -> A c) :
   ∃ A' h4, (∀ {R : Type} (k : DV -> DV -> H -> Option R), dV (.agg [s, ii T.gen]) h (λ x1 h2 => dP 2 2 (.list [.nils, ii 0]) h2 λ x3 h4 => k x1 x3 h4) = k (.ptr h.size 0) (.ptr (h.size + 1) 0) h4) /\ Pre A A' h h4 s T := by
 have r0 := r; obtain ⟨s', xs, e1, e2, e3, e4⟩ := r; simp only [DV.agg.injEq, List.cons.injEq, and_true] at e1; subst e1; obtain ⟨h2, eh2, g2, o2⟩ := aO h 2 2 [s, ii T.gen] rfl; obtain ⟨h4, eh4, g4, o4⟩ := aO h2 2 2 [.nils, ii 0] rfl; have z2 : h2.size = h.size + 1 := by rw [eh2]; exact H.size_push _ _
 have z4 : h4.size = h2.size + 1 := by rw [eh4]; exact H.size_push _ _
 rw [z2] at o4; refine ⟨λ c => (A c /\ c < h.size) \/ h4.size <= c, h4, λ k => ?_, RowE.one e3, by omega, g2.trans g4, o2.grown g4, o4, λ c hc => hc.elim (·.1) λ x => hA c (by omega), λ c hc => .inr hc, by rintro (⟨_, x⟩ | x) <;> omega, by rintro (⟨_, x⟩ | x) <;> omega, r0.move (g2.trans g4).size (λ c _ hc => (g2.trans g4).get c hc) (λ c ha hc => .inl ⟨ha, hc⟩)⟩
 rw [nbx eh2 rfl, bG, <- eh4, z2]
theorem jM {A A' : Nat -> Prop} {h h4 hh : H} {s s' : DV} {T T' : TreeP} (P : Pre A A' h h4 s T) (hg : cK h.size h4 hh) (o1 : aX hh h.size [s', ii T'.gen]) (o3 : aX hh (h.size + 1) [.nils, ii 0]) (r : eF A' hh (.agg [s', ii T'.gen]) T') (e : Nat) :
   ∃ h', (vK (aM 2 hh.get (.ptr h.size 0)) λ x12 => wK (bY 2 (.ptr (h.size + 1) 0) x12 hh) λ x13 h14 => vK (aM 2 h14.get (.ptr (h.size + 1) 0)) λ x15 => some ((.tup [x15, ii e]), h14) : aV) = some (.tup [.agg [s', ii T'.gen], ii e], h') /\ eF A h' (.agg [s', ii T'.gen]) T' /\ aH h h' := by
 have r0 := r; obtain ⟨s2, xs, e1, e2, e3, e4⟩ := r; simp only [DV.agg.injEq, List.cons.injEq, and_true] at e1; subst e1; have hs := RowE.one e3; have one2 : ([s', ii T'.gen]).all DV.one = true := by simp only [List.all_cons, List.all_nil, hs]; rfl
 obtain ⟨h', q1, q2, q3⟩ := o3.setAll (n := 2) (cs := [s', ii T'.gen]) rfl rfl one2; refine ⟨h', by rw [o1.all (n := 2) rfl, aA, q1, aB, q2.all (n := 2) rfl, aA], r0.move (by rw [q3.size]; exact Nat.le_refl _) (λ c hc _ => q3.get c (λ x => P.not3 (x ▸ hc))) (λ c hc _ => P.back c hc), ?_⟩
 exact dH (((P.grown.keeps (Nat.le_refl _)).trans hg).trans (q3.keeps (by omega)))
def yZ (f : TreeP -> Ln -> TreeP × Nat) (B : cF) : Prop := ∀ (A : Nat -> Prop) (v : DV) (T : TreeP) (k : Nat) (p : Ln) (h : H), eF A h v T -> Inv k T -> k < 900 -> p.length < 140737488355328 -> (∀ c, h.size <= c -> A c) ->
 ∃ v' h', B [v, .str p] h = some (.tup [v', ii ((f T p).2)], h') /\ eF A h' v' (f T p).1 /\ aH h h'
theorem aXM {E : bJ} (hW : bL E 124 kE) (hP : bL E 120 qX) (hK : bL E 125 tD) (hL : bL E 126 qY) (hG : bL E 127 zA) : yZ iL (S67 E) := by
 obtain ⟨B0, b0, s0⟩ := hW.call; obtain ⟨B1, b1, s1⟩ := hP.call; obtain ⟨B2, b2, s2⟩ := hK.call; obtain ⟨B3, b3, s3⟩ := hL.call; obtain ⟨B4, b4, s4⟩ := hG.call; intro A v T k p h r hI hk hp hA; obtain ⟨s, ev, hs⟩ := r.agg; subst ev; obtain ⟨A', h4, epre, P⟩ := wB r hA; have z4 := P.size; have hll := hI.llen; obtain ⟨pl, h7, f7, g7, c7⟩ := s0 A' _ T k p h4 P.ref hI hk hp; have z7 := g7.size; show ∃ v' h', aUF E (.agg [s, ii T.gen]) (.str p) h = _ /\ _; unfold aUF; rw [epre, P.o1.all (n := 2) rfl, aA, b0, f7, aB, aL, aA, aK, aA, bC, aA]; unfold iL; have kp : ∀ {hh : H}, aH h4 hh -> cK h.size h4 hh := λ g => g.keeps (by omega)
 by_cases he : (aU T p).2 = 0
 · obtain ⟨n, hp1, hg⟩ := eP (c7 he); obtain ⟨s', xs, e1, e2, e3, e4⟩ := P.ref.grown g7; simp only [DV.agg.injEq, List.cons.injEq, and_true] at e1; subst e1; obtain ⟨x, hx, rfl⟩ := jA e2 hp1; obtain ⟨bb, o, q1, q2, q3, q4, q5, q6, q7, q8⟩ := gN e3 hx .i64; have fa0 : aI 0 (.ptr h.size 0) = some (.ptr h.size 0) := by rw [aJ]
   have rd := (P.o1.grown g7).read (j := 0) (x := s) rfl; have hin := (dG hg).2; rw [if_pos he, he, show (!decide (0 = 0)) = false from rfl, aC, fa0, aA, rd, aA, q1, aA, q2, aA, q5, aA, cB, aA, iT hg]
   by_cases hk2 : x.1.kind = 2
   · rw [decide_eq_true hk2, aD, if_pos hk2]; obtain ⟨h', y1, y2, y3⟩ := jM P (kp g7) (P.o1.grown g7) (P.o3.grown g7) (P.ref.grown g7) 12; exact ⟨_, h', y1, y2, y3⟩
   · rw [decide_eq_false hk2, aC, if_neg hk2]; have hi1 : (aU T p).1 ≠ 1 := by
       intro hx1; obtain ⟨r1, hr, hrk⟩ := hI.root; rw [hx1, hr] at hg; cases hg; exact hk2 hrk
     obtain ⟨d, m, j1, j2, j3, j4, j5⟩ := oQ hI (p := p) (i := (aU T p).1) (by rw [<- he]) hi1
     obtain ⟨dp, h32, f32, g32, c32⟩ := s1 A' _ T k p h7 (P.ref.grown g7) hI hk hp; rw [j1] at f32 c32; obtain ⟨m', hm1, hm2⟩ := eP (c32 rfl); rw [j2] at hm2; cases hm2; have z32 := g32.size; have hmlen := (hI.of j2).1.len; obtain ⟨u, h38, f38, r38, g38⟩ := s2 A' _ T dp m (dT p) h32 ((P.ref.grown g7).grown g32) (by omega) hm1 (by omega) j4 (λ c hc => P.new c (by omega))
     have eset : T.l.set dp (dZ (λ l => gF l (dT p)) m) = eC T d (dT p) := by
       rw [zW hI.inc hm1 (dZ λ l => gF l (dT p)), (dG j2).2]; rfl
     rw [eset] at r38; obtain ⟨s2', eu, hs2⟩ := r38.agg; subst eu; have one2 : ([s2', ii T.gen]).all DV.one = true := by simp only [List.all_cons, List.all_nil, hs2]; rfl
     have o138 := ((P.o1.grown g7).grown g32).grown g38; have o338 := ((P.o3.grown g7).grown g32).grown g38; obtain ⟨h40, f40, o40, k40⟩ := o138.setAll (n := 2) (cs := [s2', ii T.gen]) rfl rfl one2; have o340 := o338.but (by omega) k40
     have r40 : eF A' h40 (.agg [s2', ii T.gen]) ⟨eC T d (dT p), T.gen⟩ := r38.move (by rw [k40.size]; exact Nat.le_refl _) (λ c hc _ => k40.get c (λ y => P.not1 (y ▸ hc))) (λ c hc _ => hc)
     have hrI := uH hI j2 j3 j4; have hrl := hrI.llen; obtain ⟨h43, f43, g43⟩ := s3 A' _ ⟨eC T d (dT p), T.gen⟩ (aU T p).1 h40 r40 (by omega) (λ n hn => by have := (hrI.ok n hn).len; omega)
     have z38 := g38.size; have z43 := g43.size; have z40 : h40.size = h38.size := k40.size; have K43 : cK h.size h4 h43 := ((kp ((g7.trans g32).trans g38)).trans (k40.keeps (Nat.le_refl _))).trans (g43.keeps (by omega))
     rw [aA, rd, aA, q1, aA, q2, aA, q3, aA, (P.o1.grown g7).all (n := 2) rfl, aA, b1, f32, aB, aL, aA, aK, aA, nR, aA, ((P.o1.grown g7).grown g32).all (n := 2) rfl, aA, b2, f38, aB, f40, aB, o40.all (n := 2) rfl, aA, hin, b3, f43, aB, cB, aA]; show ∃ v' h', _ = some (DV.tup [v', ii 0], h') /\ eF A h' v' ⟨if aZ (eC T (cH T p).1 (cH T p).2.1) (aU T p).1 = 0 then jN (eC T (cH T p).1 (cH T p).2.1) (aU T p).1 else eC T (cH T p).1 (cH T p).2.1, T.gen⟩ /\ aH h h'
     rw [j1]; by_cases hz : aZ (eC T d (dT p)) (aU T p).1 = 0
     · obtain ⟨y, hy, _⟩ := kQ (d := d) (λ l => gF l (dT p)) hg
       obtain ⟨hym, hyi⟩ := dG hy; obtain ⟨w, h47, f47, r47, g47⟩ := s4 A' _ ⟨eC T d (dT p), T.gen⟩ y h43 (r40.grown g43) hrI.inc (by omega) hym (λ c hc => P.new c (by omega))
       rw [hyi] at f47 r47; obtain ⟨s3', ew, hs3⟩ := r47.agg; subst ew; have one3 : ([s3', ii T.gen]).all DV.one = true := by simp only [List.all_cons, List.all_nil, hs3]; rfl
       obtain ⟨h49, f49, o49, k49⟩ := ((o40.grown g43).grown g47).setAll (n := 2) (cs := [s3', ii T.gen]) rfl rfl one3; have r49 : eF A' h49 (.agg [s3', ii T.gen]) ⟨jN (eC T d (dT p)) (aU T p).1, T.gen⟩ := r47.move (by rw [k49.size]; exact Nat.le_refl _) (λ c hc _ => k49.get c (λ y => P.not1 (y ▸ hc))) (λ c hc _ => hc)
       have o349 := ((o340.grown g43).grown g47).but (by omega) k49
       obtain ⟨h', y1, y2, y3⟩ := jM (T' := ⟨jN (eC T d (dT p)) (aU T p).1, T.gen⟩) P ((K43.trans (g47.keeps (by omega))).trans (k49.keeps (Nat.le_refl _))) o49 o349 r49 0
       rw [decide_eq_true hz, aD]; simp only [if_pos hz]; refine ⟨_, h', ?_, y2, y3⟩; rw [(o40.grown g43).all (n := 2) rfl, aA, b4, f47, aB, f49, aB]; exact y1
     · obtain ⟨h', y1, y2, y3⟩ := jM (T' := ⟨eC T d (dT p), T.gen⟩) P K43 (o40.grown g43) (o340.grown g43) (r40.grown g43) 0; rw [decide_eq_false hz, aC]; simp only [if_neg hz]; exact ⟨_, h', y1, y2, y3⟩
 · rw [if_neg he]; have d : (!decide ((aU T p).2 = 0)) = true := by simp [he]
   rw [d, aD]; obtain ⟨h', y1, y2, y3⟩ := jM P (kp g7) (P.o1.grown g7) (P.o3.grown g7) (P.ref.grown g7) (aU T p).2; exact ⟨_, h', y1, y2, y3⟩
end Go.Proofs.YtmafhiogonejfaaGreatDoor
end
