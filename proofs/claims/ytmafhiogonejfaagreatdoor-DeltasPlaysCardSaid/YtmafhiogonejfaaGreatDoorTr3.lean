/- The document's trees: what they compute. No condition. -/
import Derived.Test.YtmafhiogonejfaaGreatDoorTr2
import Derived.KernelRfl
set_option linter.unusedVariables false
set_option linter.unusedSimpArgs false
noncomputable section
namespace Go.Proofs.YtmafhiogonejfaaGreatDoor
open Go.DI
structure bB where
 inode : Nat
 gen : Nat
 kind : Nat
 text : Ln
 l : EL
structure TreeP where
 l : List bB
 gen : Nat
abbrev NL := List bB
def bO (L : NL) (i : Nat) : Option bB := L.find? λ n => n.inode == i
def jY (L : NL) : Prop := L.Pairwise λ a b => a.inode < b.inode
def gU (l : EL) (i : Nat) : Nat := l.countP λ e => e.2 == i
def aX (L : NL) (i : Nat) : Nat := (L.map λ n => gU n.l i).sum
def cS (L : NL) : Nat := (L.map λ n => n.text.length).sum
def fO (L : NL) (i : Nat) (f : bB -> bB) : NL := L.map λ n => if n.inode = i then f n else n
def iU (L : NL) (i : Nat) : NL := L.filter λ n => n.inode != i
def pO (L : NL) (x : bB) : NL := (L.takeWhile λ n => decide (n.inode < x.inode)) ++ x :: L.dropWhile λ n => decide (n.inode < x.inode)
def dX (f : EL -> EL) (n : bB) : bB := { n with l := f n.l }
def fP (t : Ln) (n : bB) : bB := { n with text := t }
theorem dD {L : NL} {i : Nat} {n : bB} (h : bO L i = some n) : n ∈ L /\ n.inode = i := by
 unfold bO at h; exact ⟨List.mem_of_find?_eq_some h, by simpa using List.find?_some h⟩
theorem nB {L : NL} (hL : jY L) {n : bB} (hn : n ∈ L) : bO L n.inode = some n := by
 unfold bO
 induction L with
 | nil => cases hn
 | cons x L ih =>
   rw [jY, List.pairwise_cons] at hL; rw [List.find?_cons]; rcases List.mem_cons.1 hn with rfl | hn
   · simp
   · have := hL.1 n hn; have e : (x.inode == n.inode) = false := by rw [beq_eq_false_iff_ne]; omega
     rw [e]; exact ih hL.2 hn
theorem aBp {L : NL} {i : Nat} (h : bO L i = none) : ∀ n ∈ L, n.inode ≠ i := by
 intro n hn e; unfold bO at h; have := List.find?_eq_none.1 h n hn; simp [e] at this
theorem aAn {L : NL} {i : Nat} (h : ∀ n ∈ L, n.inode ≠ i) : bO L i = none := by
 unfold bO; exact List.find?_eq_none.2 λ n hn => by simpa using h n hn
theorem aLb {L : NL} {i : Nat} {f : bB -> bB} {x : bB} : x ∈ fO L i f ↔ ∃ n ∈ L, x = if n.inode = i then f n else n := by
 unfold fO; rw [List.mem_map]; exact ⟨λ ⟨n, h1, h2⟩ => ⟨n, h1, h2.symm⟩, λ ⟨n, h1, h2⟩ => ⟨n, h1, h2.symm⟩⟩
theorem aBo {L : NL} {i : Nat} {f : bB -> bB} (hf : ∀ n, (f n).inode = n.inode) (j : Nat) : bO (fO L i f) j = (bO L j).map λ n => if j = i then f n else n := by
 induction L with
 | nil => rfl
 | cons x L ih =>
   unfold bO fO at *; rw [List.map_cons, List.find?_cons, List.find?_cons]; have e : ((if x.inode = i then f x else x).inode == j) = (x.inode == j) := by split <;> simp [hf]
   rw [e]; cases hx : x.inode == j with
   | true =>
     rw [beq_iff_eq] at hx; simp only [Option.map_some]; by_cases h : j = i
     · rw [if_pos h, if_pos (hx.trans h)]
     · rw [if_neg h, if_neg (λ h2 => h (hx.symm.trans h2))]
   | false => exact ih
theorem mO {L : NL} {i : Nat} {f : bB -> bB} (hf : ∀ n, (f n).inode = n.inode) (h : jY L) : jY (fO L i f) := by
 unfold jY fO at *; rw [List.pairwise_map]; refine h.imp λ {a b} hab => ?_
 have e : ∀ n : bB, (if n.inode = i then f n else n).inode = n.inode := λ n => by split <;> simp [hf]
 rw [e, e]; exact hab
theorem lP {L : NL} (i j : Nat) : bO (iU L i) j = if j = i then none else bO L j := by
 induction L with
 | nil => simp [bO, iU]
 | cons x L ih =>
   unfold bO iU at *; rw [List.filter_cons]; by_cases hx : x.inode = i
   · have e : (x.inode != i) = false := by simp [hx]
     rw [e, if_neg (by simp)]
     rw [ih, List.find?_cons]; by_cases hj : j = i
     · rw [if_pos hj, if_pos hj]
     · have e2 : (x.inode == j) = false := by rw [beq_eq_false_iff_ne]; omega
       rw [if_neg hj, if_neg hj, e2]
   · have e : (x.inode != i) = true := by simp [hx]
     rw [e, if_pos rfl, List.find?_cons, List.find?_cons]; cases hxj : x.inode == j with
     | true =>
       rw [beq_iff_eq] at hxj; rw [if_neg (by omega)]
     | false => exact ih
theorem aTV {L : NL} (i : Nat) (h : jY L) : jY (iU L i) := List.Pairwise.filter _ h
theorem aKP (L : NL) (x : bB) : (L.takeWhile λ n => decide (n.inode < x.inode)) ++ (L.dropWhile λ n => decide (n.inode < x.inode)) = L := List.takeWhile_append_dropWhile
theorem aAm {L : NL} {x y : bB} : y ∈ pO L x ↔ y = x \/ y ∈ L := by
 unfold pO; rw [List.mem_append, List.mem_cons]
 conv => rhs; rw [<- aKP L x, List.mem_append]
 constructor
 · rintro (h | h | h)
   · exact .inr (.inl h)
   · exact .inl h
   · exact .inr (.inr h)
 · rintro (h | h | h)
   · exact .inr (.inl h)
   · exact .inl h
   · exact .inr (.inr h)
theorem aIG {L : NL} (hL : jY L) (x : bB) : ∀ n ∈ L.dropWhile λ n => decide (n.inode < x.inode), x.inode <= n.inode := by
 induction L with
 | nil => intro n hn; cases hn
 | cons y L ih =>
   rw [jY, List.pairwise_cons] at hL; intro n hn; rw [List.dropWhile_cons] at hn; split at hn
   · exact ih hL.2 n hn
   · rename_i hy; have hy : x.inode <= y.inode := by simpa using hy
     rcases List.mem_cons.1 hn with rfl | hn
     · exact hy
     · have := hL.1 n hn; omega
theorem aGT {L : NL} (hL : jY L) {x : bB} (hx : bO L x.inode = none) : jY (pO L x) := by
 have hne := aBp hx; unfold pO jY; have h1 : ∀ n ∈ L.takeWhile λ n => decide (n.inode < x.inode), n.inode < x.inode := λ n hn => by simpa using mV hn
 have h2 : ∀ n ∈ L.dropWhile λ n => decide (n.inode < x.inode), x.inode < n.inode := λ n hn => by
   have a := aIG hL x n hn; have b := hne n ((List.dropWhile_sublist _).mem hn); omega
 rw [List.pairwise_append]; refine ⟨hL.sublist (List.takeWhile_sublist _), List.pairwise_cons.2 ⟨h2, hL.sublist (List.dropWhile_sublist _)⟩, λ a ha b hb => ?_⟩
 rcases List.mem_cons.1 hb with rfl | hb
 · exact h1 a ha
 · have := h1 a ha; have := h2 b hb; omega
theorem aGW {L : NL} (hL : jY L) {x : bB} (hx : bO L x.inode = none) (j : Nat) : bO (pO L x) j = if j = x.inode then some x else bO L j := by
 have hI := aGT hL hx; split
 · rename_i h; subst h; exact nB hI (aAm.2 (.inl rfl))
 · rename_i h; cases hg : bO L j with
   | none =>
     refine aAn λ n hn => ?_
     rcases aAm.1 hn with rfl | hn
     · exact λ e => h e.symm
     · exact aBp hg n hn
   | some n =>
     obtain ⟨h1, h2⟩ := dD hg; have := nB hI (aAm.2 (.inr h1)); rw [h2] at this; exact this
theorem zX (f : bB -> Nat) (L : NL) (x : bB) : ((pO L x).map f).sum = (L.map f).sum + f x := by
 unfold pO
 conv => rhs; rw [<- aKP L x]
 simp only [List.map_append, List.map_cons, List.sum_append, List.sum_cons]; omega
theorem uK (f : bB -> Nat) {L : NL} (hL : jY L) {i : Nat} {n : bB} (hn : bO L i = some n) : ((iU L i).map f).sum + f n = (L.map f).sum := by
 induction L with
 | nil => simp [bO] at hn
 | cons x L ih =>
   have hL' := hL; rw [jY, List.pairwise_cons] at hL'; unfold bO at hn ih; rw [List.find?_cons] at hn; unfold iU at *; rw [List.filter_cons]; cases hx : x.inode == i with
   | true =>
     rw [hx] at hn; cases hn; rw [beq_iff_eq] at hx; have e : (n.inode != i) = false := by simp [hx]
     rw [e, if_neg (by simp)]
     have : (L.filter λ n => n.inode != i) = L := List.filter_eq_self.2 λ m hm => by have := hL'.1 m hm; simp; omega
     rw [this]; simp only [List.map_cons, List.sum_cons]; omega
   | false =>
     rw [hx] at hn; rw [beq_eq_false_iff_ne] at hx; have e : (x.inode != i) = true := by simp [hx]
     rw [e, if_pos rfl]; have := ih hL'.2 hn; simp only [List.map_cons, List.sum_cons]; omega
theorem oV (f : bB -> Nat) {L : NL} (hL : jY L) {i : Nat} {n : bB} (hn : bO L i = some n) (g : bB -> bB) : ((fO L i g).map f).sum + f n = (L.map f).sum + f (g n) := by
 induction L with
 | nil => simp [bO] at hn
 | cons x L ih =>
   have hL' := hL; rw [jY, List.pairwise_cons] at hL'; unfold bO at hn ih; rw [List.find?_cons] at hn; unfold fO at *; rw [List.map_cons]; cases hx : x.inode == i with
   | true =>
     rw [hx] at hn; cases hn; rw [beq_iff_eq] at hx; rw [if_pos hx]; have : (L.map λ n => if n.inode = i then g n else n) = L := by
       conv => rhs; rw [<- List.map_id L]
       refine List.map_congr_left λ m hm => ?_
       have := hL'.1 m hm; rw [if_neg (by omega)]; rfl
     rw [this]; simp only [List.map_cons, List.sum_cons]; omega
   | false =>
     rw [hx] at hn; rw [beq_eq_false_iff_ne] at hx; rw [if_neg hx]; have := ih hL'.2 hn; simp only [List.map_cons, List.sum_cons]; omega
theorem aBl {f : bB -> Nat} {L : NL} {n : bB} (hn : n ∈ L) : f n <= (L.map f).sum := by
 induction L with
 | nil => cases hn
 | cons x L ih =>
   simp only [List.map_cons, List.sum_cons]; rcases List.mem_cons.1 hn with rfl | hn
   · omega
   · have := ih hn; omega
theorem aWJ (l : EL) (key : Ln) (n i : Nat) : gU (gD l key n) i = gU l i + if n = i then 1 else 0 := by
 unfold gD gU
 conv => rhs; rw [<- List.take_append_drop (dU l key) l]
 rw [List.countP_append, List.countP_append, List.countP_cons]; simp only [beq_iff_eq]; omega
theorem aMr {l : EL} {key : Ln} (h : eP l key = true) (i : Nat) : gU (fS l key) i + (if jB l key = i then 1 else 0) = gU l i := by
 obtain ⟨n, h1, h2⟩ := nN h; rw [h2]; have hlt := (List.getElem?_eq_some_iff.1 h1).1; unfold fS gU
 conv => rhs; rw [<- List.take_append_drop (dU l key) l]
 have e : l.drop (dU l key) = (key, n) :: l.drop (dU l key + 1) := by
   rw [List.drop_eq_getElem_cons hlt]; rw [List.getElem?_eq_getElem hlt] at h1; rw [Option.some.inj h1]
 rw [e, List.countP_append, List.countP_append, List.countP_cons]; simp only [beq_iff_eq]; omega
theorem aDj {l : EL} {key : Ln} {i : Nat} (h : (key, i) ∈ l) : 1 <= gU l i := by
 unfold gU; exact List.countP_pos_iff.2 ⟨(key, i), h, by simp⟩
structure NOk (k g : Nat) (n : bB) : Prop where
 rng : 1 <= n.inode /\ n.inode < 256
 knd : (n.kind = 1 /\ n.l = []) \/ (n.kind = 2 /\ n.text = [])
 srt : gT n.l
 nam : ∀ e ∈ n.l, eH e.1 = true /\ bA e.1 = true /\ 1 <= e.2 /\ e.2 < 256
 txt : bA n.text = true /\ n.text.length <= 16384
 len : n.l.length <= k
 gen : n.gen <= g
structure Inv (k : Nat) (T : TreeP) : Prop where
 inc : jY T.l
 ok : ∀ n ∈ T.l, NOk k T.gen n
 root : ∃ r, bO T.l 1 = some r /\ r.kind = 2
 ent : ∀ i, 1 <= aX T.l i -> ∃ m, bO T.l i = some m
 one : ∀ i m, bO T.l i = some m -> m.kind = 2 -> aX T.l i <= 1
 rt0 : aX T.l 1 = 0
 tot : cS T.l <= 65536
 gen : T.gen <= k
theorem NOk.mono {k k' g g' : Nat} {n : bB} (h : NOk k g n) (hk : k <= k') (hg : g <= g') : NOk k' g' n :=
 ⟨h.rng, h.knd, h.srt, h.nam, h.txt, Nat.le_trans h.len hk, Nat.le_trans h.gen hg⟩
theorem Inv.mono {k k' : Nat} {T : TreeP} (h : Inv k T) (hk : k <= k') : Inv k' T :=
 ⟨h.inc, λ n hn => (h.ok n hn).mono hk (Nat.le_refl _), h.root, h.ent, h.one, h.rt0, h.tot, Nat.le_trans h.gen hk⟩
theorem Inv.of {k : Nat} {T : TreeP} (h : Inv k T) {i : Nat} {n : bB} (hn : bO T.l i = some n) : NOk k T.gen n /\ n.inode = i := ⟨h.ok n (dD hn).1, (dD hn).2⟩
theorem wP {L : NL} {n : bB} (hn : n ∈ L) {key : Ln} {i : Nat} (he : (key, i) ∈ n.l) : 1 <= aX L i :=
 Nat.le_trans (aDj he) (aBl (f := λ n => gU n.l i) hn)
def eR (L : NL) : List (Ln) -> Nat -> Nat × Nat
 | [], at_ => (at_, 0)
 | n :: ns, at_ => match bO L at_ with
   | some nd => if nd.kind = 1 then (0, 13) else if eP nd.l n then eR L ns (jB nd.l n) else (0, 7)
   | none => (0, 7)
theorem zP {k : Nat} {T : TreeP} (h : Inv k T) : ∀ (ns : List (Ln)) (at_ i : Nat) {m : bB}, bO T.l at_ = some m -> eR T.l ns at_ = (i, 0) -> ∃ n, bO T.l i = some n
 | [], at_, i, m, hm, e => by
   simp only [eR, Prod.mk.injEq, and_true] at e; subst e; exact ⟨m, hm⟩
 | n :: ns, at_, i, m, hm, e => by
   simp only [eR, hm] at e; split at e
   · cases e
   · split at e
     · rename_i hh; obtain ⟨m', hm'⟩ := h.ent _ (wP (dD hm).1 (lM hh)); exact zP h ns _ i hm' e
     · cases e
def aR (T : TreeP) (p : Ln) : Nat × Nat := if eJ p = 0 then eR T.l (aQ p) 1 else (0, eJ p)
theorem nM {k : Nat} {T : TreeP} (h : Inv k T) {p : Ln} {i : Nat} (e : aR T p = (i, 0)) : eJ p = 0 /\ eR T.l (aQ p) 1 = (i, 0) /\ ∃ n, bO T.l i = some n := by
 unfold aR at e; split at e
 · rename_i h0; obtain ⟨r, hr, _⟩ := h.root; exact ⟨h0, e, zP h _ _ _ hr e⟩
 · rename_i h0; simp only [Prod.mk.injEq] at e; exact absurd e.2 h0
def bY (T : TreeP) (p : Ln) : Nat × Ln × Nat :=
 if aQ p = [] then (0, [], 15) else
   if (eR T.l ((aQ p).take ((aQ p).length - 1)) 1).2 = 0 then
     match bO T.l (eR T.l ((aQ p).take ((aQ p).length - 1)) 1).1 with
     | some n => if n.kind = 1 then (0, [], 13) else ((eR T.l ((aQ p).take ((aQ p).length - 1)) 1).1, dM p, 0)
     | none => (0, [], 13)
   else (0, [], (eR T.l ((aQ p).take ((aQ p).length - 1)) 1).2)
theorem lZ {T : TreeP} {p : Ln} {d : Nat} {name : Ln} (e : bY T p = (d, name, 0)) :
   aQ p ≠ [] /\ eR T.l ((aQ p).take ((aQ p).length - 1)) 1 = (d, 0) /\ (∃ n, bO T.l d = some n /\ n.kind ≠ 1) /\ name = dM p := by
 unfold bY at e; split at e
 · cases e
 · rename_i hne; split at e
   · rename_i h0; split at e
     · rename_i n hn; split at e
       · cases e
       · rename_i hk; simp only [Prod.mk.injEq, and_true] at e; obtain ⟨rfl, rfl⟩ := e; exact ⟨hne, by rw [<- h0], ⟨n, hn, hk⟩, rfl⟩
     · cases e
   · rename_i h0; simp only [Prod.mk.injEq] at e; exact absurd e.2.2 h0
theorem rZ (L : NL) : ∀ (a b : List (Ln)) (i j : Nat), eR L a i = (j, 0) -> eR L (a ++ b) i = eR L b j
 | [], b, i, j, e => by
   simp only [eR, Prod.mk.injEq, and_true] at e; subst e; rfl
 | n :: a, b, i, j, e => by
   simp only [eR, List.cons_append] at e ⊢; split at e
   · rename_i nd hn; split at e
     · cases e
     · rename_i hk; split at e
       · rename_i hh; rw [if_neg hk, if_pos hh]; exact rZ L a b _ j e
       · cases e
   · cases e
theorem aAQ (L : NL) : ∀ (a b : List (Ln)) (i : Nat), (eR L a i).2 ≠ 0 -> (eR L (a ++ b) i) = eR L a i
 | [], b, i, e => absurd rfl e
 | n :: a, b, i, e => by
   simp only [eR, List.cons_append] at e ⊢; split
   · rename_i nd hn; rw [hn] at e; simp only at e; by_cases hk : nd.kind = 1
     · rw [if_pos hk, if_pos hk]
     · rw [if_neg hk] at e ⊢; rw [if_neg hk]; by_cases hh : eP nd.l n = true
       · rw [if_pos hh] at e ⊢; rw [if_pos hh]; exact aAQ L a b _ e
       · rw [if_neg hh, if_neg hh]
   · rfl
theorem mM {l : List (Ln)} (h : l ≠ []) : l = l.take (l.length - 1) ++ [l.getD (l.length - 1) []] := by
 have hp : 0 < l.length := List.length_pos_iff.2 h
 conv => lhs; rw [<- List.take_append_drop (l.length - 1) l]
 congr 1
 rw [List.drop_eq_getElem_cons (by omega), List.drop_of_length_le (by omega)]
 simp [List.getD, List.getElem?_eq_getElem (show l.length - 1 < l.length by omega)]
theorem nL {k : Nat} {T : TreeP} (h : Inv k T) {p : Ln} {i : Nat} (e : aR T p = (i, 0)) (hi : i ≠ 1) : ∃ d n, bY T p = (d, dM p, 0) /\ bO T.l d = some n /\ n.kind = 2 /\ eP n.l (dM p) = true /\ jB n.l (dM p) = i := by
 obtain ⟨h0, hw, m, hm⟩ := nM h e; have hne : aQ p ≠ [] := by
   intro hh; rw [hh] at hw; simp only [eR, Prod.mk.injEq, and_true] at hw; exact hi hw.symm
 have hs := mM hne; cases hpre : eR T.l ((aQ p).take ((aQ p).length - 1)) 1 with
 | mk d e1 =>
   by_cases he1 : e1 = 0
   · subst he1; obtain ⟨r, hr, _⟩ := h.root; obtain ⟨n, hn⟩ := zP h _ _ _ hr hpre; have hw2 := hw; rw [hs, rZ T.l _ _ _ _ hpre] at hw2; simp only [eR, hn] at hw2; split at hw2
     · cases hw2
     · rename_i hk; split at hw2
       · rename_i hh; simp only [Prod.mk.injEq, and_true] at hw2; have hk2 : n.kind = 2 := by
           rcases (h.of hn).1.knd with ⟨x, _⟩ | ⟨x, _⟩
           · exact absurd x hk
           · exact x
         refine ⟨d, n, ?_, hn, hk2, hh, hw2⟩; unfold bY; rw [if_neg hne, hpre]; simp only [if_true, hn]; rw [if_neg hk]
       · cases hw2
   · have := aAQ T.l ((aQ p).take ((aQ p).length - 1)) [(aQ p).getD ((aQ p).length - 1) []] 1 (by rw [hpre]; exact he1)
     rw [<- hs, hw, hpre] at this; simp only [Prod.mk.injEq] at this; exact absurd this.2.symm he1
def jT (T : TreeP) (d : Nat) (name : Ln) : Bool := match bO T.l d with
 | some n => eP n.l name
 | none => false
def aAp (L : NL) : Option Nat := (List.range' 2 254).find? λ i => (bO L i).isNone
def gI (T : TreeP) (d : Nat) (name : Ln) (i : Nat) : NL := fO T.l d (dX λ l => gD l name i)
def eA (T : TreeP) (d : Nat) (name : Ln) : NL := fO T.l d (dX λ l => fS l name)
def mkT (T : TreeP) (p : Ln) (kind : Nat) : TreeP × Nat :=
 if (bY T p).2.2 = 0 then
   if jT T (bY T p).1 (bY T p).2.1 then (T, 6) else
     match aAp T.l with
     | some i => (⟨pO (gI T (bY T p).1 (bY T p).2.1 i) ⟨i, T.gen + 1, kind, [], []⟩, T.gen + 1⟩, 0)
     | none => (T, 5)
 else (T, (bY T p).2.2)
def aEl (T : TreeP) (i : Nat) : Nat := match bO T.l i with
 | some n => n.kind
 | none => 0
def jL (T : TreeP) (p : Ln) : TreeP × Nat :=
 if (aR T p).2 = 0 then
   if aEl T (aR T p).1 = 2 then (T, 12) else
     (⟨if aX (eA T (bY T p).1 (bY T p).2.1) (aR T p).1 = 0 then iU (eA T (bY T p).1 (bY T p).2.1) (aR T p).1 else eA T (bY T p).1 (bY T p).2.1, T.gen⟩, 0)
 else (T, (aR T p).2)
def aGH (T : TreeP) (i : Nat) : Nat := match bO T.l i with
 | some n => n.l.length
 | none => 0
def lV (T : TreeP) (p : Ln) : TreeP × Nat :=
 if (aR T p).2 = 0 then
   if aEl T (aR T p).1 = 1 then (T, 13) else if (aR T p).1 = 1 then (T, 1) else if 0 < aGH T (aR T p).1 then (T, 14) else
     (⟨iU (eA T (bY T p).1 (bY T p).2.1) (aR T p).1, T.gen⟩, 0)
 else (T, (aR T p).2)
def jN (T : TreeP) (p o : Ln) : TreeP × Nat :=
 if (aR T p).2 = 0 then
   if (bY T o).2.2 = 0 then
     if (aR T p).1 = 1 \/ mT p o = true then (T, 1) else if aQ p = aQ o then (T, 0) else if jT T (bY T o).1 (bY T o).2.1 then (T, 6) else
       (⟨gI ⟨eA T (bY T p).1 (bY T p).2.1, T.gen⟩ (bY T o).1 (bY T o).2.1 (aR T p).1, T.gen⟩, 0)
   else (T, (bY T o).2.2)
 else (T, (aR T p).2)
def qF (T : TreeP) (p o : Ln) : TreeP × Nat :=
 if (aR T p).2 = 0 then
   if (bY T o).2.2 = 0 then
     if aEl T (aR T p).1 = 2 then (T, 12) else if jT T (bY T o).1 (bY T o).2.1 then (T, 6) else if 100 <= aX T.l (aR T p).1 then (T, 5) else
       (⟨gI T (bY T o).1 (bY T o).2.1 (aR T p).1, T.gen⟩, 0)
   else (T, (bY T o).2.2)
 else (T, (aR T p).2)
theorem rF {L : NL} (hL : jY L) {d : Nat} {n : bB} (hn : bO L d = some n) (name : Ln) (i j : Nat) : aX (fO L d (dX λ l => gD l name i)) j = aX L j + if i = j then 1 else 0 := by
 have := oV (λ n => gU n.l j) hL hn (dX λ l => gD l name i)
 have e : gU (dX (λ l => gD l name i) n).l j = gU n.l j + if i = j then 1 else 0 := aWJ n.l name i j
 unfold aX; rw [e] at this; omega
theorem kO {L : NL} (hL : jY L) {d : Nat} {n : bB} (hn : bO L d = some n) {name : Ln} (hh : eP n.l name = true) (j : Nat) : aX (fO L d (dX λ l => fS l name)) j + (if jB n.l name = j then 1 else 0) = aX L j := by
 have := oV (λ n => gU n.l j) hL hn (dX λ l => fS l name)
 have e : gU (dX (λ l => fS l name) n).l j + (if jB n.l name = j then 1 else 0) = gU n.l j := aMr hh j
 unfold aX; omega
theorem kK {L : NL} (hL : jY L) {d : Nat} {n : bB} (hn : bO L d = some n) (f : EL -> EL) : cS (fO L d (dX f)) = cS L := by
 have := oV (λ n => n.text.length) hL hn (dX f)
 have e : (dX f n).text.length = n.text.length := rfl; unfold cS; rw [e] at this; omega
theorem jR (f : EL -> EL) (n : bB) : (dX f n).inode = n.inode := rfl
theorem tC {L : NL} {i : Nat} (h : aAp L = some i) : 2 <= i /\ i < 256 /\ bO L i = none /\ ∀ j, 2 <= j -> j < i -> ∃ n, bO L j = some n := by
 unfold aAp at h; have h1 := List.mem_of_find?_eq_some h; have h2 := List.find?_some h; rw [List.mem_range'_1] at h1; refine ⟨h1.1, by omega, by simpa using h2, λ j hj1 hj2 => ?_⟩
 rw [List.find?_range'_eq_some] at h; have := h.2.2 j hj1 hj2; cases hg : bO L j with
 | none => rw [hg] at this; simp at this
 | some n => exact ⟨n, rfl⟩
theorem mA {L : NL} {d : Nat} (f : EL -> EL) (j : Nat) : bO (fO L d (dX f)) j = (bO L j).map λ n => if j = d then dX f n else n := aBo (jR f) j
theorem jU {L : NL} {d j : Nat} (f : EL -> EL) {n : bB} (h : bO L j = some n) : ∃ m, bO (fO L d (dX f)) j = some m /\ m.kind = n.kind /\ m.inode = n.inode /\ m.gen = n.gen /\ m.text = n.text := by
 rw [mA, h]; refine ⟨_, rfl, ?_⟩; split <;> exact ⟨rfl, rfl, rfl, rfl⟩
theorem zY {L : NL} {d j : Nat} (f : EL -> EL) {m : bB} (h : bO (fO L d (dX f)) j = some m) : ∃ n, bO L j = some n /\ m.kind = n.kind := by
 rw [mA] at h; cases hn : bO L j with
 | none => rw [hn] at h; cases h
 | some n =>
   rw [hn] at h; simp only [Option.map_some, Option.some.injEq] at h; subst h; exact ⟨n, rfl, by split <;> rfl⟩
theorem sW : ∀ {s : Ln}, bA s = true -> ∀ p ∈ cQ s, bA p = true
 | [], _, p, h => by simp [cQ] at h; subst h; rfl
 | c :: s, hs, p, h => by
   simp only [bA, Bool.and_eq_true] at hs; rw [cQ] at h; split at h
   · rcases List.mem_cons.1 h with rfl | h
     · rfl
     · exact sW hs.2 p h
   · split at h
     · simp at h; subst h; simp [bA, hs.1]
     · rename_i q r hq; rcases List.mem_cons.1 h with rfl | h
       · simp only [bA, Bool.and_eq_true]; exact ⟨hs.1, sW hs.2 q (by rw [hq]; simp)⟩
       · exact sW hs.2 p (by rw [hq]; simp [h])
theorem wB : ∀ {ps out r : List (Ln)}, (∀ n ∈ out, bA n = true) -> (∀ n ∈ ps, bA n = true) -> dZ out ps = some r -> ∀ n ∈ r, bA n = true
 | [], out, r, h1, _, e => by
   simp only [dZ, Option.some.injEq] at e; subst e; exact h1
 | p :: ps, out, r, h1, h2, e => by
   have h3 : ∀ n ∈ ps, bA n = true := λ n hn => h2 n (by simp [hn])
   rw [dZ] at e; split at e
   · exact wB h1 h3 e
   · split at e
     · exact wB (λ n hn => h1 n (List.mem_of_mem_take hn)) h3 e
     · split at e
       · refine wB (λ n hn => ?_) h3 e
         rcases List.mem_append.1 hn with hn | hn
         · exact h1 n hn
         · simp at hn; subst hn; exact h2 n (by simp)
       · cases e
theorem aZG {p : Ln} (hp : bA p = true) : ∀ n ∈ aQ p, eH n = true /\ bA n = true := by
 intro n hn; refine ⟨(hM p).1 n hn, ?_⟩; unfold aQ at hn; cases hs : iR p with
 | none => rw [hs] at hn; cases hn
 | some l =>
   rw [hs] at hn; unfold iR at hs; split at hs
   · cases hs
   · exact wB (λ n hn => by cases hn) (sW (yK hp 1)) hs n hn
theorem oE {p : Ln} (hp : bA p = true) (h : aQ p ≠ []) : eH (dM p) = true /\ bA (dM p) = true := by
 refine aZG hp _ ?_; unfold dM; have hl : 0 < (aQ p).length := List.length_pos_iff.2 h; simp only [List.getD, List.getElem?_eq_getElem (show (aQ p).length - 1 < (aQ p).length by omega), Option.getD_some]
 exact List.getElem_mem _
theorem NOk.add {k g : Nat} {n : bB} (h : NOk k g n) (hk : n.kind = 2) {name : Ln} {i : Nat} (h1 : eH name = true) (h2 : bA name = true) (h3 : 1 <= i /\ i < 256) (h4 : eP n.l name = false) : NOk (k + 1) g (dX (λ l => gD l name i) n) where
 rng := h.rng
 knd := by
   rcases h.knd with ⟨x, _⟩ | x
   · rw [hk] at x; cases x
   · exact .inr x
 srt := aMM h.srt h4
 nam := λ e he => by
   rcases aWW.1 he with rfl | he
   · exact ⟨h1, h2, h3.1, h3.2⟩
   · exact h.nam e he
 txt := h.txt
 len := by show (gD n.l name i).length <= _; rw [aCM]; have := h.len; omega
 gen := h.gen
theorem NOk.rem {k g : Nat} {n : bB} (h : NOk k g n) (hk : n.kind = 2) (name : Ln) : NOk k g (dX (λ l => fS l name) n) where
 rng := h.rng
 knd := by
   rcases h.knd with ⟨x, _⟩ | x
   · rw [hk] at x; cases x
   · exact .inr x
 srt := aLs h.srt name
 nam := λ e he => h.nam e (aLr he)
 txt := h.txt
 len := by
   show (fS n.l name).length <= _; have := h.len; unfold fS; rw [List.length_append, List.length_take, List.length_drop]; omega
 gen := h.gen
theorem aNQ {k g : Nat} {L : NL} (hL : jY L) {d : Nat} {n : bB} (hn : bO L d = some n) {f : EL -> EL} (h : ∀ m ∈ L, NOk k g m) (hf : NOk k g (dX f n)) : ∀ m ∈ fO L d (dX f), NOk k g m := by
 intro m hm; obtain ⟨x, hx, rfl⟩ := aLb.1 hm; split
 · rename_i e; have := nB hL hx; rw [e, hn] at this; cases this; exact hf
 · exact h x hx
theorem aCA {k : Nat} {T : TreeP} (h : Inv k T) {i : Nat} {n : bB} (hn : bO T.l i = some n) (hk : n.kind ≠ 1) : n.kind = 2 := by
 rcases (h.of hn).1.knd with ⟨x, _⟩ | ⟨x, _⟩
 · exact absurd x hk
 · exact x
theorem iC {T : TreeP} {i : Nat} {n : bB} (hn : bO T.l i = some n) : aEl T i = n.kind := by unfold aEl; rw [hn]
theorem uG {T : TreeP} {d : Nat} {name : Ln} {n : bB} (hn : bO T.l d = some n) (h : ¬ jT T d name = true) : eP n.l name = false := by
 unfold jT at h; rw [hn] at h; simpa using h
theorem aRe {k : Nat} {T : TreeP} (h : Inv k T) {p : Ln} (hp : bA p = true) {kind : Nat} (hkd : kind = 1 \/ kind = 2) : Inv (k + 1) (mkT T p kind).1 := by
 unfold mkT; split
 · rename_i e0; obtain ⟨hne, hw, ⟨n, hn, hk1⟩, hnm⟩ := lZ (T := T) (p := p) (d := (bY T p).1) (name := (bY T p).2.1) (by rw [<- e0])
   generalize (bY T p).1 = d at *; generalize (bY T p).2.1 = name at *; have hk2 := aCA h hn hk1; split
   · exact h.mono (by omega)
   · rename_i hth; have hh := uG hn hth; have hnok := oE hp hne; rw [<- hnm] at hnok; split
     · rename_i i hi; obtain ⟨f1, f2, f3, _⟩ := tC hi; have hset := aNQ (k := k + 1) (g := T.gen + 1) h.inc hn (f := λ l => gD l name i) (λ m hm => (h.ok m hm).mono (by omega) (by omega)) ((((h.of hn).1.add hk2 hnok.1 hnok.2 ⟨by omega, f2⟩ hh).mono (Nat.le_refl _) (by omega)))
       have hinc := mO (i := d) (jR λ l => gD l name i) h.inc
       have hfree : bO (gI T d name i) i = none := by
         unfold gI; rw [mA, f3]; rfl
       have hl : ∀ j, aX (pO (gI T d name i) ⟨i, T.gen + 1, kind, [], []⟩) j = aX T.l j + if i = j then 1 else 0 := λ j => by
         have := zX (λ n => gU n.l j) (gI T d name i) ⟨i, T.gen + 1, kind, [], []⟩
         have e : gU ([] : EL) j = 0 := rfl; unfold aX; rw [this, e]; exact rF h.inc hn name i j
       have hgi : ∀ j, bO (pO (gI T d name i) ⟨i, T.gen + 1, kind, [], []⟩) j = if j = i then some ⟨i, T.gen + 1, kind, [], []⟩ else bO (gI T d name i) j := λ j => aGW (L := gI T d name i) (x := ⟨i, T.gen + 1, kind, [], []⟩) hinc hfree j
       refine ⟨aGT hinc hfree, λ m hm => ?_, ?_, λ j hj => ?_, λ j m hm hkm => ?_, ?_, ?_, by show T.gen + 1 <= k + 1; have := h.gen; omega⟩
       · rcases aAm.1 hm with rfl | hm
         · exact ⟨⟨by show 1 <= i; omega, f2⟩, hkd.elim (λ e => .inl ⟨e, rfl⟩) (λ e => .inr ⟨e, rfl⟩), List.Pairwise.nil, (λ e he => by cases he), ⟨rfl, by simp⟩, by simp, Nat.le_refl _⟩
         · exact hset m hm
       · obtain ⟨r, hr, hrk⟩ := h.root; obtain ⟨m, hm, hmk, _⟩ := jU (d := d) (λ l => gD l name i) hr
         exact ⟨m, (hgi 1).trans (by rw [if_neg (by omega)]; exact hm), by rw [hmk]; exact hrk⟩
       · change 1 <= aX (pO (gI T d name i) ⟨i, T.gen + 1, kind, [], []⟩) j at hj; rw [hl] at hj; by_cases hji : j = i
         · exact ⟨_, (hgi j).trans (if_pos hji)⟩
         · rw [if_neg (λ x => hji x.symm)] at hj
           obtain ⟨m, hm⟩ := h.ent j (by omega)
           obtain ⟨m', hm', _⟩ := jU (d := d) (λ l => gD l name i) hm
           exact ⟨m', (hgi j).trans (by rw [if_neg hji]; exact hm')⟩
       · show aX (pO (gI T d name i) ⟨i, T.gen + 1, kind, [], []⟩) j <= 1; rw [hl]
         replace hm := (hgi j).symm.trans hm
         by_cases hji : j = i
         · subst hji; have : aX T.l j = 0 := by
             rcases Nat.lt_or_ge 0 (aX T.l j) with hx | hx
             · obtain ⟨y, hy⟩ := h.ent j hx; rw [f3] at hy; cases hy
             · omega
           rw [this]; simp
         · rw [if_neg hji] at hm; obtain ⟨x, hx, hxk⟩ := zY _ hm; rw [if_neg (λ y => hji y.symm)]
           exact h.one j x hx (by rw [<- hxk]; exact hkm)
       · show aX (pO (gI T d name i) ⟨i, T.gen + 1, kind, [], []⟩) 1 = 0; rw [hl, h.rt0, if_neg (by omega)]
       · have := zX (λ n => n.text.length) (gI T d name i) ⟨i, T.gen + 1, kind, [], []⟩
         show cS _ <= _; unfold cS; rw [this]; have e := kK h.inc hn (λ l => gD l name i)
         unfold cS at e; show ((gI T d name i).map λ n => n.text.length).sum + 0 <= _
         unfold gI; rw [e]; have := h.tot; unfold cS at this; omega
     · exact h.mono (by omega)
 · exact h.mono (by omega)
theorem sR {k : Nat} {T : TreeP} (h : Inv k T) {d : Nat} {n : bB} (hn : bO T.l d = some n) (hk : n.kind = 2) {name : Ln} (hh : eP n.l name = true) : Inv k ⟨eA T d name, T.gen⟩ where
 inc := mO (jR _) h.inc
 ok := aNQ h.inc hn (f := λ l => fS l name) h.ok ((h.of hn).1.rem hk name)
 root := by
   obtain ⟨r, hr, hrk⟩ := h.root; obtain ⟨m, hm, hmk, _⟩ := jU (d := d) (λ l => fS l name) hr
   exact ⟨m, hm, by rw [hmk]; exact hrk⟩
 ent := λ i hi => by
   have := kO h.inc hn hh i; change 1 <= aX (fO T.l d (dX λ l => fS l name)) i at hi
   obtain ⟨m, hm⟩ := h.ent i (by omega)
   obtain ⟨m', hm', _⟩ := jU (d := d) (λ l => fS l name) hm
   exact ⟨m', hm'⟩
 one := λ i m hm hkm => by
   obtain ⟨x, hx, hxk⟩ := zY _ hm; have := h.one i x hx (by rw [<- hxk]; exact hkm)
   have := kO h.inc hn hh i; show aX (fO T.l d (dX λ l => fS l name)) i <= 1
   omega
 rt0 := by
   have := kO h.inc hn hh 1; have := h.rt0; show aX (fO T.l d (dX λ l => fS l name)) 1 = 0
   omega
 tot := by
   show cS (fO T.l d (dX λ l => fS l name)) <= _
   rw [kK h.inc hn]; exact h.tot
 gen := h.gen
theorem aRo {k : Nat} {T : TreeP} (h : Inv k T) {i : Nat} {n : bB} (hn : bO T.l i = some n) (hl : n.l = []) (h0 : aX T.l i = 0) (h1 : i ≠ 1) : Inv k ⟨iU T.l i, T.gen⟩ := by
 have hlk : ∀ j, aX (iU T.l i) j = aX T.l j := λ j => by
   have := uK (λ n => gU n.l j) h.inc hn
   have e : gU n.l j = 0 := by rw [hl]; rfl
   unfold aX; rw [e] at this; omega
 refine ⟨aTV i h.inc, λ m hm => h.ok m (List.mem_filter.1 hm).1, ?_, λ j hj => ?_, λ j m hm hkm => ?_, ?_, ?_, h.gen⟩
 · obtain ⟨r, hr, hrk⟩ := h.root; exact ⟨r, by rw [lP, if_neg (λ x => h1 x.symm)]; exact hr, hrk⟩
 · change 1 <= aX (iU T.l i) j at hj; rw [hlk] at hj; obtain ⟨m, hm⟩ := h.ent j hj; exact ⟨m, by rw [lP, if_neg (λ x => by subst x; omega)]; exact hm⟩
 · show aX (iU T.l i) j <= 1; rw [hlk]; rw [lP] at hm; split at hm
   · cases hm
   · exact h.one j m hm hkm
 · show aX (iU T.l i) 1 = 0; rw [hlk]; exact h.rt0
 · have := uK (λ n => n.text.length) h.inc hn
   show cS (iU T.l i) <= _; have := h.tot; unfold cS at *; omega
theorem aKH {k : Nat} {T : TreeP} (h : Inv k T) (p : Ln) : Inv k (jL T p).1 := by
 unfold jL; split
 · rename_i e0; obtain ⟨_, _, n, hn⟩ := nM h (p := p) (i := (aR T p).1) (by rw [<- e0])
   split
   · exact h
   · rename_i hk; rw [iC hn] at hk; have hi : (aR T p).1 ≠ 1 := by
       intro hx; obtain ⟨r, hr, hrk⟩ := h.root; rw [hx, hr] at hn; cases hn; exact hk hrk
     obtain ⟨d, m, q1, q2, q3, q4, q5⟩ := nL h (p := p) (i := (aR T p).1) (by rw [<- e0]) hi
     rw [q1]; have hr := sR h q2 q3 q4; show Inv k ⟨if aX (eA T d (dM p)) (aR T p).1 = 0 then iU (eA T d (dM p)) (aR T p).1 else eA T d (dM p), T.gen⟩
     split
     · rename_i h0; obtain ⟨n', hn', hk', _⟩ := jU (d := d) (λ l => fS l (dM p)) hn
       have hkk : n'.kind = 1 := by
         rcases (h.of hn).1.knd with ⟨x, _⟩ | ⟨x, _⟩
         · rw [hk']; exact x
         · exact absurd x hk
       have hl' : n'.l = [] := by
         rcases (hr.of hn').1.knd with ⟨_, x⟩ | ⟨x, _⟩
         · exact x
         · rw [hkk] at x; cases x
       exact aRo hr hn' hl' h0 hi
     · exact hr
 · exact h
theorem aOf {k : Nat} {T : TreeP} (h : Inv k T) (p : Ln) : Inv k (lV T p).1 := by
 unfold lV; split
 · rename_i e0; obtain ⟨_, _, n, hn⟩ := nM h (p := p) (i := (aR T p).1) (by rw [<- e0])
   split
   · exact h
   · rename_i hk; rw [iC hn] at hk; split
     · exact h
     · rename_i hi; split
       · exact h
       · rename_i hsz; obtain ⟨d, m, q1, q2, q3, q4, q5⟩ := nL h (p := p) (i := (aR T p).1) (by rw [<- e0]) hi
         rw [q1]; have hr := sR h q2 q3 q4; have hnl : n.l = [] := by
           unfold aGH at hsz; rw [hn] at hsz; exact List.eq_nil_of_length_eq_zero (by simpa using hsz)
         have hk2 := aCA h hn hk; have h1 := h.one _ n hn hk2; have hlk := kO h.inc q2 q4 (aR T p).1; rw [q5, if_pos rfl] at hlk; have hne : (aR T p).1 ≠ d := by
           intro hx; rw [hx] at hn; rw [hn] at q2; cases q2; rw [hnl] at q4; simp [eP] at q4
         have hn' : bO (eA T d (dM p)) (aR T p).1 = some n := by
           unfold eA; rw [mA, hn]; simp only [Option.map_some]; rw [if_neg hne]
         have h0 : aX (eA T d (dM p)) (aR T p).1 = 0 := by
           unfold eA; omega
         exact aRo hr hn' hnl h0 hi
 · exact h
theorem aRK {k : Nat} {T : TreeP} (h : Inv k T) {d i : Nat} {n x : bB} (hn : bO T.l d = some n) (hk : n.kind = 2) {name : Ln} (h1 : eH name = true) (h2 : bA name = true) (hh : eP n.l name = false) (hx : bO T.l i = some x) (hxk : x.kind = 2 -> aX T.l i = 0) (hi : i ≠ 1) : Inv (k + 1) ⟨gI T d name i, T.gen⟩ := by
 have hl := rF h.inc hn name i; have hrng := (h.of hx).1.rng; rw [(h.of hx).2] at hrng; refine ⟨mO (jR _) h.inc, aNQ h.inc hn (λ m hm => (h.ok m hm).mono (by omega) (Nat.le_refl _)) ((h.of hn).1.add hk h1 h2 hrng hh), ?_, λ j hj => ?_, λ j m hm hkm => ?_, ?_, ?_, Nat.le_trans h.gen (by omega)⟩
 · obtain ⟨r, hr, hrk⟩ := h.root; obtain ⟨m, hm, hmk, _⟩ := jU (d := d) (λ l => gD l name i) hr
   exact ⟨m, hm, by rw [hmk]; exact hrk⟩
 · change 1 <= aX (fO T.l d (dX λ l => gD l name i)) j at hj
   rw [hl] at hj; by_cases hij : i = j
   · subst hij; obtain ⟨m', hm', _⟩ := jU (d := d) (λ l => gD l name i) hx
     exact ⟨m', hm'⟩
   · rw [if_neg hij] at hj; obtain ⟨m, hm⟩ := h.ent j hj; obtain ⟨m', hm', _⟩ := jU (d := d) (λ l => gD l name i) hm
     exact ⟨m', hm'⟩
 · show aX (fO T.l d (dX λ l => gD l name i)) j <= 1
   rw [hl]; obtain ⟨y, hy, hyk⟩ := zY _ hm; by_cases hij : i = j
   · subst hij; rw [hx] at hy; cases hy; rw [if_pos rfl, hxk (by rw [<- hyk]; exact hkm)]; omega
   · rw [if_neg hij]; exact h.one j y hy (by rw [<- hyk]; exact hkm)
 · show aX (fO T.l d (dX λ l => gD l name i)) 1 = 0
   rw [hl, h.rt0, if_neg hi]
 · show cS (fO T.l d (dX λ l => gD l name i)) <= _
   rw [kK h.inc hn]; exact h.tot
theorem aTQ {k : Nat} {T : TreeP} (h : Inv k T) (p : Ln) {o : Ln} (ho : bA o = true) : Inv (k + 1) (qF T p o).1 := by
 unfold qF; split
 · rename_i e0; obtain ⟨_, _, x, hx⟩ := nM h (p := p) (i := (aR T p).1) (by rw [<- e0])
   split
   · rename_i e1; obtain ⟨hne, hw, ⟨n, hn, hk1⟩, hnm⟩ := lZ (T := T) (p := o) (d := (bY T o).1) (name := (bY T o).2.1) (by rw [<- e1])
     have hk2 := aCA h hn hk1; have hnok := oE ho hne; rw [<- hnm] at hnok; split
     · exact h.mono (by omega)
     · rename_i hk; rw [iC hx] at hk; split
       · exact h.mono (by omega)
       · rename_i hth; split
         · exact h.mono (by omega)
         · exact aRK h hn hk2 hnok.1 hnok.2 (uG hn hth) hx (λ y => absurd y hk) (λ hi => by
             obtain ⟨r, hr, hrk⟩ := h.root; rw [hi, hr] at hx; cases hx; exact hk hrk)
   · exact h.mono (by omega)
 · exact h.mono (by omega)
theorem aEp {l : EL} (hs : gT l) {a b : Ln} (h : eP l b = false) : eP (fS l a) b = false := by
 cases hx : eP (fS l a) b with
 | false => rfl
 | true => rw [(aCD hs (aLr (lM hx))).1] at h; cases h
theorem aLq {k : Nat} {T : TreeP} (h : Inv k T) (p : Ln) {o : Ln} (ho : bA o = true) : Inv (k + 1) (jN T p o).1 := by
 unfold jN; split
 · rename_i e0; obtain ⟨_, _, x, hx⟩ := nM h (p := p) (i := (aR T p).1) (by rw [<- e0])
   split
   · rename_i e1; obtain ⟨hne, hw, ⟨n, hn, hk1⟩, hnm⟩ := lZ (T := T) (p := o) (d := (bY T o).1) (name := (bY T o).2.1) (by rw [<- e1])
     have hk2 := aCA h hn hk1; have hnok := oE ho hne; rw [<- hnm] at hnok; split
     · exact h.mono (by omega)
     · rename_i hc; have hi : (aR T p).1 ≠ 1 := λ y => hc (.inl y)
       split
       · exact h.mono (by omega)
       · split
         · exact h.mono (by omega)
         · rename_i hth; obtain ⟨d, m, q1, q2, q3, q4, q5⟩ := nL h (p := p) (i := (aR T p).1) (by rw [<- e0]) hi
           rw [q1]; have hr := sR h q2 q3 q4; have hlk := kO h.inc q2 q4 (aR T p).1; rw [q5, if_pos rfl] at hlk; obtain ⟨x', hx', hxk', _⟩ := jU (d := d) (λ l => fS l (dM p)) hx
           have hn' : ∃ n', bO (eA T d (dM p)) (bY T o).1 = some n' /\ n'.kind = 2 /\ eP n'.l (bY T o).2.1 = false := by
             have hh := uG hn hth; unfold eA; rw [mA, hn]; refine ⟨_, rfl, ?_⟩; split
             · exact ⟨hk2, aEp (h.of hn).1.srt hh⟩
             · exact ⟨hk2, hh⟩
           obtain ⟨n', hn', hk', hh'⟩ := hn'; exact aRK hr hn' hk' hnok.1 hnok.2 hh' hx' (λ y => by
             have := h.one _ x hx (by rw [<- hxk']; exact y)
             show aX (fO T.l d (dX λ l => fS l (dM p))) (aR T p).1 = 0
             omega) hi
   · exact h.mono (by omega)
 · exact h.mono (by omega)
abbrev NV := bB × DV
def gY (x : NV) : List DV := [ii x.1.inode, ii x.1.gen, ii x.1.kind, .str x.1.text, x.2]
def eV (xs : List NV) : List DV := xs.flatMap gY
theorem pB (x : NV) (xs : List NV) : eV (x :: xs) = gY x ++ eV xs := rfl
theorem kN (a b : List NV) : eV (a ++ b) = eV a ++ eV b := by unfold eV; rw [List.flatMap_append]
theorem cN : ∀ xs : List NV, (eV xs).length = xs.length * 5
 | [] => rfl
 | x :: xs => by rw [pB, List.length_append, cN xs]; simp [gY]; omega
theorem aGO : ∀ {xs : List NV} {i : Nat} {x : NV}, xs[i]? = some x -> ∀ j, j < 5 -> (eV xs)[i * 5 + j]? = (gY x)[j]?
 | [], i, x, h, _, _ => by simp at h
 | y :: xs, 0, x, h, j, hj => by
   simp at h; subst h; rw [pB, Nat.zero_mul, Nat.zero_add, List.getElem?_append_left (by simpa [gY] using hj)]
 | y :: xs, i + 1, x, h, j, hj => by
   simp only [List.getElem?_cons_succ] at h; rw [pB, List.getElem?_append_right (by simp [gY]; omega)]
   have : (i + 1) * 5 + j - (gY y).length = i * 5 + j := by simp [gY]; omega
   rw [this]; exact aGO h j hj
theorem oZ (xs : List NV) (i : Nat) : (eV xs).take (i * 5) = eV (xs.take i) := by
 rcases Nat.lt_or_ge xs.length i with h | h
 · rw [List.take_of_length_le (by rw [cN]; omega), List.take_of_length_le (by omega)]
 · conv => lhs; rw [<- List.take_append_drop i xs, kN]
   rw [List.take_append_of_le_length (by rw [cN, List.length_take]; omega), List.take_of_length_le (by rw [cN, List.length_take]; omega)]
theorem pA (xs : List NV) (i : Nat) : (eV xs).drop (i * 5) = eV (xs.drop i) := by
 rcases Nat.lt_or_ge xs.length i with h | h
 · rw [List.drop_of_length_le (by rw [cN]; omega), List.drop_of_length_le (by omega)]; rfl
 · conv => lhs; rw [<- List.take_append_drop i xs, kN]
   rw [show i * 5 = (eV (xs.take i)).length from by rw [cN, List.length_take]; omega, List.drop_left]
theorem RowE.one {A : Nat -> Prop} {es : Nat} {h : H} {v : DV} {L : List DV} (r : RowE A es h v L) : v.one = true := by
 obtain ⟨n, _, ⟨rfl, _⟩ | ⟨b, o, o2, rfl, _⟩ | ⟨b, o, c, op, rfl, _⟩⟩ := r <;> rfl
theorem wN {A : Nat -> Prop} {h : H} : ∀ {xs : List NV}, (∀ x ∈ xs, RowE A 2 h x.2 (dY x.1.l)) -> (eV xs).all DV.one = true
 | [], _ => rfl
 | x :: xs, hx => by
   rw [pB, List.all_append, wN λ y hy => hx y (by simp [hy])]
   have := RowE.one (hx x (by simp))
   simp only [gY, List.all_cons, List.all_nil, this]; rfl
def eB (A : Nat -> Prop) (h : H) (v : DV) (T : TreeP) : Prop := ∃ s xs, v = .agg [s, ii T.gen] /\ xs.map (·.1) = T.l /\ RowE A 5 h s (eV xs) /\ ∀ x ∈ xs, RowE A 2 h x.2 (dY x.1.l)
theorem eB.move {A A' : Nat -> Prop} {h h' : H} {v : DV} {T : TreeP} (r : eB A h v T) (hs : h.size <= h'.size) (hg : ∀ c, A c -> c < h.size -> h'.get c = h.get c) (hA : ∀ c, A c -> c < h.size -> A' c) : eB A' h' v T := by
 obtain ⟨s, xs, e1, e2, e3, e4⟩ := r; exact ⟨s, xs, e1, e2, e3.move hs hg hA, λ x hx => (e4 x hx).move hs hg hA⟩
theorem eB.grown {A : Nat -> Prop} {h h' : H} {v : DV} {T : TreeP} (r : eB A h v T) (g : aI h h') : eB A h' v T := r.move g.size (λ c _ hc => g.get c hc) λ _ h _ => h
theorem gA {A : Nat -> Prop} {h : H} {s : DV} {xs : List NV} (r : RowE A 5 h s (eV xs)) {i : Nat} {x : NV} (he : xs[i]? = some x) (k : IntKind) :
   ∃ b o, cC 5 s (.int k (.ofNat i)) = some (.ptr b o) /\ (∀ q, aH q (.ptr b o) = some (.ptr b (o + q))) /\ aF h.get (.ptr b (o + 0)) = some (ii x.1.inode) /\ aF h.get (.ptr b (o + 1)) = some (ii x.1.gen) /\ aF h.get (.ptr b (o + 2)) = some (ii x.1.kind) /\
     aF h.get (.ptr b (o + 3)) = some (.str x.1.text) /\ aF h.get (.ptr b (o + 4)) = some x.2 /\ aJ 5 h.get (.ptr b o) = some (.agg (gY x)) := by
 obtain ⟨b, o, h1, h2⟩ := r.ix (i := i) (n := xs.length) (cN xs) (List.getElem?_eq_some_iff.1 he).1 (by omega) k
 have g := aGO he; have c : ∀ j, j < 5 -> ∀ y, (gY x)[j]? = some y -> rdCell h.get b (o + j) = some y := λ j hj y hy => h2 j y hj (by rw [g j hj]; exact hy)
 have c0 := c 0 (by omega) _ rfl
 have c1 := c 1 (by omega) _ rfl
 have c2 := c 2 (by omega) _ rfl
 have c3 := c 3 (by omega) _ rfl
 have c4 := c 4 (by omega) _ rfl
 refine ⟨b, o, h1, λ q => aK q b o, by simp only [aF, cG]; exact c0, by simp only [aF, cG]; exact c1, by simp only [aF, cG]; exact c2, by simp only [aF, cG]; exact c3, by simp only [aF, cG]; exact c4, ?_⟩
 rw [Nat.add_zero] at c0; have hc : rdCells h.get b o 5 = some (gY x) := by
   simp only [rdCells, c0, c1, c2, c3, c4, Nat.add_assoc, Nat.reduceAdd]; rfl
 simp only [aJ, cH, hc]; rfl
def jX (L : NL) (i : Nat) : Option Nat := L.findIdx? λ n => n.inode == i
theorem eK {L : NL} {i p : Nat} (h : jX L i = some p) : ∃ n, L[p]? = some n /\ bO L i = some n := by
 unfold jX at h; rw [List.findIdx?_eq_some_iff_getElem] at h; obtain ⟨hp, h1, h2⟩ := h; refine ⟨L[p], List.getElem?_eq_getElem hp, ?_⟩; unfold bO; rw [List.find?_eq_some_iff_getElem]; exact ⟨by simpa using h1, p, hp, rfl, λ j hj => by simpa using h2 j hj⟩
theorem uQ {L : NL} {i : Nat} {n : bB} (h : bO L i = some n) : ∃ p, jX L i = some p /\ L[p]? = some n := by
 cases hp : jX L i with
 | none =>
   unfold jX at hp; rw [List.findIdx?_eq_none_iff] at hp; obtain ⟨h1, h2⟩ := dD h; have := hp n h1; simp [h2] at this
 | some p =>
   obtain ⟨m, h1, h2⟩ := eK hp; rw [h] at h2; cases h2; exact ⟨p, rfl, h1⟩
theorem aOt {L : NL} {i : Nat} (h : bO L i = none) : jX L i = none := by
 unfold jX; rw [List.findIdx?_eq_none_iff]; exact λ n hn => by simpa using aBp h n hn
def lW (L : NL) (i : Nat) : Int := match jX L i with
 | some p => .ofNat p
 | none => .negSucc 0
def tL (B : cB) : Prop := ∀ (A : Nat -> Prop) (v : DV) (T : TreeP) (i : Nat) (h : H), eB A h v T -> T.l.length < 100000 -> ∃ h', B [v, ii i] h = some (.int .i64 (lW T.l i), h') /\ aI h h'
theorem aOp {E : bG} {A : Nat -> Prop} {s g : DV} {xs : List NV} {i b : Nat} {h : H} (r : RowE A 5 h s (eV xs)) (ho : bD h b [s, g]) (hl : xs.length < 100000) :
   ∀ (k j m : Nat), xs.length - j = k -> j <= xs.length -> (∀ q x, q < j -> xs[q]? = some x -> x.1.inode ≠ i) ->
   zE E (ii i) (.ptr b 0) (m + (k + 1)) (ii j) h = some (.int .i64 (lW (xs.map (·.1)) i), h) := by
 obtain ⟨n, e1, e2⟩ := r.len; have hn : n = xs.length := by rw [cN] at e1; omega
 subst hn; have fa : aH 0 (.ptr b 0) = some (.ptr b 0) := by rw [aK]
 intro k
 induction k with
 | zero =>
   intro j m hk hj hq; have : j = xs.length := by omega
   subst this; have hp : jX (xs.map (·.1)) i = none := by
     unfold jX; rw [List.findIdx?_eq_none_iff]; intro x hx; obtain ⟨y, hy, rfl⟩ := List.mem_map.1 hx; obtain ⟨q, hq2⟩ := List.mem_iff_getElem?.1 hy; have := hq q y (List.getElem?_eq_some_iff.1 hq2).1 hq2
     simpa using this
   show aFH E _ _ (zE E _ _ m) _ h = _; unfold aFH; rw [fa, aA, ho.read (j := 0) rfl, aA, e2, aA, aP, aA, decide_eq_false (Nat.lt_irrefl _), aC]; unfold aJU lW; rw [hp]
 | succ k ih =>
   intro j m hk hj hq; have hlt : j < xs.length := by omega
   obtain ⟨x, hx⟩ : ∃ x, xs[j]? = some x := ⟨_, List.getElem?_eq_getElem hlt⟩; obtain ⟨bb, o, q1, q2, q3, q4, q5, q6, q7, q8⟩ := gA r hx .i64; show aFH E _ _ (zE E _ _ (m + (k + 1))) _ h = _; unfold aFH; rw [fa, aA, ho.read (j := 0) rfl, aA, e2, aA, aP, aA, decide_eq_true hlt, aD, aA, ho.read (j := 0) rfl, aA, q1, aA, q2, aA, q3, aA, cJ, aA]; by_cases he : x.1.inode = i
   · have hp : jX (xs.map (·.1)) i = some j := by
       unfold jX; rw [List.findIdx?_eq_some_iff_getElem]; refine ⟨by simpa using hlt, ?_, λ q hq2 => ?_⟩
       · rw [List.getElem_map]; rw [List.getElem?_eq_getElem hlt] at hx; rw [Option.some.inj hx]; simpa using he
       · rw [List.getElem_map]; have := hq q _ hq2 (List.getElem?_eq_getElem (by omega))
         simpa using this
     rw [decide_eq_true he, aD]; unfold lW; rw [hp]
   · rw [decide_eq_false he, aC, bQ (by omega), aA]
     refine ih (j + 1) m (by omega) (by omega) λ q y hq2 hy => ?_
     rcases Nat.lt_or_ge q j with h1 | h1
     · exact hq q y h1 hy
     · have : q = j := by omega
       subst this; rw [hx] at hy; cases hy; exact he
theorem aVv {E : bG} : tL (aXO E) := by
 intro A v T i h r hl; obtain ⟨s, xs, rfl, e2, e3, e4⟩ := r; have hxl : xs.length = T.l.length := by rw [<- e2, List.length_map]
 obtain ⟨h1, eh, g1, o1⟩ := aO h 2 2 [s, ii T.gen] rfl; have := aOp (E := E) (i := i) (e3.grown g1) o1 (by omega) xs.length 0 (aT - (xs.length + 1)) (by omega) (by omega) (λ q x hq => by omega)
 rw [show aT - (xs.length + 1) + (xs.length + 1) = aT from by unfold aT; omega, e2] at this
 refine ⟨h1, ?_, g1⟩; show aJV E (.agg [s, ii T.gen]) (ii i) h = _; unfold aJV; rw [iK]; show zE E _ _ _ _ (h.push (.blk ⟨2, 2, false, true, Tr.ofL [s, ii T.gen]⟩)) = _; rw [<- eh]; exact this
def pN (B : cB) : Prop := ∀ (A : Nat -> Prop) (v : DV) (T : TreeP) (i : Nat) (h : H), eB A h v T -> T.l.length < 1000 -> (∀ n ∈ T.l, n.l.length < 1000) -> ∃ h', B [v, ii i] h = some (ii ((aX T.l i)), h') /\ aI h h'
theorem aIg {E : bG} {A : Nat -> Prop} {s g : DV} {xs : List NV} {i b : Nat} {h : H} (r : RowE A 5 h s (eV xs)) (ho : bD h b [s, g]) {x : NV} {j : Nat} (hx : xs[j]? = some x) (rx : RowE A 2 h x.2 (dY x.1.l)) (hl : x.1.l.length < 1000) (i2 : DV -> DV -> H -> aV) :
   ∀ (k q c m : Nat), x.1.l.length - q = k -> q <= x.1.l.length -> c + (x.1.l.length - q) <= 2000000 ->
   vS E i2 (.int .i64 (.ofNat i)) (.ptr b 0) (.int .i64 (.ofNat j)) (m + (k + 1)) (.int .i64 (.ofNat c)) (.int .i64 (.ofNat q)) h = aFe E i2 (.int .i64 (.ofNat (c + gU (x.1.l.drop q) i))) (.int .i64 (.ofNat j)) h := by
 have fa : aH 0 (.ptr b 0) = some (.ptr b 0) := by rw [aK]
 obtain ⟨bb, o, q1, q2, q3, q4, q5, q6, q7, q8⟩ := gA r hx .i64; obtain ⟨n, e1, e2⟩ := rx.len; have hn : n = x.1.l.length := by rw [bE] at e1; omega
 subst hn; intro k
 induction k with
 | zero =>
   intro q c m hk hq hc; have : q = x.1.l.length := by omega
   subst this; show aFE E i2 _ _ _ (vS E i2 _ _ _ m) _ _ h = _; unfold aFE; rw [fa, aA, ho.read (j := 0) rfl, aA, q1, aA, q2, aA, q7, aA, e2, aA, aP, aA, decide_eq_false (Nat.lt_irrefl _), aC, List.drop_length]
   rfl
 | succ k ih =>
   intro q c m hk hq hc; have hlt : q < x.1.l.length := by omega
   obtain ⟨e, he⟩ : ∃ e, x.1.l[q]? = some e := ⟨_, List.getElem?_eq_getElem hlt⟩; obtain ⟨b2, o2, i1, i2', i3, i4, i5, i6, i7, i8⟩ := kC rx he .i64; have hd : x.1.l.drop q = e :: x.1.l.drop (q + 1) := by
     rw [List.drop_eq_getElem_cons hlt]; rw [List.getElem?_eq_getElem hlt] at he; rw [Option.some.inj he]
   show aFE E i2 _ _ _ (vS E i2 _ _ _ (m + (k + 1))) _ _ h = _; unfold aFE; rw [fa, aA, ho.read (j := 0) rfl, aA, q1, aA, q2, aA, q7, aA, e2, aA, aP, aA, decide_eq_true hlt, aD, aA, ho.read (j := 0) rfl, aA, q1, aA, q2, aA, q7, aA, i1, aA, i6, aA, i8, aA, cJ, aA]; have hcnt : gU (x.1.l.drop q) i = gU (x.1.l.drop (q + 1)) i + if e.2 = i then 1 else 0 := by
     rw [hd]; unfold gU; rw [List.countP_cons]; simp
   have hcl : gU (x.1.l.drop (q + 1)) i <= 1000 := Nat.le_trans (List.countP_le_length) (by rw [List.length_drop]; omega)
   by_cases hei : e.2 = i
   · rw [decide_eq_true hei, aD, bQ (by omega), aA]
     unfold aFd; rw [bQ (by omega), aA]
     rw [if_pos hei] at hcnt; rw [ih (q + 1) (c + 1) m (by omega) (by omega) (by omega), hcnt]
     congr 3; omega
   · rw [decide_eq_false hei, aC]; unfold aFd; rw [bQ (by omega), aA]
     rw [if_neg hei] at hcnt; rw [ih (q + 1) c m (by omega) (by omega) (by omega), hcnt]; rfl
theorem aGd {E : bG} {A : Nat -> Prop} {s g : DV} {xs : List NV} {i b : Nat} {h : H} (r : RowE A 5 h s (eV xs)) (ho : bD h b [s, g]) (rx : ∀ x ∈ xs, RowE A 2 h x.2 (dY x.1.l)) (hl : xs.length < 1000) (hxl : ∀ x ∈ xs, x.1.l.length < 1000) :
   ∀ (k j c m : Nat), xs.length - j = k -> j <= xs.length -> c <= 1000 * j ->
   lJ E (ii i) (.ptr b 0) (m + (k + 1)) (ii c) (ii j) h = some (ii ((c + aX ((xs.drop j).map (·.1)) i)), h) := by
 obtain ⟨n, e1, e2⟩ := r.len; have hn : n = xs.length := by rw [cN] at e1; omega
 subst hn; have fa : aH 0 (.ptr b 0) = some (.ptr b 0) := by rw [aK]
 intro k
 induction k with
 | zero =>
   intro j c m hk hj hc; have : j = xs.length := by omega
   subst this; show aFF E _ _ (lJ E _ _ m) _ _ h = _; unfold aFF; rw [fa, aA, ho.read (j := 0) rfl, aA, e2, aA, aP, aA, decide_eq_false (Nat.lt_irrefl _), aC, List.drop_length]
   rfl
 | succ k ih =>
   intro j c m hk hj hc; have hlt : j < xs.length := by omega
   obtain ⟨x, hx⟩ : ∃ x, xs[j]? = some x := ⟨_, List.getElem?_eq_getElem hlt⟩; have hm := List.mem_of_getElem? hx; have hlx := hxl x hm; have hd : xs.drop j = x :: xs.drop (j + 1) := by
     rw [List.drop_eq_getElem_cons hlt]; rw [List.getElem?_eq_getElem hlt] at hx; rw [Option.some.inj hx]
   have hcl : gU x.1.l i <= 1000 := Nat.le_trans (List.countP_le_length) (by omega)
   show aFF E _ _ (lJ E _ _ (m + (k + 1))) _ _ h = _; unfold aFF; rw [fa, aA, ho.read (j := 0) rfl, aA, e2, aA, aP, aA, decide_eq_true hlt, aD]; have hin := aIg (E := E) (i := i) r ho hx (rx x hm) hlx (lJ E (ii i) (.ptr b 0) (m + (k + 1))) x.1.l.length 0 c (aT - (x.1.l.length + 1)) (by omega) (by omega) (by omega)
   rw [show aT - (x.1.l.length + 1) + (x.1.l.length + 1) = aT from by unfold aT; omega] at hin
   refine hin.trans ?_; unfold aFe; rw [bQ (by omega), aA, List.drop_zero, ih (j + 1) _ m (by omega) (by omega) (by omega), hd]
   have e : c + gU x.1.l i + aX ((xs.drop (j + 1)).map (·.1)) i = c + aX ((x :: xs.drop (j + 1)).map (·.1)) i := by
     simp only [List.map_cons, List.sum_cons, aX]; omega
   rw [e]
theorem aLn {E : bG} : pN (aXK E) := by
 intro A v T i h r hl hll; obtain ⟨s, xs, rfl, e2, e3, e4⟩ := r; have hxl : xs.length = T.l.length := by rw [<- e2, List.length_map]
 obtain ⟨h1, eh, g1, o1⟩ := aO h 2 2 [s, ii T.gen] rfl; have := aGd (E := E) (i := i) (e3.grown g1) o1 (λ x hx => (e4 x hx).grown g1) (by omega) (λ x hx => hll x.1 (by rw [<- e2]; exact List.mem_map.2 ⟨x, hx, rfl⟩)) xs.length 0 0 (aT - (xs.length + 1)) (by omega) (by omega) (by omega)
 rw [show aT - (xs.length + 1) + (xs.length + 1) = aT from by unfold aT; omega, List.drop_zero, e2, Nat.zero_add] at this
 refine ⟨h1, ?_, g1⟩; show aJP E (.agg [s, ii T.gen]) (ii i) h = _; unfold aJP; rw [iK]; show lJ E _ _ _ _ _ (h.push (.blk ⟨2, 2, false, true, Tr.ofL [s, ii T.gen]⟩)) = _; rw [<- eh]; exact this
def pL (B : cB) : Prop := ∀ (A : Nat -> Prop) (v : DV) (T : TreeP) (p : Nat) (n : bB) (name : Ln) (h : H), eB A h v T -> T.l[p]? = some n -> n.l.length < 1000 -> ∃ h', B [v, ii p, .str name] h = some (.bool (eP n.l name), h') /\ aI h h'
theorem iH {xs : List NV} {p : Nat} {n : bB} {L : NL} (e : xs.map (·.1) = L) (h : L[p]? = some n) : ∃ x, xs[p]? = some x /\ x.1 = n := by
 rw [<- e, List.getElem?_map] at h; cases hx : xs[p]? with
 | none => rw [hx] at h; cases h
 | some x => rw [hx] at h; cases h; exact ⟨x, rfl, rfl⟩
theorem aLi {E : bG} (hL : bP E 151 rR) : pL (aXP E) := by
 obtain ⟨B, hB, sB⟩ := hL.call; intro A v T p n name h r hp hl; obtain ⟨s, xs, rfl, e2, e3, e4⟩ := r; obtain ⟨x, hx, rfl⟩ := iH e2 hp; obtain ⟨h1, eh, g1, o1⟩ := aO h 2 2 [s, ii T.gen] rfl; obtain ⟨bb, o, q1, q2, q3, q4, q5, q6, q7, q8⟩ := gA (e3.grown g1) hx .i64; refine ⟨h1, ?_, g1⟩; show aJW E (.agg [s, ii T.gen]) (ii p) (.str name) h = _; unfold aJW; rw [iK]; show (vK _ _ : aV) = _; rw [show h.push (.blk ⟨[s, ii T.gen].length, [s, ii T.gen].length, false, true, Tr.ofL [s, ii T.gen]⟩) = h1 from eh.symm, aK, aA, o1.read (j := 0 + 0) rfl, aA, q1, aA, q2, aA, q7, aA, hB, sB A _ _ name h1 ((e4 x (List.mem_of_getElem? hx)).grown g1) (by omega), aB, aN, aA, aM, aA, cJ, aA]
 unfold lN; cases eP x.1.l name <;> rfl
def rO (B : cB) : Prop := ∀ (A : Nat -> Prop) (v : DV) (T : TreeP) (p : Nat) (x : NV) (h : H), eB A h v T -> T.l.length < 1000 -> p < T.l.length -> RowE A 2 h x.2 (dY x.1.l) -> (∀ c, h.size <= c -> A c) ->
 ∃ v' h', B [v, ii p, .agg (gY x)] h = some (v', h') /\ eB A h' v' ⟨T.l.set p x.1, T.gen⟩ /\ aI h h'
theorem aVb {α : Type} (l : List α) (p : Nat) (x : α) (hp : p < l.length) : l.take p ++ [x] ++ l.drop (p + 1) = l.set p x := by
 rw [List.set_eq_take_append_cons_drop, if_pos hp]; simp
theorem rE {A : Nat -> Prop} {h : H} {x : NV} (r : RowE A 2 h x.2 (dY x.1.l)) : (gY x).all DV.one = true := by
 have := RowE.one r; simp only [gY, List.all_cons, List.all_nil, this]; rfl
theorem aNS {E : bG} : rO (aXq E) := by
 intro A v T p x h r hl hp rx hA; obtain ⟨s, xs, rfl, e2, e3, e4⟩ := r; have hxl : xs.length = T.l.length := by rw [<- e2, List.length_map]
 obtain ⟨h2, eh2, g2, o2⟩ := aO h 2 2 [s, ii T.gen] rfl; obtain ⟨h4, eh4, g4, o4⟩ : ∃ y, y = h2.push (.blk ⟨5, 5, false, true, Tr.ofL (gY x)⟩) /\ aI h2 y /\ bD y h2.size (gY x) := ⟨_, rfl, aI.push _ _, aGV _ _ rfl⟩; obtain ⟨h6, eh6, g6, o6⟩ := aO h4 2 2 [.nils, ii 0] rfl; have z2 : h2.size = h.size + 1 := by rw [eh2]; exact H.size_push _ _
 have z4 : h4.size = h2.size + 1 := by rw [eh4]; exact H.size_push _ _
 have z6 : h6.size = h4.size + 1 := by rw [eh6]; exact H.size_push _ _
 have g26 := (g2.trans g4).trans g6; have r6 := e3.grown g26; obtain ⟨n, y1, y2, y3⟩ := r6.src; have hn : n = xs.length := by rw [cN] at y1; omega
 subst hn; have hone : (eV xs).all DV.one = true := wN λ y hy => e4 y hy
 obtain ⟨w, h10, f10, o10, k10⟩ := (kS.nil (n0 := h6.size) (es := 5) (h := h6)).app (Nat.le_refl _) (x := s) (bytes := 64) y2 y3 (cN xs) hone (by omega) (λ m hm => iJ (by simp at hm; omega) 64 (by omega))
 rw [List.nil_append] at o10; have g10 : aI h6 h10 := dE k10; have ox10 := (o4.grown g6).grown g10; obtain ⟨b, h14, i1, i2, i3, f14, o14, k14⟩ := o10.store (i := p) (n := xs.length) (cN xs) (by omega) (by omega) (cs := gY x) rfl (rE rx) .i64
 have ot14 := (((o2.grown g4).grown g6).grown g10).but (by omega) k14
 obtain ⟨h17, f17, o17, k17⟩ := ot14.set (v := w) (j := 0) o10.one (by simp)
 have oz17 := ((o6.grown g10).but (by omega) k14).but (by omega) k17
 obtain ⟨h20, f20, o20, k20⟩ := oz17.setAll (n := 2) (cs := [w, ii T.gen]) rfl rfl (by simp only [List.all_cons, List.all_nil, o10.one]; rfl)
 have G : aI h h20 := by
   have a := k14.grown (g26.trans g10) (by omega)
   have b' := k17.grown a (Nat.le_refl _); exact k20.grown b' (by omega)
 have hA6 : ∀ c, h6.size <= c -> c < h20.size -> A c := λ c hc _ => hA c (by omega)
 have row20 : RowE A 5 h20 w (eV (xs.set p x)) := by
   have e : (eV xs).take (p * 5) ++ gY x ++ (eV xs).drop ((p + 1) * 5) = eV (xs.set p x) := by
     rw [oZ, pA, <- aVb xs p x (by omega), kN, kN]
     simp [eV]
   rw [e] at o14; have r14 := o14.row (A := λ c => h6.size <= c) (λ c hc _ => hc)
   exact r14.move (by rw [k20.size, k17.size]; exact Nat.le_refl _) (λ c hc _ => (k20.get c (by omega)).trans (k17.get c (by omega))) (λ c hc _ => hA c (by omega))
 refine ⟨.agg [w, ii T.gen], h20, ?_, ⟨w, xs.set p x, rfl, ?_, row20, λ y hy => ?_⟩, G⟩
 · show aJr E (.agg [s, ii T.gen]) (ii p) (.agg (gY x)) h = _; unfold aJr; have ld18 : aJ 2 h17.get (.ptr h.size 0) = some (.agg [w, ii T.gen]) := o17.all (n := 2) rfl; rw [nbx eh2 rfl, nbx eh4 rfl, bN, <- eh6,
     aK, aA, ((o2.grown g4).grown g6).read (j := 0 + 0) rfl, aA, f10, aB, ox10.all (n := 5) rfl, aA, i1, aA, f14, aB, aA]
   rw [show (DV.ptr h.size (0 + 0)) = .ptr h.size 0 from rfl, f17, aB, ld18, aA, f20, aB, o20.all (n := 2) rfl, aA]
 · show _ = T.l.set p x.1; rw [<- e2, List.map_set]
 · rcases List.mem_or_eq_of_mem_set hy with hy | rfl
   · exact (e4 y hy).grown G
   · exact rx.grown G
theorem aAK {A : Nat -> Prop} {es : Nat} {h : H} {v : DV} {L : List DV} (r : RowE A es h v L) : RowE (λ c => c < h.size) es h v L := r.move (Nat.le_refl _) (λ _ _ _ => rfl) λ _ _ hc => hc
def vP (B : cB) : Prop := ∀ (A : Nat -> Prop) (v : DV) (T : TreeP) (p : Nat) (n : bB) (name : Ln) (i : Nat) (h : H), eB A h v T -> T.l.length < 1000 -> T.l[p]? = some n -> n.l.length < 1000 -> 1 <= i -> i < 256 -> eH name = true -> eP n.l name = false -> (∀ c, h.size <= c -> A c) ->
 ∃ v' h', B [v, ii p, .str name, ii i] h = some (v', h') /\ eB A h' v' ⟨T.l.set p (dX (λ l => gD l name i) n), T.gen⟩ /\ aI h h'
theorem eB.agg {A : Nat -> Prop} {h : H} {v : DV} {T : TreeP} (r : eB A h v T) : ∃ s, v = .agg [s, ii T.gen] /\ s.one = true := by
 obtain ⟨s, xs, e1, e2, e3, e4⟩ := r; exact ⟨s, e1, RowE.one e3⟩
theorem aTy {E : bG} (hAd : bP E 152 aEU) (hW : bP E 153 rO) : vP (aXN E) := by
 obtain ⟨B1, b1, s1⟩ := hAd.call; obtain ⟨B2, b2, s2⟩ := hW.call; intro A v T p n name i h r hl hp hnl hi1 hi2 hk hh hA; have r0 := r; obtain ⟨s, xs, rfl, e2, e3, e4⟩ := r; obtain ⟨x, hx, rfl⟩ := iH e2 hp; obtain ⟨h2, eh2, g2, o2⟩ := aO h 2 2 [s, ii T.gen] rfl; obtain ⟨h4, eh4, g4, o4⟩ := aO h2 2 2 [.nils, ii 0] rfl; obtain ⟨h10, eh10, g10, o10⟩ := aO h4 5 5 [(ii 0), (ii 0), (ii 0), (.str []), .nils] rfl; have z2 : h2.size = h.size + 1 := by rw [eh2]; exact H.size_push _ _
 have z4 : h4.size = h2.size + 1 := by rw [eh4]; exact H.size_push _ _
 have z10 : h10.size = h4.size + 1 := by rw [eh10]; exact H.size_push _ _
 obtain ⟨bb, o, q1, q2, q3, q4, q5, q6, q7, q8⟩ := gA (e3.grown (g2.trans g4)) hx .i64; have rx := e4 x (List.mem_of_getElem? hx); obtain ⟨h12, f12, o12, k12⟩ := o10.setAll (n := 5) (cs := gY x) rfl rfl (rE rx); have G12 : aI h h12 := k12.grown ((g2.trans g4).trans g10) (by omega)
 obtain ⟨w, h16, f16, p16, g16⟩ := s1 x.2 x.1.l name i h12 (aAK (rx.grown G12)) (by omega) hi1 hi2 hk hh
 have o16 := o12.grown g16; obtain ⟨h21, f21, o21, k21⟩ := o16.set (v := w) (j := 4) p16.one (by simp [gY])
 have o21' : bD h21 h4.size (gY (dX (λ l => gD l name i) x.1, w)) := o21
 have z12 : h12.size = h10.size := k12.size; have G21 : aI h h21 := k21.grown (G12.trans g16) (by omega)
 have ot21 := (((((o2.grown g4).grown g10).but (by omega) k12).grown g16).but (by omega) k21)
 have oz21 := ((((o4.grown g10).but (by omega) k12).grown g16).but (by omega) k21)
 have z16 := g16.size; have rw21 : RowE (λ c => (A c /\ c < h.size) \/ h12.size <= c) 2 h21 w (dY (gD x.1.l name i)) := by
   have a := p16.row (A := λ c => h12.size <= c) (λ c hc _ => hc)
   exact a.move (by rw [k21.size]; exact Nat.le_refl _) (λ c hc _ => k21.get c (by omega)) (λ c hc _ => .inr hc)
 have z21 : h21.size = h16.size := k21.size; obtain ⟨u, h25, f25, r25, g25⟩ := s2 (λ c => (A c /\ c < h.size) \/ h12.size <= c) _ T p (dX (λ l => gD l name i) x.1, w) h21 (r0.move G21.size (λ c _ hc => G21.get c hc) (λ c ha hc => .inl ⟨ha, hc⟩)) hl (List.getElem?_eq_some_iff.1 hp).1 rw21 (λ c hc => .inr (by omega))
 obtain ⟨s', eu, us⟩ := r25.agg; obtain ⟨h27, f27, o27, k27⟩ := (oz21.grown g25).setAll (n := 2) (cs := [s', ii T.gen]) rfl rfl (by simp only [List.all_cons, List.all_nil, us]; rfl)
 have z25 := g25.size; have G27 : aI h h27 := k27.grown (G21.trans g25) (by omega)
 refine ⟨.agg [s', ii T.gen], h27, ?_, ?_, G27⟩
 · show aJT E (.agg [s, ii T.gen]) (ii p) (.str name) (ii i) h = _; unfold aJT; have eu' : u = .agg [s', ii T.gen] := eu; rw [eu'] at f25; rw [nbx eh2 rfl, bN, <- eh4,
     aK, aA, (o2.grown g4).read (j := 0 + 0) rfl, aA, q1, aA, q8, aA, bN, <- eh10, f12, aB, aK, aA, o12.read (j := 0 + 4) (x := x.2) rfl, aA, b1, f16, aB, aN, aA, aM, aA, aA]
   rw [show (DV.ptr h4.size (0 + 4)) = .ptr h4.size 4 from rfl, f21, aB, ot21.all (n := 2) rfl, aA, o21'.all (n := 5) rfl, aA, b2, f25, aB, f27, aB, o27.all (n := 2) rfl, aA]
 · rw [<- eu]; exact r25.move (by rw [k27.size]; exact Nat.le_refl _) (λ c hc _ => k27.get c (by rcases hc with ⟨_, hc⟩ | hc <;> omega)) (λ c hc _ => hc.elim (·.1) λ x => hA c (by omega))
def rQ (B : cB) : Prop := ∀ (A : Nat -> Prop) (v : DV) (T : TreeP) (p : Nat) (n : bB) (name : Ln) (h : H), eB A h v T -> T.l.length < 1000 -> T.l[p]? = some n -> n.l.length < 1000 -> eP n.l name = true -> (∀ c, h.size <= c -> A c) ->
 ∃ v' h', B [v, ii p, .str name] h = some (v', h') /\ eB A h' v' ⟨T.l.set p (dX (λ l => fS l name) n), T.gen⟩ /\ aI h h'
theorem aNY {E : bG} (hAd : bP E 155 aES) (hW : bP E 153 rO) : rQ (aXL E) := by
 obtain ⟨B1, b1, s1⟩ := hAd.call; obtain ⟨B2, b2, s2⟩ := hW.call; intro A v T p n name h r hl hp hnl hh hA; have r0 := r; obtain ⟨s, xs, rfl, e2, e3, e4⟩ := r; obtain ⟨x, hx, rfl⟩ := iH e2 hp; obtain ⟨h2, eh2, g2, o2⟩ := aO h 2 2 [s, ii T.gen] rfl; obtain ⟨h4, eh4, g4, o4⟩ := aO h2 2 2 [.nils, ii 0] rfl; obtain ⟨h10, eh10, g10, o10⟩ := aO h4 5 5 [(ii 0), (ii 0), (ii 0), (.str []), .nils] rfl; have z2 : h2.size = h.size + 1 := by rw [eh2]; exact H.size_push _ _
 have z4 : h4.size = h2.size + 1 := by rw [eh4]; exact H.size_push _ _
 have z10 : h10.size = h4.size + 1 := by rw [eh10]; exact H.size_push _ _
 obtain ⟨bb, o, q1, q2, q3, q4, q5, q6, q7, q8⟩ := gA (e3.grown (g2.trans g4)) hx .i64; have rx := e4 x (List.mem_of_getElem? hx); obtain ⟨h12, f12, o12, k12⟩ := o10.setAll (n := 5) (cs := gY x) rfl rfl (rE rx); have G12 : aI h h12 := k12.grown ((g2.trans g4).trans g10) (by omega)
 obtain ⟨w, h16, f16, p16, g16⟩ := s1 x.2 x.1.l name h12 (aAK (rx.grown G12)) (by omega) hh
 have o16 := o12.grown g16; obtain ⟨h21, f21, o21, k21⟩ := o16.set (v := w) (j := 4) p16.one (by simp [gY])
 have o21' : bD h21 h4.size (gY (dX (λ l => fS l name) x.1, w)) := o21
 have z12 : h12.size = h10.size := k12.size; have G21 : aI h h21 := k21.grown (G12.trans g16) (by omega)
 have ot21 := (((((o2.grown g4).grown g10).but (by omega) k12).grown g16).but (by omega) k21)
 have oz21 := ((((o4.grown g10).but (by omega) k12).grown g16).but (by omega) k21)
 have z16 := g16.size; have rw21 : RowE (λ c => (A c /\ c < h.size) \/ h12.size <= c) 2 h21 w (dY (fS x.1.l name)) := by
   have a := p16.row (A := λ c => h12.size <= c) (λ c hc _ => hc)
   exact a.move (by rw [k21.size]; exact Nat.le_refl _) (λ c hc _ => k21.get c (by omega)) (λ c hc _ => .inr hc)
 have z21 : h21.size = h16.size := k21.size; obtain ⟨u, h25, f25, r25, g25⟩ := s2 (λ c => (A c /\ c < h.size) \/ h12.size <= c) _ T p (dX (λ l => fS l name) x.1, w) h21 (r0.move G21.size (λ c _ hc => G21.get c hc) (λ c ha hc => .inl ⟨ha, hc⟩)) hl (List.getElem?_eq_some_iff.1 hp).1 rw21 (λ c hc => .inr (by omega))
 obtain ⟨s', eu, us⟩ := r25.agg; obtain ⟨h27, f27, o27, k27⟩ := (oz21.grown g25).setAll (n := 2) (cs := [s', ii T.gen]) rfl rfl (by simp only [List.all_cons, List.all_nil, us]; rfl)
 have z25 := g25.size; have G27 : aI h h27 := k27.grown (G21.trans g25) (by omega)
 refine ⟨.agg [s', ii T.gen], h27, ?_, ?_, G27⟩
 · show aJQ E (.agg [s, ii T.gen]) (ii p) (.str name) h = _; unfold aJQ; have eu' : u = .agg [s', ii T.gen] := eu; rw [eu'] at f25; rw [nbx eh2 rfl, bN, <- eh4,
     aK, aA, (o2.grown g4).read (j := 0 + 0) rfl, aA, q1, aA, q8, aA, bN, <- eh10, f12, aB, aK, aA, o12.read (j := 0 + 4) (x := x.2) rfl, aA, b1, f16, aB, aN, aA, aM, aA, mU, aA, aA]
   rw [show (DV.ptr h4.size (0 + 4)) = .ptr h4.size 4 from rfl, f21, aB, ot21.all (n := 2) rfl, aA, o21'.all (n := 5) rfl, aA, b2, f25, aB, f27, aB, o27.all (n := 2) rfl, aA]
 · rw [<- eu]; exact r25.move (by rw [k27.size]; exact Nat.le_refl _) (λ c hc _ => k27.get c (by rcases hc with ⟨_, hc⟩ | hc <;> omega)) (λ c hc _ => hc.elim (·.1) λ x => hA c (by omega))
theorem aVJ : ∀ {L : NL} {lo : Nat}, jY L -> (∀ n ∈ L, lo <= n.inode /\ n.inode < 256) -> lo <= 256 -> lo + L.length <= 256
 | [], lo, _, _, h => by simpa using h
 | n :: L, lo, hL, h, _ => by
   rw [jY, List.pairwise_cons] at hL; have h0 := h n (by simp)
   have := aVJ (lo := n.inode + 1) hL.2 (λ m hm => ⟨hL.1 m hm, (h m (by simp [hm])).2⟩) (by omega)
   simp only [List.length_cons]; omega
theorem Inv.llen {k : Nat} {T : TreeP} (h : Inv k T) : T.l.length <= 255 := by
 have := aVJ (lo := 1) h.inc (λ n hn => (h.ok n hn).rng) (by omega)
 omega
theorem yD {L : NL} (hL : jY L) {p : Nat} {n : bB} (hp : L[p]? = some n) (f : bB -> bB) : L.set p (f n) = fO L n.inode f := by
 have hpl := (List.getElem?_eq_some_iff.1 hp).1; refine List.ext_getElem? λ j => ?_
 unfold fO; rw [List.getElem?_set, List.getElem?_map]; by_cases hj : p = j
 · subst hj; rw [if_pos rfl, if_pos hpl, hp]; simp
 · rw [if_neg hj]; cases hx : L[j]? with
   | none => rfl
   | some x =>
     have hjl := (List.getElem?_eq_some_iff.1 hx).1; have hne : x.inode ≠ n.inode := by
       obtain ⟨_, e1⟩ := List.getElem?_eq_some_iff.1 hp; obtain ⟨_, e2⟩ := List.getElem?_eq_some_iff.1 hx; rcases Nat.lt_or_gt_of_ne hj with h | h
       · have := List.pairwise_iff_getElem.1 hL p j hpl hjl h; rw [e1, e2] at this; omega
       · have := List.pairwise_iff_getElem.1 hL j p hjl hpl h; rw [e1, e2] at this; omega
     simp [hne]
theorem bEB {L : NL} (hL : jY L) {p : Nat} {n : bB} (hp : L[p]? = some n) : L.take p ++ L.drop (p + 1) = iU L n.inode := by
 have hpl := (List.getElem?_eq_some_iff.1 hp).1; have e : L = L.take p ++ n :: L.drop (p + 1) := by
   conv => lhs; rw [<- List.take_append_drop p L, List.drop_eq_getElem_cons hpl]
   rw [List.getElem?_eq_getElem hpl] at hp; rw [Option.some.inj hp]
 have hL2 := hL; rw [e] at hL2; rw [jY, List.pairwise_append, List.pairwise_cons] at hL2; obtain ⟨_, ⟨h1, _⟩, h2⟩ := hL2; unfold iU
 conv => rhs; rw [e]
 rw [List.filter_append, List.filter_cons]; have : (n.inode != n.inode) = false := by simp
 rw [this, if_neg (by simp)]
 congr 1
 · exact (List.filter_eq_self.2 λ m hm => by have := h2 m hm n (by simp); simp; omega).symm
 · exact (List.filter_eq_self.2 λ m hm => by have := h1 m hm; simp; omega).symm
theorem wH {A : Nat -> Prop} {es : Nat} {h : H} {v : DV} {L : List DV} (r : RowE A es h v L) : tY (some v) v = true := by
 obtain ⟨n, _, ⟨rfl, _⟩ | ⟨b, o, o2, rfl, _⟩ | ⟨b, o, c, op, rfl, _⟩⟩ := r
 · rfl
 · show pQ _ _ = true; simp [pQ, Nat.beq_refl]
 · show pQ _ _ = true; simp [pQ, Nat.beq_refl]
def jK (B : cB) : Prop := ∀ (A : Nat -> Prop) (v : DV) (T : TreeP) (k : Nat) (p : Ln) (h : H), eB A h v T -> Inv k T -> k < 900 -> p.length < 140737488355328 ->
 ∃ pl h', B [v, .str p] h = some (.tup [ii pl, ii ((aR T p).2)], h') /\ aI h h' /\ ((aR T p).2 = 0 -> jX T.l (aR T p).1 = some pl)
theorem aHY {E : bG} (hL : bP E 151 rR) (hAt : bP E 122 tL) {A : Nat -> Prop} {T : TreeP} {k0 : Nat} (hI : Inv k0 T) (hk0 : k0 < 900) {s w : DV} {b : Nat} {names : List (Ln)} (hnl : names.length < 1000000) {xs : List NV} (e2 : xs.map (·.1) = T.l) :
   ∀ (k j pl at_ m : Nat) (h : H) (n : bB), names.length - j = k -> j <= names.length -> cZ h w (cT names) -> bD h b [s, ii T.gen] -> RowE A 5 h s (eV xs) -> (∀ x ∈ xs, RowE A 2 h x.2 (dY x.1.l)) -> T.l[pl]? = some n -> n.inode = at_ ->
   ∃ pl' h', aBZ E (.ptr b 0) w (m + (k + 1)) (ii pl) (ii j) h = some (.tup [ii pl', ii ((eR T.l (names.drop j) at_).2)], h') /\ aI h h' /\ ((eR T.l (names.drop j) at_).2 = 0 -> jX T.l (eR T.l (names.drop j) at_).1 = some pl') := by
 obtain ⟨B1, b1, s1⟩ := hL.call; obtain ⟨B2, b2, s2⟩ := hAt.call; have fa : aH 0 (.ptr b 0) = some (.ptr b 0) := by rw [aK]
 intro k
 induction k with
 | zero =>
   intro j pl at_ m h n hk hj rw_ ho re rx hp hn; have : j = names.length := by omega
   subst this; have hg : bO T.l at_ = some n := by rw [<- hn]; exact nB hI.inc (List.mem_of_getElem? hp)
   obtain ⟨p', hp1, hp2⟩ := uQ hg; refine ⟨pl, h, ?_, aI.refl _, λ _ => ?_⟩
   · show aFG E _ _ (aBZ E _ _ m) _ _ h = _; unfold aFG; rw [rw_.len, aA, aP, aA, bC, decide_eq_false (Nat.lt_irrefl _), aC]; unfold aJR; rw [List.drop_length]; rfl
   · rw [List.drop_length]; show jX T.l at_ = some pl; have : p' = pl := by
       obtain ⟨q1, e3⟩ := List.getElem?_eq_some_iff.1 hp; obtain ⟨q2, e4⟩ := List.getElem?_eq_some_iff.1 hp2; rcases Nat.lt_trichotomy p' pl with x | x | x
       · have := List.pairwise_iff_getElem.1 hI.inc p' pl q2 q1 x; rw [e3, e4] at this; omega
       · exact x
       · have := List.pairwise_iff_getElem.1 hI.inc pl p' q1 q2 x; rw [e3, e4] at this; omega
     rw [hp1, this]
 | succ k ih =>
   intro j pl at_ m h n hk hj rw_ ho re rx hp hn; have hlt : j < names.length := by omega
   obtain ⟨nm, hnm⟩ : ∃ nm, names[j]? = some nm := ⟨_, List.getElem?_eq_getElem hlt⟩; have hd : names.drop j = nm :: names.drop (j + 1) := by
     rw [List.drop_eq_getElem_cons hlt]; rw [List.getElem?_eq_getElem hlt] at hnm; rw [Option.some.inj hnm]
   obtain ⟨x, hx, rfl⟩ := iH e2 hp; have hg : bO T.l at_ = some x.1 := by rw [<- hn]; exact nB hI.inc (List.mem_of_getElem? hp)
   have hok := (hI.of hg).1; obtain ⟨bb, o, q1, q2, q3, q4, q5, q6, q7, q8⟩ := gA re hx .i64; have hlen := hok.len; obtain ⟨nb, no, i1, i2⟩ := rw_.at (j := j) (x := .str nm) (by unfold cT; rw [List.getElem?_map, hnm]; rfl) .i64
   rw [hd]; simp only [eR, hg]; show ∃ pl' h', aFG E _ _ (aBZ E _ _ (m + (k + 1))) _ _ h = _ /\ _; unfold aFG; rw [rw_.len, aA, aP, aA, bC, decide_eq_true hlt, aD, fa, aA, ho.read (j := 0) rfl, aA, q1, aA, q2, aA, q5, aA, cJ, aA]; by_cases hk1 : x.1.kind = 1
   · rw [decide_eq_true hk1, aD, if_pos hk1]; exact ⟨0, h, rfl, aI.refl _, λ hh => by cases hh⟩
   · rw [decide_eq_false hk1, aC, if_neg hk1]; have lk := s1 A x.2 x.1.l nm h (rx x (List.mem_of_getElem? hx)) (by omega)
     rw [aA, ho.read (j := 0) rfl, aA, q1, aA, q2, aA, q7, aA, i1, aA, i2, aA, b1, lk, aB, aN, aA, aM, aA, bL, aA]; by_cases hh : eP x.1.l nm = true
     · have e0 : lN x.1.l nm = 0 := by unfold lN; rw [hh]; rfl
       obtain ⟨mm, hm⟩ := hI.ent _ (wP (dD hg).1 (lM hh)); obtain ⟨p', hp1, hp2⟩ := uQ hm; obtain ⟨h', f1, g1⟩ := s2 A (.agg [s, ii T.gen]) T (jB x.1.l nm) h ⟨s, xs, rfl, e2, re, rx⟩ (by have := hI.llen; omega)
       have hpv : lW T.l (jB x.1.l nm) = .ofNat p' := by unfold lW; rw [hp1]
       rw [hpv] at f1; obtain ⟨pl', h2, f2, g2, c2⟩ := ih (j + 1) p' (jB x.1.l nm) m h' mm (by omega) (by omega) (rw_.grown g1) (ho.grown g1) (re.grown g1) (λ y hy => (rx y hy).grown g1) hp2 (dD hm).2
       rw [if_pos hh]; refine ⟨pl', h2, ?_, g1.trans g2, c2⟩; rw [e0]; simp only [decide_true, Bool.not_true]; rw [aC, ho.all (n := 2) rfl, aA, b2, f1, aB, bQ (by omega), aA]
       exact f2
     · have e0 : lN x.1.l nm = 7 := by unfold lN; rw [if_neg hh]
       rw [if_neg hh, e0]; refine ⟨0, h, ?_, aI.refl _, λ hh2 => by cases hh2⟩
       rw [show (!decide (7 = 0)) = true from rfl, aD]
theorem aNT {E : bG} (hS : bP E 154 iM) (hL : bP E 151 rR) (hAt : bP E 122 tL) : jK (aXM E) := by
 obtain ⟨B0, b0, s0⟩ := hS.call; obtain ⟨B2, b2, s2⟩ := hAt.call; intro A v T k p h r hI hk hp; have r0 := r; obtain ⟨s, xs, rfl, e2, e3, e4⟩ := r; obtain ⟨h1, eh, g1, o1⟩ := aO h 2 2 [s, ii T.gen] rfl; obtain ⟨w, h4, f4, r4, g4⟩ := s0 p h1 hp; have o4 := o1.grown g4; show ∃ pl h', aJS E (.agg [s, ii T.gen]) (.str p) h = _ /\ _; unfold aJS; rw [nbx eh rfl, b0, f4, aB, aN, aA, aM, aA, bL, aA]; unfold aR; by_cases hE : eJ p = 0
 · obtain ⟨r1, hr1, _⟩ := hI.root; obtain ⟨p', hp1, hp2⟩ := uQ hr1; obtain ⟨h10, f10, g10⟩ := s2 A (.agg [s, ii T.gen]) T 1 h4 (r0.grown (g1.trans g4)) (by have := hI.llen; omega)
   have hpv : lW T.l 1 = .ofNat p' := by unfold lW; rw [hp1]
   rw [hpv] at f10; have hnl : (aQ p).length < 1000000 := by
     have := (hM p).2.2.1; omega
   have G := (g1.trans g4).trans g10; obtain ⟨pl, h', f5, g5, c5⟩ := aHY (E := E) hL hAt hI hk hnl e2 (aQ p).length 0 p' 1 (aT - ((aQ p).length + 1)) h10 r1 (by omega) (by omega) (r4.grown g10) (o4.grown g10) (e3.grown G) (λ y hy => (e4 y hy).grown G) hp2 (dD hr1).2
   rw [show aT - ((aQ p).length + 1) + ((aQ p).length + 1) = aT from by unfold aT; omega] at f5
   rw [List.drop_zero] at f5 c5; rw [if_pos hE]; refine ⟨pl, h', ?_, G.trans g5, c5⟩; rw [hE]; simp only [decide_true, Bool.not_true]; rw [aC, o4.all (n := 2) rfl, aA, b2, f10, aB]; exact f5
 · rw [if_neg hE]; refine ⟨0, h4, ?_, g1.trans g4, λ x => absurd x hE⟩
   have d : (!decide (eJ p = 0)) = true := by simp [hE]
   rw [d, aD]
theorem aOu {l : List (Ln)} (h : (dI l).length <= 255) : (uS l).length <= 255 := by
 unfold uS; split
 · simp
 · exact h
theorem aLS {l : List (Ln)} (n : Nat) : (dI (l.take n)).length <= (dI l).length := by
 conv => rhs; rw [<- List.take_append_drop n l]
 unfold dI; rw [List.map_append, List.flatten_append, List.length_append]; omega
theorem aOw {p : Ln} (h : aQ p ≠ []) : eJ (aCS p) = 0 /\ aQ (aCS p) = (aQ p).take ((aQ p).length - 1) /\ (aCS p).length <= 255 := by
 obtain ⟨o1, o2, o3, o4⟩ := hM p; have hn : ∀ n ∈ (aQ p).take ((aQ p).length - 1), eH n = true := λ n hn => o1 n (List.mem_of_mem_take hn)
 have hl : (dI ((aQ p).take ((aQ p).length - 1))).length <= 255 := Nat.le_trans (aLS _) o2; have hj := aLK hn hl; have hs := qN hn hl; have e : aCS p = uS ((aQ p).take ((aQ p).length - 1)) := by
   unfold aCS aEn; rw [if_neg h, hj]; rfl
 rw [e]; refine ⟨by unfold eJ; rw [hs], by show (iR _).getD [] = _; rw [hs]; rfl, aOu hl⟩
def pM (B : cB) : Prop := ∀ (A : Nat -> Prop) (v : DV) (T : TreeP) (k : Nat) (p : Ln) (h : H), eB A h v T -> Inv k T -> k < 900 -> p.length < 140737488355328 ->
 ∃ pl h', B [v, .str p] h = some (.tup [ii pl, .str (bY T p).2.1, ii ((bY T p).2.2)], h') /\ aI h h' /\ ((bY T p).2.2 = 0 -> jX T.l (bY T p).1 = some pl)
theorem aTA {E : bG} (hP : bP E 150 zC) (hW : bP E 124 jK) : pM (aXQ E) := by
 obtain ⟨B0, b0, s0⟩ := hP.call; obtain ⟨B1, b1, s1⟩ := hW.call; intro A v T k p h r hI hk hp; have r0 := r; obtain ⟨s, xs, rfl, e2, e3, e4⟩ := r; obtain ⟨h1, eh, g1, o1⟩ := aO h 2 2 [s, ii T.gen] rfl; obtain ⟨h4, f4, g4⟩ := s0 p h1 hp; have o4 := o1.grown g4; show ∃ pl h', aJX E (.agg [s, ii T.gen]) (.str p) h = _ /\ _; unfold aJX; rw [nbx eh rfl, b0, f4, aB, aN, aA, aM, aA, mU, aA, bL, aA]; unfold bY; by_cases hne : aQ p = []
 · have e15 : aIs p = 15 := by unfold aIs; rw [if_pos hne]
   rw [if_pos hne]; refine ⟨0, h4, ?_, g1.trans g4, λ x => by cases x⟩
   rw [e15, show (!decide (15 = 0)) = true from rfl, aD]
 · have e0 : aIs p = 0 := by unfold aIs; rw [if_neg hne]
   obtain ⟨d1, d2, d3⟩ := aOw hne; obtain ⟨pl, h11, f11, g11, c11⟩ := s1 A (.agg [s, ii T.gen]) T k (aCS p) h4 (r0.grown (g1.trans g4)) hI hk (by omega)
   have hlk : aR T (aCS p) = eR T.l ((aQ p).take ((aQ p).length - 1)) 1 := by unfold aR; rw [if_pos d1, d2]
   rw [hlk] at f11 c11; have G := (g1.trans g4).trans g11; rw [if_neg hne, e0, show (!decide (0 = 0)) = false from rfl, aC, o4.all (n := 2) rfl, aA, b1, f11, aB, aN, aA, aM, aA, bL, aA]
   by_cases hw : (eR T.l ((aQ p).take ((aQ p).length - 1)) 1).2 = 0
   · obtain ⟨n, hp1, hg⟩ := eK (c11 hw); obtain ⟨x, hx, rfl⟩ := iH e2 hp1; obtain ⟨bb, o, q1, q2, q3, q4, q5, q6, q7, q8⟩ := gA (e3.grown G) hx .i64; have fa0 : aH 0 (.ptr h.size 0) = some (.ptr h.size 0) := by rw [aK]
     rw [if_pos hw, hg]; simp only [hw, decide_true, Bool.not_true]; rw [aC, fa0, aA, (o4.grown g11).read (j := 0) rfl, aA, q1, aA, q2, aA, q5, aA, cJ, aA]; by_cases hk1 : x.1.kind = 1
     · rw [decide_eq_true hk1, aD, if_pos hk1]; exact ⟨0, h11, rfl, G, λ y => by cases y⟩
     · rw [decide_eq_false hk1, aC, if_neg hk1]; exact ⟨pl, h11, rfl, G, λ _ => c11 hw⟩
   · rw [if_neg hw]; refine ⟨0, h11, ?_, G, λ y => absurd y hw⟩
     have d : (!decide ((eR T.l ((aQ p).take ((aQ p).length - 1)) 1).2 = 0)) = true := by simp [hw]
     rw [d, aD]
def xH (B : cB) : Prop := ∀ (A : Nat -> Prop) (v : DV) (T : TreeP) (n : bB) (h : H), eB A h v T -> jY T.l -> T.l.length < 1000 -> n ∈ T.l -> (∀ c, h.size <= c -> A c) ->
 ∃ v' h', B [v, ii n.inode] h = some (v', h') /\ eB A h' v' ⟨iU T.l n.inode, T.gen⟩ /\ aI h h'
theorem aOj {E : bG} (hAt : bP E 122 tL) : xH (aXJ E) := by
 obtain ⟨B1, b1, s1⟩ := hAt.call; intro A v T n h r hinc hl hn hA; have r0 := r; obtain ⟨s, xs, rfl, e2, e3, e4⟩ := r; have hxl : xs.length = T.l.length := by rw [<- e2, List.length_map]
 obtain ⟨p, hp1, hp2⟩ := uQ (nB hinc hn); have hpl := (List.getElem?_eq_some_iff.1 hp2).1; obtain ⟨h2, eh2, g2, o2⟩ := aO h 2 2 [s, ii T.gen] rfl; obtain ⟨h4, eh4, g4, o4⟩ := aO h2 2 2 [.nils, ii 0] rfl; have z2 : h2.size = h.size + 1 := by rw [eh2]; exact H.size_push _ _
 have z4 : h4.size = h2.size + 1 := by rw [eh4]; exact H.size_push _ _
 obtain ⟨h7, f7, g7⟩ := s1 A (.agg [s, ii T.gen]) T n.inode h4 (r0.grown (g2.trans g4)) (by omega)
 have hpv : lW T.l n.inode = .ofNat p := by unfold lW; rw [hp1]
 rw [hpv] at f7; have G7 := (g2.trans g4).trans g7; have r7 := e3.grown G7; obtain ⟨v1, u1, w1⟩ := r7.to (i := p) (cN xs) (by omega) (by omega) .i64
 obtain ⟨v2, u2, w2⟩ := r7.from (i := p + 1) (cN xs) (by omega) (by omega) .i64
 have hone : ∀ ys : List NV, (∀ y ∈ ys, y ∈ xs) -> (eV ys).all DV.one = true := λ ys hy => wN (A := A) (h := h) λ y h' => e4 y (hy y h')
 obtain ⟨k1, t1, t2, t3⟩ := w1.src; have l1 : ((eV xs).take (p * 5)).length = p * 5 := by rw [List.length_take, cN]; omega
 have hk1 : k1 = p := by omega
 subst hk1; obtain ⟨y1, h16, f16, o16, p16⟩ := (kS.nil (n0 := h7.size) (es := 5) (h := h7)).app (Nat.le_refl _) (x := v1) (bytes := 64) t2 t3 l1 (by rw [oZ]; exact hone _ λ y hy => List.mem_of_mem_take hy) (by omega) (λ m hm => iJ (by simp at hm; omega) 64 (by omega))
 have g16 : aI h7 h16 := dE p16; obtain ⟨k2, t4, t5, t6⟩ := (w2.grown g16).src; have l2 : ((eV xs).drop ((k1 + 1) * 5)).length = (xs.length - (k1 + 1)) * 5 := by rw [List.length_drop, cN]; omega
 have hk2 : k2 = xs.length - (k1 + 1) := by omega
 subst hk2; obtain ⟨y2, h18, f18, o18, p18⟩ := o16.app p16.size (x := v2) (bytes := 64) t5 t6 l2 (by rw [pA]; exact hone _ λ y hy => List.mem_of_mem_drop hy) (by omega) (λ m hm => iJ (by simp only [List.nil_append, l1] at hm; omega) 64 (by omega))
 have ecells : [] ++ (eV xs).take (k1 * 5) ++ (eV xs).drop ((k1 + 1) * 5) = eV (xs.take k1 ++ xs.drop (k1 + 1)) := by rw [List.nil_append, oZ, pA, kN]
 rw [ecells] at o18; have g18 : aI h7 h18 := dE (p16.trans p18); have ot18 := ((o2.grown g4).grown g7).grown g18; have oz18 := (o4.grown g7).grown g18; obtain ⟨h21, f21, o21, k21⟩ := ot18.set (v := y2) (j := 0) o18.one (by simp)
 have oz21 := oz18.but (by omega) k21
 have one2 : ([y2, ii T.gen]).all DV.one = true := by simp only [List.all_cons, List.all_nil, o18.one]; rfl
 obtain ⟨h24, f24, o24, k24⟩ := oz21.setAll (n := 2) (cs := [y2, ii T.gen]) rfl rfl one2; have z7 := g7.size; have G : aI h h24 := k24.grown (k21.grown (G7.trans g18) (Nat.le_refl _)) (by omega)
 have row24 : RowE A 5 h24 y2 (eV (xs.take k1 ++ xs.drop (k1 + 1))) := by
   have a := o18.row (A := λ c => h7.size <= c) (λ c hc _ => hc)
   exact a.move (by rw [k24.size, k21.size]; exact Nat.le_refl _) (λ c hc _ => (k24.get c (by omega)).trans (k21.get c (by omega))) (λ c hc _ => hA c (by omega))
 refine ⟨.agg [y2, ii T.gen], h24, ?_, ⟨y2, xs.take k1 ++ xs.drop (k1 + 1), rfl, ?_, row24, λ y hy => ?_⟩, G⟩
 · show aJO E (.agg [s, ii T.gen]) (ii n.inode) h = _; unfold aJO; have fa0 : aH 0 (.ptr h.size 0) = some (.ptr h.size 0) := by rw [aK]
   have rd7 := ((o2.grown g4).grown g7).read (j := 0) (x := s) rfl; have rd16 := (((o2.grown g4).grown g7).grown g16).read (j := 0) (x := s) rfl; have ld21 : aJ 2 h21.get (.ptr h.size 0) = some (.agg [y2, ii T.gen]) := o21.all (n := 2) rfl; rw [nbx eh2 rfl, bN, <- eh4, (o2.grown g4).all (n := 2) rfl, aA, b1, f7, aB, fa0, aA, rd7, aA, u1, aA, aA, rd7, aA,
     bQ (by omega), aA, u2, aA, f16, aB, rd16, wH e3, eM, f18, aB, aA, f21, aB, ld21, aA, f24, aB, o24.all (n := 2) rfl, aA]
 · show _ = iU T.l n.inode; rw [List.map_append, List.map_take, List.map_drop, e2]; exact bEB hinc hp2
 · rcases List.mem_append.1 hy with hy | hy
   · exact (e4 y (List.mem_of_mem_take hy)).grown G
   · exact (e4 y (List.mem_of_mem_drop hy)).grown G
theorem aUT {α : Type} {p : α -> Bool} {l : List α} {j : Nat} {e : α} (hj : j < (l.takeWhile p).length) (he : l[j]? = some e) : p e = true := by
 have h1 : (l.takeWhile p)[j]? = some e := by
   have : l = l.takeWhile p ++ l.dropWhile p := (List.takeWhile_append_dropWhile).symm; rw [this, List.getElem?_append_left hj] at he; exact he
 exact mV (List.mem_of_getElem? h1)
theorem bCt {α : Type} {p : α -> Bool} : ∀ {l : List α} {e : α}, l[(l.takeWhile p).length]? = some e -> p e = false
 | [], e, h => by simp at h
 | x :: l, e, h => by
   rw [List.takeWhile_cons] at h; split at h
   · simp only [List.length_cons, List.getElem?_cons_succ] at h; exact bCt h
   · rename_i hx; simp only [List.length_nil, List.getElem?_cons_zero, Option.some.injEq] at h; subst h; simpa using hx
theorem aUS {α : Type} (p : α -> Bool) (l : List α) : l.take (l.takeWhile p).length = l.takeWhile p /\ l.drop (l.takeWhile p).length = l.dropWhile p := by
 have e : l = l.takeWhile p ++ l.dropWhile p := (List.takeWhile_append_dropWhile).symm; constructor
 · conv => lhs; arg 2; rw [e]
   rw [List.take_left]
 · conv => lhs; arg 2; rw [e]
   rw [List.drop_left]
theorem aOG {L : NL} (h : aAp L = none) : ∀ j, 2 <= j -> j < 256 -> ∃ n, bO L j = some n := by
 intro j h1 h2; unfold aAp at h; have := List.find?_eq_none.1 h j (by rw [List.mem_range'_1]; omega)
 cases hg : bO L j with
 | none => rw [hg] at this; simp at this
 | some n => exact ⟨n, rfl⟩
def jD (L : NL) : Nat := (aAp L).getD 256
theorem aAv {k : Nat} {T : TreeP} (h : Inv k T) : 2 <= jD T.l /\ jD T.l <= 256 /\ bO T.l (jD T.l) = none /\ ∀ j, 2 <= j -> j < jD T.l -> ∃ n, bO T.l j = some n := by
 unfold jD; cases hf : aAp T.l with
 | none =>
   refine ⟨by simp, by simp, aAn λ n hn => ?_, λ j h1 h2 => aOG hf j h1 (by simpa using h2)⟩
   have := (h.ok n hn).rng; simp; omega
 | some i =>
   obtain ⟨f1, f2, f3, f4⟩ := tC hf; exact ⟨f1, by simp; omega, f3, f4⟩
theorem aVm {E : bG} (hAt : bP E 122 tL) {A : Nat -> Prop} {T : TreeP} {k0 : Nat} (hI : Inv k0 T) {s r2 r6 r8 r9 : DV} {b : Nat} :
   ∀ (k j m : Nat) (h : H), jD T.l - j = k -> 2 <= j -> j <= jD T.l -> bD h b [s, ii T.gen] -> eB A h (.agg [s, ii T.gen]) T ->
   ∃ h', aHw E r2 (.ptr b 0) r6 r8 r9 (m + (k + 1)) (ii j) h = aMR E r2 (.ptr b 0) r6 r8 r9 (ii (jD T.l)) h' /\ aI h h' := by
 obtain ⟨B, hB, sB⟩ := hAt.call; obtain ⟨q1, q2, q3, q4⟩ := aAv hI; have hl := hI.llen; intro k
 induction k with
 | zero =>
   intro j m h hk h2 hj ho r; have : j = jD T.l := by omega
   subst this; obtain ⟨h', f1, g1⟩ := sB A _ T (jD T.l) h r (by omega)
   have hpv : lW T.l (jD T.l) = .negSucc 0 := by unfold lW; rw [aOt q3]
   rw [hpv] at f1; refine ⟨h', ?_, g1⟩; show aNh E _ _ _ _ _ (aHw E _ _ _ _ _ m) _ h = _; unfold aNh; rw [ho.all (n := 2) rfl, aA, hB, f1, aB]; have e : oR (.int .i64 (.negSucc 0)) (ii 0) = some (.bool false) := rfl; rw [e, aA, aC]
 | succ k ih =>
   intro j m h hk h2 hj ho r; obtain ⟨n, hn⟩ := q4 j h2 (by omega)
   obtain ⟨p, hp1, _⟩ := uQ hn; obtain ⟨h', f1, g1⟩ := sB A _ T j h r (by omega)
   have hpv : lW T.l j = .ofNat p := by unfold lW; rw [hp1]
   rw [hpv] at f1; obtain ⟨h3, f2, g2⟩ := ih (j + 1) m h' (by omega) (by omega) (by omega) (ho.grown g1) (r.grown g1)
   refine ⟨h3, ?_, g1.trans g2⟩; show aNh E _ _ _ _ _ (aHw E _ _ _ _ _ (m + (k + 1))) _ h = _; unfold aNh; rw [ho.all (n := 2) rfl, aA, hB, f1, aB, fW, aA, decide_eq_true (Nat.zero_le p), aD, bQ (by omega), aA]
   exact f2
def lG (L : NL) (i : Nat) : Nat := (L.takeWhile λ n => decide (n.inode < i)).length
theorem aZr {E : bG} {A : Nat -> Prop} {s g r2 r6 : DV} {b i : Nat} {xs : List NV} (hl : xs.length < 1000) {h : H} (re : RowE A 5 h s (eV xs)) (ho : bD h b [s, g]) :
   ∀ (k j m : Nat), lG (xs.map (·.1)) i - j = k -> j <= lG (xs.map (·.1)) i ->
   aHv E r2 (.ptr b 0) r6 (ii i) (m + (k + 1)) (ii j) h = aHz E r2 (.ptr b 0) r6 (ii i) (ii (lG (xs.map (·.1)) i)) h := by
 obtain ⟨n, e1, e2⟩ := re.len; have hn : n = xs.length := by rw [cN] at e1; omega
 subst hn; have fa : aH 0 (.ptr b 0) = some (.ptr b 0) := by rw [aK]
 have hple : lG (xs.map (·.1)) i <= xs.length := by
   have := (List.takeWhile_sublist (λ n : bB => decide (n.inode < i)) (l := xs.map (·.1))).length_le
   rw [List.length_map] at this; exact this
 have rd := ho.read (j := 0) (x := s) rfl; intro k
 induction k with
 | zero =>
   intro j m hk hj; have : j = lG (xs.map (·.1)) i := by omega
   subst this; show aNg E _ _ _ _ (aHv E _ _ _ _ m) _ h = _; unfold aNg; rw [fa, aA, rd, aA, e2, aA, aP, aA]; by_cases hlt : lG (xs.map (·.1)) i < xs.length
   · obtain ⟨x, hx⟩ : ∃ x, xs[lG (xs.map (·.1)) i]? = some x := ⟨_, List.getElem?_eq_getElem hlt⟩; obtain ⟨bb, o, q1, q2, q3, q4, q5, q6, q7, q8⟩ := gA re hx .i64; have hno : (decide (x.1.inode < i)) = false := bCt (l := xs.map (·.1)) (p := λ n : bB => decide (n.inode < i)) (by
       show (xs.map (·.1))[lG (xs.map (·.1)) i]? = some x.1; rw [List.getElem?_map, hx]; rfl)
     simp only [decide_eq_true hlt, iL, fa, aA, rd, q1, q2, q3, aP, hno, cL]; rw [aC]
   · simp only [decide_eq_false hlt, aBq, fB, cI, aA]; rw [aC]
 | succ k ih =>
   intro j m hk hj; have hlt : j < xs.length := by omega
   obtain ⟨x, hx⟩ : ∃ x, xs[j]? = some x := ⟨_, List.getElem?_eq_getElem hlt⟩; obtain ⟨bb, o, q1, q2, q3, q4, q5, q6, q7, q8⟩ := gA re hx .i64; have hyes : (decide (x.1.inode < i)) = true := aUT (l := xs.map (·.1)) (p := λ n : bB => decide (n.inode < i)) (j := j) (by show j < lG (xs.map (·.1)) i; omega) (by rw [List.getElem?_map, hx]; rfl)
   show aNg E _ _ _ _ (aHv E _ _ _ _ (m + (k + 1))) _ h = _; unfold aNg; rw [fa, aA, rd, aA, e2, aA, aP, aA]; simp only [decide_eq_true hlt, iL, fa, aA, rd, q1, q2, q3, aP, hyes, cL]; rw [aD, bQ (by omega), aA]
   exact ih (j + 1) m (by omega) (by omega)
theorem aZs {E : bG} {A : Nat -> Prop} {T : TreeP} {s : DV} {xs : List NV} {i kind b1 b3 n0 : Nat} {h : H} {L3 : List DV} (hl : xs.length < 1000) (e2 : xs.map (·.1) = T.l) (re : RowE A 5 h s (eV xs)) (rx : ∀ x ∈ xs, RowE A 2 h x.2 (dY x.1.l)) (o1 : bD h b1 [s, ii T.gen]) (o3 : bD h b3 L3) (h3 : L3.length = 2)
   (h13 : b1 ≠ b3) (hA1 : ¬ A b1) (hA3 : ¬ A b3) (hA : ∀ c, h.size <= c -> A c) (hn1 : n0 <= b1) (hn3 : n0 <= b3) :
   ∃ v' h', aHz E (ii kind) (.ptr b1 0) (.ptr b3 0) (ii i) (ii (lG T.l i)) h = some (.tup [v', ii 0], h') /\ eB A h' v' ⟨pO T.l ⟨i, T.gen, kind, [], []⟩, T.gen⟩ /\ cD n0 h h' := by
 have hxl : xs.length = T.l.length := by rw [<- e2, List.length_map]
 have hb1 := o1.1; have hb3 := o3.1; have hple : lG T.l i <= xs.length := by
   have := (List.takeWhile_sublist (λ n : bB => decide (n.inode < i)) (l := T.l)).length_le
   rw [hxl]; exact this
 have fa0 : aH 0 (.ptr b1 0) = some (.ptr b1 0) := by rw [aK]
 have fa1 : aH 1 (.ptr b1 0) = some (.ptr b1 1) := by rw [aK]
 obtain ⟨v1, u1, w1⟩ := re.to (i := lG T.l i) (cN xs) hple (by omega) .i64
 obtain ⟨v2, u2, w2⟩ := re.from (i := lG T.l i) (cN xs) hple (by omega) .i64
 obtain ⟨h8, eh8, g8, o8⟩ := aO h 5 5 (gY (⟨i, T.gen, kind, [], []⟩, .nils)) rfl; have z8 : h8.size = h.size + 1 := by rw [eh8]; exact H.size_push _ _
 have hone : ∀ ys : List NV, (∀ y ∈ ys, y ∈ xs) -> (eV ys).all DV.one = true := λ ys hy => wN (A := A) (h := h) λ y h' => rx y (hy y h')
 obtain ⟨k1, t1, t2, t3⟩ := (w1.grown g8).src; have l1 : ((eV xs).take (lG T.l i * 5)).length = lG T.l i * 5 := by rw [List.length_take, cN]; omega
 have hk1 : k1 = lG T.l i := by omega
 subst hk1; obtain ⟨y1, h13', f13, o13, p13⟩ := (kS.nil (n0 := h8.size) (es := 5) (h := h8)).app (Nat.le_refl _) (x := v1) (bytes := 64) t2 t3 l1 (by rw [oZ]; exact hone _ λ y hy => List.mem_of_mem_take hy) (by omega) (λ m hm => iJ (by simp at hm; omega) 64 (by omega))
 have g13 : aI h8 h13' := dE p13; have hN2 : dT 5 h13'.get (.slc h.size 0 1 1 false) = some (gY (⟨i, T.gen, kind, [], []⟩, .nils)) := by
   have := (o8.grown g13).cells (o := 0) (k := 5) (by simp [gY])
   exact this
 obtain ⟨y2, h15, f15, o15, p15⟩ := o13.app p13.size (x := .slc h.size 0 1 1 false) (k := 1) (bytes := 64) rfl hN2 rfl rfl (by omega) (λ m hm => iJ (by simp only [List.nil_append, l1] at hm; omega) 64 (by omega))
 have K15 : cD h8.size h8 h15 := p13.trans p15; have g15 : aI h8 h15 := dE K15; obtain ⟨k2, t4, t5, t6⟩ := ((w2.grown g8).grown g15).src; have l2 : ((eV xs).drop (lG T.l i * 5)).length = (xs.length - lG T.l i) * 5 := by rw [List.length_drop, cN]; omega
 have hk2 : k2 = xs.length - lG T.l i := by omega
 subst hk2; obtain ⟨y3, h17, f17, o17, p17⟩ := o15.app K15.size (x := v2) (bytes := 64) t5 t6 l2 (by rw [pA]; exact hone _ λ y hy => List.mem_of_mem_drop hy) (by omega) (λ m hm => iJ (by
   simp only [List.nil_append, List.length_append, l1] at hm; have e5 : (gY (⟨i, T.gen, kind, [], []⟩, DV.nils)).length = 5 := rfl; rw [e5] at hm; omega) 64 (by omega))
 have g17 : aI h8 h17 := dE (K15.trans p17); have ecells : [] ++ (eV xs).take (lG T.l i * 5) ++ gY (⟨i, T.gen, kind, [], []⟩, .nils) ++ (eV xs).drop (lG T.l i * 5) = eV (xs.take (lG T.l i) ++ (⟨i, T.gen, kind, [], []⟩, .nils) :: xs.drop (lG T.l i)) := by
   rw [List.nil_append, oZ, pA, kN, pB]; simp
 rw [ecells] at o17; have o1' := (o1.grown g8).grown g17; have o3' := (o3.grown g8).grown g17; obtain ⟨h20, f20, o20, k20⟩ := o1'.set (v := y3) (j := 0) o17.one (by simp)
 have one2 : ([y3, ii T.gen]).all DV.one = true := by simp only [List.all_cons, List.all_nil, o17.one]; rfl
 obtain ⟨h23, f23, o23, k23⟩ := (o3'.but (Ne.symm h13) k20).setAll (n := 2) (cs := [y3, ii T.gen]) h3 rfl one2; have gg : aI h h17 := g8.trans g17; have same : ∀ c, c ≠ b1 -> c ≠ b3 -> c < h.size -> h23.get c = h.get c := λ c c1 c2 c3 => (k23.get c c2).trans ((k20.get c c1).trans (gg.get c c3))
 have size : h.size <= h23.size := by rw [k23.size, k20.size]; exact gg.size
 have row23 : RowE A 5 h23 y3 (eV (xs.take (lG T.l i) ++ (⟨i, T.gen, kind, [], []⟩, .nils) :: xs.drop (lG T.l i))) := by
   have a := o17.row (A := λ c => h8.size <= c) (λ c hc _ => hc)
   exact a.move (by rw [k23.size, k20.size]; exact Nat.le_refl _) (λ c hc _ => (k23.get c (by omega)).trans (k20.get c (by omega))) (λ c hc _ => hA c (by omega))
 have moveA : ∀ x ∈ xs, RowE A 2 h23 x.2 (dY x.1.l) := λ x hx => (rx x hx).move size (λ c hc hc2 => same c (λ e => hA1 (e ▸ hc)) (λ e => hA3 (e ▸ hc)) hc2) λ _ hc _ => hc
 refine ⟨.agg [y3, ii T.gen], h23, ?_, ⟨y3, _, rfl, ?_, row23, λ y hy => ?_⟩, ⟨size, λ c hc => same c (by omega) (by omega) (by omega)⟩⟩
 · unfold aHz; have bld : dL [(ii 0), (ii 0), (ii 0), (.str []), .nils] [(0, 1, ii i), (1, 1, ii T.gen), (2, 1, ii kind)] = some (.agg (gY (⟨i, T.gen, kind, [], []⟩, .nils))) := rfl; have hf : gX (gO [(ii 0), (ii 0), (ii 0), (.str []), .nils] 1) [(0, 5, .agg (gY (⟨i, T.gen, kind, [], []⟩, .nils)))] = some (gY (⟨i, T.gen, kind, [], []⟩, .nils)) := rfl; have rd0 := o1.read (j := 0) (x := s) rfl; have rd1 := o1.read (j := 1) (x := ii T.gen) rfl; have rd8 := (o1.grown g8).read (j := 0) (x := s) rfl; have rd13 := ((o1.grown g8).grown g13).read (j := 0) (x := s) rfl; have rd13' := ((o1.grown g8).grown g13).read (j := 1) (x := ii T.gen) rfl; have rd15 := ((o1.grown g8).grown g15).read (j := 0) (x := s) rfl; have ld20 : aJ 2 h20.get (.ptr b1 0) = some (.agg [y3, ii T.gen]) := o20.all (n := 2) rfl; rw [fa0, aA, rd0, aA, u1, aA, fa1, aA, rd1, aA, bld, aA]; simp only [fT, hf, Option.bind_some, H.pushK_eq]; rw [show h.push (.blk ⟨1 * 5, 5, false, true, Tr.ofL (gY (⟨i, T.gen, kind, [], []⟩, .nils))⟩) = h8 from eh8.symm, aA, rd8, aA, u2, aA, f13, aB, rd13, wH re, eM, rd13', gF, eM, f15, aB, rd15, wH re, eM, f17, aB, aA, f20, aB, ld20, aA, f23, aB, o23.all (n := 2) rfl, aA]
 · show _ = pO T.l _; rw [List.map_append, List.map_cons, List.map_take, List.map_drop, e2]; obtain ⟨s1, s2⟩ := aUS (λ n : bB => decide (n.inode < i)) T.l
   unfold lG pO; rw [s1, s2]
 · rcases List.mem_append.1 hy with hy | hy
   · exact moveA y (List.mem_of_mem_take hy)
   · rcases List.mem_cons.1 hy with rfl | hy
     · exact RowE.nils
     · exact moveA y (List.mem_of_mem_drop hy)
theorem eB.weak {A A' : Nat -> Prop} {h : H} {v : DV} {T : TreeP} (r : eB A h v T) (hA : ∀ c, A c -> c < h.size -> A' c) : eB A' h v T := by
 obtain ⟨s, xs, e1, e2, e3, e4⟩ := r; exact ⟨s, xs, e1, e2, e3.weak hA, λ x hx => (e4 x hx).weak hA⟩
def aBI (B : cB) : Prop := ∀ (A : Nat -> Prop) (v : DV) (T : TreeP) (k : Nat) (p : Ln) (kind : Nat) (h : H), eB A h v T -> Inv k T -> k < 900 -> bA p = true -> p.length < 140737488355328 -> (∀ c, h.size <= c -> A c) ->
 ∃ v' h', B [v, .str p, ii kind] h = some (.tup [v', ii ((mkT T p kind).2)], h') /\ eB A h' v' (mkT T p kind).1 /\ aI h h'
theorem aVl {E : bG} (hP : bP E 120 pM) (hT : bP E 121 pL) (hAt : bP E 122 tL) (hPut : bP E 123 vP) : aBI (S66 E) := by
 obtain ⟨B1, b1, s1⟩ := hP.call; obtain ⟨B2, b2, s2⟩ := hT.call; obtain ⟨B3, b3, s3⟩ := hPut.call; intro A v T k p kind h r hI hk hok hp hA; have r0 := r; obtain ⟨s, xs, rfl, e2, e3, e4⟩ := r; have hs1 := RowE.one e3; have hll := hI.llen; obtain ⟨h2, eh2, g2, o2⟩ := aO h 2 2 [s, ii T.gen] rfl; obtain ⟨h4, eh4, g4, o4⟩ := aO h2 2 2 [.nils, ii 0] rfl; have z2 : h2.size = h.size + 1 := by rw [eh2]; exact H.size_push _ _
 have z4 : h4.size = h2.size + 1 := by rw [eh4]; exact H.size_push _ _
 have o24 := o2.grown g4; obtain ⟨A', hA'⟩ : ∃ A' : Nat -> Prop, A' = λ c => (A c /\ c < h.size) \/ h4.size <= c := ⟨_, rfl⟩
 have back : ∀ c, A' c -> A c := λ c hc => by rw [hA'] at hc; exact hc.elim (·.1) λ x => hA c (by omega)
 have new' : ∀ c, h4.size <= c -> A' c := λ c hc => by rw [hA']; exact .inr hc
 have not1 : ¬ A' h.size := by rw [hA']; rintro (⟨_, x⟩ | x) <;> omega
 have not3 : ¬ A' h2.size := by rw [hA']; rintro (⟨_, x⟩ | x) <;> omega
 have r4 : eB A' h4 (.agg [s, ii T.gen]) T := r0.move (g2.trans g4).size (λ c _ hc => (g2.trans g4).get c hc) (λ c ha hc => by rw [hA']; exact .inl ⟨ha, hc⟩)
 obtain ⟨pl, h7, f7, g7, c7⟩ := s1 A' _ T k p h4 r4 hI hk hp; have G7 := (g2.trans g4).trans g7; have same : ∀ (hh : H) (e : Nat), aI h4 hh -> ∃ h', (vK (aJ 2 hh.get (.ptr h.size 0)) λ x12 => wK (bS 2 (.ptr h2.size 0) x12 hh) λ x13 h14 => vK (aJ 2 h14.get (.ptr h2.size 0)) λ x15 => some ((.tup [x15, ii e]), h14) : aV) = some (.tup [.agg [s, ii T.gen], ii e], h') /\ eB A h' (.agg [s, ii T.gen]) T /\ aI h h' := by
   intro hh e g; have one2 : ([s, ii T.gen]).all DV.one = true := by simp only [List.all_cons, List.all_nil, hs1]; rfl
   obtain ⟨h', q1, q2, q3⟩ := (o4.grown g).setAll (n := 2) (cs := [s, ii T.gen]) rfl rfl one2; have G := q3.grown ((g2.trans g4).trans g) (by omega)
   refine ⟨h', by rw [(o24.grown g).all (n := 2) rfl, aA, q1, aB, q2.all (n := 2) rfl, aA], ?_, G⟩
   exact r0.grown G
 show ∃ v' h', aSq E (.agg [s, ii T.gen]) (.str p) (ii kind) h = _ /\ _; unfold aSq; rw [nbx eh2 rfl, bN, <- eh4, o24.all (n := 2) rfl, aA, b1, f7, aB, aN, aA, aM, aA, mU, aA, bL, aA]; unfold mkT; by_cases he : (bY T p).2.2 = 0
 · obtain ⟨hne, hw, ⟨n, hn, hk1⟩, hnm⟩ := lZ (T := T) (p := p) (d := (bY T p).1) (name := (bY T p).2.1) (by rw [<- he])
   obtain ⟨n', hp1, hg⟩ := eK (c7 he); rw [hn] at hg; cases hg; have hnok := oE hok hne; rw [<- hnm] at hnok; generalize (bY T p).1 = d at *; generalize (bY T p).2.1 = name at *; have hk2 := aCA hI hn hk1; have hlen := (hI.of hn).1.len; obtain ⟨h18, f18, g18⟩ := s2 A' _ T pl n name h7 (r4.grown g7) hp1 (by omega)
   have hth : jT T d name = eP n.l name := by unfold jT; rw [hn]
   rw [if_pos he, he, show (!decide (0 = 0)) = false from rfl, aC, (o24.grown g7).all (n := 2) rfl, aA, b2, f18, aB, hth]
   by_cases hh : eP n.l name = true
   · rw [hh, aD, if_pos rfl]; obtain ⟨h', q1, q2, q3⟩ := same h18 6 (g7.trans g18); exact ⟨_, h', q1, q2, q3⟩
   · rw [Bool.not_eq_true] at hh; rw [hh, aC, if_neg (by simp)]
     obtain ⟨y1, y2, y3, y4⟩ := aAv hI; obtain ⟨h20, f20, g20⟩ := aVm (E := E) hAt hI (s := s) (r2 := ii kind) (r6 := .ptr h2.size 0) (r8 := ii pl) (r9 := .str name) (b := h.size) (jD T.l - 2) 2 (aT - (jD T.l - 2 + 1)) h18 rfl (Nat.le_refl _) y1 ((o24.grown g7).grown g18) ((r4.grown g7).grown g18); rw [show aT - (jD T.l - 2 + 1) + (jD T.l - 2 + 1) = aT from by unfold aT; omega] at f20
     rw [f20]; unfold aMR; have g420 := (g7.trans g18).trans g20; cases hf : aAp T.l with
     | none =>
       have e256 : jD T.l = 256 := by unfold jD; rw [hf]; rfl
       rw [e256, fW, aA, decide_eq_true (Nat.le_refl _), aD]; obtain ⟨h', q1, q2, q3⟩ := same h20 5 g420; exact ⟨_, h', q1, q2, q3⟩
     | some i =>
       have ei : jD T.l = i := by unfold jD; rw [hf]; rfl
       obtain ⟨f1', f2', f3', _⟩ := tC hf; rw [ei, fW, aA, decide_eq_false (by omega), aC]
       have o20 := o24.grown g420; have o420 := o4.grown g420; have z20 := g420.size; obtain ⟨u, h8, f8, r8, g8⟩ := s3 A' _ T pl n name i h20 (r4.grown g420) (by omega) hp1 (by omega) (by omega) f2' hnok.1 hh (λ c hc => new' c (by omega))
       have eset : T.l.set pl (dX (λ l => gD l name i) n) = gI T d name i := by
         rw [yD hI.inc hp1 (dX λ l => gD l name i), (dD hn).2]; rfl
       rw [eset] at r8; obtain ⟨s', xs', eu, e2', e3', e4'⟩ := r8
       replace e2' : xs'.map (·.1) = gI T d name i := e2'
       have eu' : u = .agg [s', ii T.gen] := eu; subst eu'; have hs1' := RowE.one e3'; have one2 : ([s', ii T.gen]).all DV.one = true := by simp only [List.all_cons, List.all_nil, hs1']; rfl
       obtain ⟨h10, f10, o10, k10⟩ := (o20.grown g8).setAll (n := 2) (cs := [s', ii T.gen]) rfl rfl one2; obtain ⟨h16, f16, o16, k16⟩ := o10.set (v := ii ((T.gen + 1))) (j := 1) rfl (by simp)
       have o3' := ((o420.grown g8).but (by omega) k10).but (by omega) k16
       have mv : ∀ {es : Nat} {w : DV} {L : List DV}, RowE A' es h8 w L -> RowE A' es h16 w L := λ x => x.move (by rw [k16.size, k10.size]; exact Nat.le_refl _) (λ c hc _ => (k16.get c (λ e => not1 (e ▸ hc))).trans (k10.get c (λ e => not1 (e ▸ hc)))) λ _ hc _ => hc
       have hxl' : xs'.length <= 255 := by
         have a : (gI T d name i).length = T.l.length := by unfold gI fO; rw [List.length_map]
         have b : xs'.length = (gI T d name i).length := by rw [<- e2', List.length_map]
         omega
       have z8 := g8.size; have z16 : h16.size = h8.size := by rw [k16.size, k10.size]
       have hgen := hI.gen; have pos := aZr (E := E) (r2 := ii kind) (r6 := .ptr h2.size 0) (i := i) (by omega) (mv e3') o16 (lG (xs'.map (·.1)) i) 0 (aT - (lG (xs'.map (·.1)) i + 1)) (by omega) (by omega)
       have hple : lG (xs'.map (·.1)) i <= xs'.length := by
         have := (List.takeWhile_sublist (λ n : bB => decide (n.inode < i)) (l := xs'.map (·.1))).length_le
         rw [List.length_map] at this; exact this
       rw [show aT - (lG (xs'.map (·.1)) i + 1) + (lG (xs'.map (·.1)) i + 1) = aT from by unfold aT; omega] at pos
       obtain ⟨v', h', q1, q2, q3⟩ := aZs (E := E) (A := A') (T := ⟨gI T d name i, T.gen + 1⟩) (kind := kind) (i := i) (n0 := h.size) (by omega) e2' (mv e3') (λ x hx => mv (e4' x hx)) o16 o3' rfl (by omega) not1 not3 (λ c hc => new' c (by omega)) (Nat.le_refl _) (by omega)
       refine ⟨v', h', ?_, q2.weak λ c hc _ => back c hc, ?_⟩
       · have fa1 : aH 1 (.ptr h.size 0) = some (.ptr h.size 1) := by rw [aK]
         rw [o20.all (n := 2) rfl, aA, b3, f8, aB, f10, aB, fa1, aA, o10.read (j := 1) (x := ii T.gen) rfl, aA, bQ (by omega), aA, aA, f16, aB]
         refine pos.trans ?_; rw [e2']; exact q1
       · have K : cD h.size h h16 := ((((g2.trans g4).trans g420).trans g8).keeps (Nat.le_refl _)).trans ((k10.keeps (Nat.le_refl _)).trans (k16.keeps (Nat.le_refl _))); exact dE (K.trans q3)
 · rw [if_neg he]; have d : (!decide ((bY T p).2.2 = 0)) = true := by simp [he]
   rw [d, aD]; obtain ⟨h', q1, q2, q3⟩ := same h7 (bY T p).2.2 g7; exact ⟨_, h', q1, q2, q3⟩
structure Pre (A A' : Nat -> Prop) (h h4 : H) (s : DV) (T : TreeP) : Prop where
 one : s.one = true
 size : h4.size = h.size + 2
 grown : aI h h4
 o1 : bD h4 h.size [s, ii T.gen]
 o3 : bD h4 (h.size + 1) [.nils, ii 0]
 back : ∀ c, A' c -> A c
 new : ∀ c, h4.size <= c -> A' c
 not1 : ¬ A' h.size
 not3 : ¬ A' (h.size + 1)
 ref : eB A' h4 (.agg [s, ii T.gen]) T
theorem uP {A : Nat -> Prop} {h : H} {s : DV} {T : TreeP} (r : eB A h (.agg [s, ii T.gen]) T) (hA : ∀ c, h.size <= c -> A c) :
   ∃ A' h4, (∀ {R : Type} (k : DV -> DV -> H -> Option R), dP (.agg [s, ii T.gen]) h (λ x1 h2 => dN 2 2 (.list [.nils, ii 0]) h2 λ x3 h4 => k x1 x3 h4) = k (.ptr h.size 0) (.ptr (h.size + 1) 0) h4) /\ Pre A A' h h4 s T := by
 have r0 := r; obtain ⟨s', xs, e1, e2, e3, e4⟩ := r; simp only [DV.agg.injEq, List.cons.injEq, and_true] at e1; subst e1; obtain ⟨h2, eh2, g2, o2⟩ := aO h 2 2 [s, ii T.gen] rfl; obtain ⟨h4, eh4, g4, o4⟩ := aO h2 2 2 [.nils, ii 0] rfl; have z2 : h2.size = h.size + 1 := by rw [eh2]; exact H.size_push _ _
 have z4 : h4.size = h2.size + 1 := by rw [eh4]; exact H.size_push _ _
 rw [z2] at o4; refine ⟨λ c => (A c /\ c < h.size) \/ h4.size <= c, h4, λ k => ?_, RowE.one e3, by omega, g2.trans g4, o2.grown g4, o4, λ c hc => hc.elim (·.1) λ x => hA c (by omega), λ c hc => .inr hc, by rintro (⟨_, x⟩ | x) <;> omega, by rintro (⟨_, x⟩ | x) <;> omega, r0.move (g2.trans g4).size (λ c _ hc => (g2.trans g4).get c hc) (λ c ha hc => .inl ⟨ha, hc⟩)⟩
 rw [nbx eh2 rfl, bN, <- eh4, z2]
theorem iS {A A' : Nat -> Prop} {h h4 hh : H} {s s' : DV} {T T' : TreeP} (P : Pre A A' h h4 s T) (hg : cD h.size h4 hh) (o1 : bD hh h.size [s', ii T'.gen]) (o3 : bD hh (h.size + 1) [.nils, ii 0]) (r : eB A' hh (.agg [s', ii T'.gen]) T') (e : Nat) :
   ∃ h', (vK (aJ 2 hh.get (.ptr h.size 0)) λ x12 => wK (bS 2 (.ptr (h.size + 1) 0) x12 hh) λ x13 h14 => vK (aJ 2 h14.get (.ptr (h.size + 1) 0)) λ x15 => some ((.tup [x15, ii e]), h14) : aV) = some (.tup [.agg [s', ii T'.gen], ii e], h') /\ eB A h' (.agg [s', ii T'.gen]) T' /\ aI h h' := by
 have r0 := r; obtain ⟨s2, xs, e1, e2, e3, e4⟩ := r; simp only [DV.agg.injEq, List.cons.injEq, and_true] at e1; subst e1; have hs := RowE.one e3; have one2 : ([s', ii T'.gen]).all DV.one = true := by simp only [List.all_cons, List.all_nil, hs]; rfl
 obtain ⟨h', q1, q2, q3⟩ := o3.setAll (n := 2) (cs := [s', ii T'.gen]) rfl rfl one2; refine ⟨h', by rw [o1.all (n := 2) rfl, aA, q1, aB, q2.all (n := 2) rfl, aA], r0.move (by rw [q3.size]; exact Nat.le_refl _) (λ c hc _ => q3.get c (λ x => P.not3 (x ▸ hc))) (λ c hc _ => P.back c hc), ?_⟩
 exact dE (((P.grown.keeps (Nat.le_refl _)).trans hg).trans (q3.keeps (by omega)))
def xG (f : TreeP -> Ln -> TreeP × Nat) (B : cB) : Prop := ∀ (A : Nat -> Prop) (v : DV) (T : TreeP) (k : Nat) (p : Ln) (h : H), eB A h v T -> Inv k T -> k < 900 -> p.length < 140737488355328 -> (∀ c, h.size <= c -> A c) ->
 ∃ v' h', B [v, .str p] h = some (.tup [v', ii ((f T p).2)], h') /\ eB A h' v' (f T p).1 /\ aI h h'
theorem aVi {E : bG} (hW : bP E 124 jK) (hP : bP E 120 pM) (hK : bP E 125 rQ) (hL : bP E 126 pN) (hG : bP E 127 xH) : xG jL (S67 E) := by
 obtain ⟨B0, b0, s0⟩ := hW.call; obtain ⟨B1, b1, s1⟩ := hP.call; obtain ⟨B2, b2, s2⟩ := hK.call; obtain ⟨B3, b3, s3⟩ := hL.call; obtain ⟨B4, b4, s4⟩ := hG.call; intro A v T k p h r hI hk hp hA; obtain ⟨s, ev, hs⟩ := r.agg; subst ev; obtain ⟨A', h4, epre, P⟩ := uP r hA; have z4 := P.size; have hll := hI.llen; obtain ⟨pl, h7, f7, g7, c7⟩ := s0 A' _ T k p h4 P.ref hI hk hp; have z7 := g7.size; show ∃ v' h', aSp E (.agg [s, ii T.gen]) (.str p) h = _ /\ _; unfold aSp; rw [epre, P.o1.all (n := 2) rfl, aA, b0, f7, aB, aN, aA, aM, aA, bL, aA]; unfold jL; have kp : ∀ {hh : H}, aI h4 hh -> cD h.size h4 hh := λ g => g.keeps (by omega)
 by_cases he : (aR T p).2 = 0
 · obtain ⟨n, hp1, hg⟩ := eK (c7 he); obtain ⟨s', xs, e1, e2, e3, e4⟩ := P.ref.grown g7; simp only [DV.agg.injEq, List.cons.injEq, and_true] at e1; subst e1; obtain ⟨x, hx, rfl⟩ := iH e2 hp1; obtain ⟨bb, o, q1, q2, q3, q4, q5, q6, q7, q8⟩ := gA e3 hx .i64; have fa0 : aH 0 (.ptr h.size 0) = some (.ptr h.size 0) := by rw [aK]
   have rd := (P.o1.grown g7).read (j := 0) (x := s) rfl; have hin := (dD hg).2; rw [if_pos he, he, show (!decide (0 = 0)) = false from rfl, aC, fa0, aA, rd, aA, q1, aA, q2, aA, q5, aA, cJ, aA, iC hg]
   by_cases hk2 : x.1.kind = 2
   · rw [decide_eq_true hk2, aD, if_pos hk2]; obtain ⟨h', y1, y2, y3⟩ := iS P (kp g7) (P.o1.grown g7) (P.o3.grown g7) (P.ref.grown g7) 12; exact ⟨_, h', y1, y2, y3⟩
   · rw [decide_eq_false hk2, aC, if_neg hk2]; have hi1 : (aR T p).1 ≠ 1 := by
       intro hx1; obtain ⟨r1, hr, hrk⟩ := hI.root; rw [hx1, hr] at hg; cases hg; exact hk2 hrk
     obtain ⟨d, m, j1, j2, j3, j4, j5⟩ := nL hI (p := p) (i := (aR T p).1) (by rw [<- he]) hi1
     obtain ⟨dp, h32, f32, g32, c32⟩ := s1 A' _ T k p h7 (P.ref.grown g7) hI hk hp; rw [j1] at f32 c32; obtain ⟨m', hm1, hm2⟩ := eK (c32 rfl); rw [j2] at hm2; cases hm2; have z32 := g32.size; have hmlen := (hI.of j2).1.len; obtain ⟨u, h38, f38, r38, g38⟩ := s2 A' _ T dp m (dM p) h32 ((P.ref.grown g7).grown g32) (by omega) hm1 (by omega) j4 (λ c hc => P.new c (by omega))
     have eset : T.l.set dp (dX (λ l => fS l (dM p)) m) = eA T d (dM p) := by
       rw [yD hI.inc hm1 (dX λ l => fS l (dM p)), (dD j2).2]; rfl
     rw [eset] at r38; obtain ⟨s2', eu, hs2⟩ := r38.agg; subst eu; have one2 : ([s2', ii T.gen]).all DV.one = true := by simp only [List.all_cons, List.all_nil, hs2]; rfl
     have o138 := ((P.o1.grown g7).grown g32).grown g38; have o338 := ((P.o3.grown g7).grown g32).grown g38; obtain ⟨h40, f40, o40, k40⟩ := o138.setAll (n := 2) (cs := [s2', ii T.gen]) rfl rfl one2; have o340 := o338.but (by omega) k40
     have r40 : eB A' h40 (.agg [s2', ii T.gen]) ⟨eA T d (dM p), T.gen⟩ := r38.move (by rw [k40.size]; exact Nat.le_refl _) (λ c hc _ => k40.get c (λ y => P.not1 (y ▸ hc))) (λ c hc _ => hc)
     have hrI := sR hI j2 j3 j4; have hrl := hrI.llen; obtain ⟨h43, f43, g43⟩ := s3 A' _ ⟨eA T d (dM p), T.gen⟩ (aR T p).1 h40 r40 (by omega) (λ n hn => by have := (hrI.ok n hn).len; omega)
     have z38 := g38.size; have z43 := g43.size; have z40 : h40.size = h38.size := k40.size; have K43 : cD h.size h4 h43 := ((kp ((g7.trans g32).trans g38)).trans (k40.keeps (Nat.le_refl _))).trans (g43.keeps (by omega))
     rw [aA, rd, aA, q1, aA, q2, aA, q3, aA, (P.o1.grown g7).all (n := 2) rfl, aA, b1, f32, aB, aN, aA, aM, aA, mU, aA, ((P.o1.grown g7).grown g32).all (n := 2) rfl, aA, b2, f38, aB, f40, aB, o40.all (n := 2) rfl, aA, hin, b3, f43, aB, cJ, aA]; show ∃ v' h', _ = some (DV.tup [v', ii 0], h') /\ eB A h' v' ⟨if aX (eA T (bY T p).1 (bY T p).2.1) (aR T p).1 = 0 then iU (eA T (bY T p).1 (bY T p).2.1) (aR T p).1 else eA T (bY T p).1 (bY T p).2.1, T.gen⟩ /\ aI h h'
     rw [j1]; by_cases hz : aX (eA T d (dM p)) (aR T p).1 = 0
     · obtain ⟨y, hy, _⟩ := jU (d := d) (λ l => fS l (dM p)) hg
       obtain ⟨hym, hyi⟩ := dD hy; obtain ⟨w, h47, f47, r47, g47⟩ := s4 A' _ ⟨eA T d (dM p), T.gen⟩ y h43 (r40.grown g43) hrI.inc (by omega) hym (λ c hc => P.new c (by omega))
       rw [hyi] at f47 r47; obtain ⟨s3', ew, hs3⟩ := r47.agg; subst ew; have one3 : ([s3', ii T.gen]).all DV.one = true := by simp only [List.all_cons, List.all_nil, hs3]; rfl
       obtain ⟨h49, f49, o49, k49⟩ := ((o40.grown g43).grown g47).setAll (n := 2) (cs := [s3', ii T.gen]) rfl rfl one3; have r49 : eB A' h49 (.agg [s3', ii T.gen]) ⟨iU (eA T d (dM p)) (aR T p).1, T.gen⟩ := r47.move (by rw [k49.size]; exact Nat.le_refl _) (λ c hc _ => k49.get c (λ y => P.not1 (y ▸ hc))) (λ c hc _ => hc)
       have o349 := ((o340.grown g43).grown g47).but (by omega) k49
       obtain ⟨h', y1, y2, y3⟩ := iS (T' := ⟨iU (eA T d (dM p)) (aR T p).1, T.gen⟩) P ((K43.trans (g47.keeps (by omega))).trans (k49.keeps (Nat.le_refl _))) o49 o349 r49 0
       rw [decide_eq_true hz, aD]; simp only [if_pos hz]; refine ⟨_, h', ?_, y2, y3⟩; rw [(o40.grown g43).all (n := 2) rfl, aA, b4, f47, aB, f49, aB]; exact y1
     · obtain ⟨h', y1, y2, y3⟩ := iS (T' := ⟨eA T d (dM p), T.gen⟩) P K43 (o40.grown g43) (o340.grown g43) (r40.grown g43) 0; rw [decide_eq_false hz, aC]; simp only [if_neg hz]; exact ⟨_, h', y1, y2, y3⟩
 · rw [if_neg he]; have d : (!decide ((aR T p).2 = 0)) = true := by simp [he]
   rw [d, aD]; obtain ⟨h', y1, y2, y3⟩ := iS P (kp g7) (P.o1.grown g7) (P.o3.grown g7) (P.ref.grown g7) (aR T p).2; exact ⟨_, h', y1, y2, y3⟩
end Go.Proofs.YtmafhiogonejfaaGreatDoor
end
