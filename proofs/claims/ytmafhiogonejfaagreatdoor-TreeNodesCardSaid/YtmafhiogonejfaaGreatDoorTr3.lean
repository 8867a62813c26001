/- The document's trees: what they compute. No condition. -/
import Derived.Test.YtmafhiogonejfaaGreatDoorTr2
import Derived.KernelRfl
set_option linter.unusedVariables false
set_option linter.unusedSimpArgs false
noncomputable section
namespace Go.Proofs.YtmafhiogonejfaaGreatDoor
open Go.DI
structure bD where
 inode : Nat
 gen : Nat
 kind : Nat
 text : Ln
 l : EL
structure TreeP where
 l : List bD
 gen : Nat
abbrev NL := List bD
def bH (L : NL) (i : Nat) : Option bD := L.find? λ n => n.inode == i
def kK (L : NL) : Prop := L.Pairwise λ a b => a.inode < b.inode
def gX (l : EL) (i : Nat) : Nat := l.countP λ e => e.2 == i
def aZ (L : NL) (i : Nat) : Nat := (L.map λ n => gX n.l i).sum
def cR (L : NL) : Nat := (L.map λ n => n.text.length).sum
def fO (L : NL) (i : Nat) (f : bD -> bD) : NL := L.map λ n => if n.inode = i then f n else n
def jE (L : NL) (i : Nat) : NL := L.filter λ n => n.inode != i
def qH (L : NL) (x : bD) : NL := (L.takeWhile λ n => decide (n.inode < x.inode)) ++ x :: L.dropWhile λ n => decide (n.inode < x.inode)
def dU (f : EL -> EL) (n : bD) : bD := { n with l := f n.l }
def fQ (t : Ln) (n : bD) : bD := { n with text := t }
theorem cZ {L : NL} {i : Nat} {n : bD} (h : bH L i = some n) : n ∈ L /\ n.inode = i := by
 unfold bH at h; exact ⟨List.mem_of_find?_eq_some h, by simpa using List.find?_some h⟩
theorem nX {L : NL} (hL : kK L) {n : bD} (hn : n ∈ L) : bH L n.inode = some n := by
 unfold bH
 induction L with
 | nil => cases hn
 | cons x L ih =>
   rw [kK, List.pairwise_cons] at hL; rw [List.find?_cons]; rcases List.mem_cons.1 hn with rfl | hn
   · simp
   · have := hL.1 n hn; have e : (x.inode == n.inode) = false := by rw [beq_eq_false_iff_ne]; omega
     rw [e]; exact ih hL.2 hn
theorem aCa {L : NL} {i : Nat} (h : bH L i = none) : ∀ n ∈ L, n.inode ≠ i := by
 intro n hn e; unfold bH at h; have := List.find?_eq_none.1 h n hn; simp [e] at this
theorem aAU {L : NL} {i : Nat} (h : ∀ n ∈ L, n.inode ≠ i) : bH L i = none := by
 unfold bH; exact List.find?_eq_none.2 λ n hn => by simpa using h n hn
theorem aLp {L : NL} {i : Nat} {f : bD -> bD} {x : bD} : x ∈ fO L i f ↔ ∃ n ∈ L, x = if n.inode = i then f n else n := by
 unfold fO; rw [List.mem_map]; exact ⟨λ ⟨n, h1, h2⟩ => ⟨n, h1, h2.symm⟩, λ ⟨n, h1, h2⟩ => ⟨n, h1, h2.symm⟩⟩
theorem aBZ {L : NL} {i : Nat} {f : bD -> bD} (hf : ∀ n, (f n).inode = n.inode) (j : Nat) : bH (fO L i f) j = (bH L j).map λ n => if j = i then f n else n := by
 induction L with
 | nil => rfl
 | cons x L ih =>
   unfold bH fO at *; rw [List.map_cons, List.find?_cons, List.find?_cons]; have e : ((if x.inode = i then f x else x).inode == j) = (x.inode == j) := by split <;> simp [hf]
   rw [e]; cases hx : x.inode == j with
   | true =>
     rw [beq_iff_eq] at hx; simp only [Option.map_some]; by_cases h : j = i
     · rw [if_pos h, if_pos (hx.trans h)]
     · rw [if_neg h, if_neg (λ h2 => h (hx.symm.trans h2))]
   | false => exact ih
theorem nI {L : NL} {i : Nat} {f : bD -> bD} (hf : ∀ n, (f n).inode = n.inode) (h : kK L) : kK (fO L i f) := by
 unfold kK fO at *; rw [List.pairwise_map]; refine h.imp λ {a b} hab => ?_
 have e : ∀ n : bD, (if n.inode = i then f n else n).inode = n.inode := λ n => by split <;> simp [hf]
 rw [e, e]; exact hab
theorem mF {L : NL} (i j : Nat) : bH (jE L i) j = if j = i then none else bH L j := by
 induction L with
 | nil => simp [bH, jE]
 | cons x L ih =>
   unfold bH jE at *; rw [List.filter_cons]; by_cases hx : x.inode = i
   · have e : (x.inode != i) = false := by simp [hx]
     rw [e, if_neg (by simp)]
     rw [ih, List.find?_cons]; by_cases hj : j = i
     · rw [if_pos hj, if_pos hj]
     · have e2 : (x.inode == j) = false := by rw [beq_eq_false_iff_ne]; omega
       rw [if_neg hj, if_neg hj, e2]
   · have e : (x.inode != i) = true := by simp [hx]
     rw [e, if_pos rfl, List.find?_cons, List.find?_cons]; cases hxj : x.inode == j with
     | true =>
       rw [beq_iff_eq] at hxj; rw [if_neg (by omega)]
     | false => exact ih
theorem aTg {L : NL} (i : Nat) (h : kK L) : kK (jE L i) := List.Pairwise.filter _ h
theorem aLd (L : NL) (x : bD) : (L.takeWhile λ n => decide (n.inode < x.inode)) ++ (L.dropWhile λ n => decide (n.inode < x.inode)) = L := List.takeWhile_append_dropWhile
theorem aAT {L : NL} {x y : bD} : y ∈ qH L x ↔ y = x \/ y ∈ L := by
 unfold qH; rw [List.mem_append, List.mem_cons]
 conv => rhs; rw [<- aLd L x, List.mem_append]
 constructor
 · rintro (h | h | h)
   · exact .inr (.inl h)
   · exact .inl h
   · exact .inr (.inr h)
 · rintro (h | h | h)
   · exact .inr (.inl h)
   · exact .inl h
   · exact .inr (.inr h)
theorem aJe {L : NL} (hL : kK L) (x : bD) : ∀ n ∈ L.dropWhile λ n => decide (n.inode < x.inode), x.inode <= n.inode := by
 induction L with
 | nil => intro n hn; cases hn
 | cons y L ih =>
   rw [kK, List.pairwise_cons] at hL; intro n hn; rw [List.dropWhile_cons] at hn; split at hn
   · exact ih hL.2 n hn
   · rename_i hy; have hy : x.inode <= y.inode := by simpa using hy
     rcases List.mem_cons.1 hn with rfl | hn
     · exact hy
     · have := hL.1 n hn; omega
theorem aHn {L : NL} (hL : kK L) {x : bD} (hx : bH L x.inode = none) : kK (qH L x) := by
 have hne := aCa hx; unfold qH kK; have h1 : ∀ n ∈ L.takeWhile λ n => decide (n.inode < x.inode), n.inode < x.inode := λ n hn => by simpa using nR hn
 have h2 : ∀ n ∈ L.dropWhile λ n => decide (n.inode < x.inode), x.inode < n.inode := λ n hn => by
   have a := aJe hL x n hn; have b := hne n ((List.dropWhile_sublist _).mem hn); omega
 rw [List.pairwise_append]; refine ⟨hL.sublist (List.takeWhile_sublist _), List.pairwise_cons.2 ⟨h2, hL.sublist (List.dropWhile_sublist _)⟩, λ a ha b hb => ?_⟩
 rcases List.mem_cons.1 hb with rfl | hb
 · exact h1 a ha
 · have := h1 a ha; have := h2 b hb; omega
theorem aHp {L : NL} (hL : kK L) {x : bD} (hx : bH L x.inode = none) (j : Nat) : bH (qH L x) j = if j = x.inode then some x else bH L j := by
 have hI := aHn hL hx; split
 · rename_i h; subst h; exact nX hI (aAT.2 (.inl rfl))
 · rename_i h; cases hg : bH L j with
   | none =>
     refine aAU λ n hn => ?_
     rcases aAT.1 hn with rfl | hn
     · exact λ e => h e.symm
     · exact aCa hg n hn
   | some n =>
     obtain ⟨h1, h2⟩ := cZ hg; have := nX hI (aAT.2 (.inr h1)); rw [h2] at this; exact this
theorem aAC (f : bD -> Nat) (L : NL) (x : bD) : ((qH L x).map f).sum = (L.map f).sum + f x := by
 unfold qH
 conv => rhs; rw [<- aLd L x]
 simp only [List.map_append, List.map_cons, List.sum_append, List.sum_cons]; omega
theorem uW (f : bD -> Nat) {L : NL} (hL : kK L) {i : Nat} {n : bD} (hn : bH L i = some n) : ((jE L i).map f).sum + f n = (L.map f).sum := by
 induction L with
 | nil => simp [bH] at hn
 | cons x L ih =>
   have hL' := hL; rw [kK, List.pairwise_cons] at hL'; unfold bH at hn ih; rw [List.find?_cons] at hn; unfold jE at *; rw [List.filter_cons]; cases hx : x.inode == i with
   | true =>
     rw [hx] at hn; cases hn; rw [beq_iff_eq] at hx; have e : (n.inode != i) = false := by simp [hx]
     rw [e, if_neg (by simp)]
     have : (L.filter λ n => n.inode != i) = L := List.filter_eq_self.2 λ m hm => by have := hL'.1 m hm; simp; omega
     rw [this]; simp only [List.map_cons, List.sum_cons]; omega
   | false =>
     rw [hx] at hn; rw [beq_eq_false_iff_ne] at hx; have e : (x.inode != i) = true := by simp [hx]
     rw [e, if_pos rfl]; have := ih hL'.2 hn; simp only [List.map_cons, List.sum_cons]; omega
theorem pO (f : bD -> Nat) {L : NL} (hL : kK L) {i : Nat} {n : bD} (hn : bH L i = some n) (g : bD -> bD) : ((fO L i g).map f).sum + f n = (L.map f).sum + f (g n) := by
 induction L with
 | nil => simp [bH] at hn
 | cons x L ih =>
   have hL' := hL; rw [kK, List.pairwise_cons] at hL'; unfold bH at hn ih; rw [List.find?_cons] at hn; unfold fO at *; rw [List.map_cons]; cases hx : x.inode == i with
   | true =>
     rw [hx] at hn; cases hn; rw [beq_iff_eq] at hx; rw [if_pos hx]; have : (L.map λ n => if n.inode = i then g n else n) = L := by
       conv => rhs; rw [<- List.map_id L]
       refine List.map_congr_left λ m hm => ?_
       have := hL'.1 m hm; rw [if_neg (by omega)]; rfl
     rw [this]; simp only [List.map_cons, List.sum_cons]; omega
   | false =>
     rw [hx] at hn; rw [beq_eq_false_iff_ne] at hx; rw [if_neg hx]; have := ih hL'.2 hn; simp only [List.map_cons, List.sum_cons]; omega
theorem aBV {f : bD -> Nat} {L : NL} {n : bD} (hn : n ∈ L) : f n <= (L.map f).sum := by
 induction L with
 | nil => cases hn
 | cons x L ih =>
   simp only [List.map_cons, List.sum_cons]; rcases List.mem_cons.1 hn with rfl | hn
   · omega
   · have := ih hn; omega
theorem aVY (l : EL) (key : Ln) (n i : Nat) : gX (gD l key n) i = gX l i + if n = i then 1 else 0 := by
 unfold gD gX
 conv => rhs; rw [<- List.take_append_drop (dQ l key) l]
 rw [List.countP_append, List.countP_append, List.countP_cons]; simp only [beq_iff_eq]; omega
theorem aMB {l : EL} {key : Ln} (h : eJ l key = true) (i : Nat) : gX (fU l key) i + (if jK l key = i then 1 else 0) = gX l i := by
 obtain ⟨n, h1, h2⟩ := oI h; rw [h2]; have hlt := (List.getElem?_eq_some_iff.1 h1).1; unfold fU gX
 conv => rhs; rw [<- List.take_append_drop (dQ l key) l]
 have e : l.drop (dQ l key) = (key, n) :: l.drop (dQ l key + 1) := by
   rw [List.drop_eq_getElem_cons hlt]; rw [List.getElem?_eq_getElem hlt] at h1; rw [Option.some.inj h1]
 rw [e, List.countP_append, List.countP_append, List.countP_cons]; simp only [beq_iff_eq]; omega
theorem aDK {l : EL} {key : Ln} {i : Nat} (h : (key, i) ∈ l) : 1 <= gX l i := by
 unfold gX; exact List.countP_pos_iff.2 ⟨(key, i), h, by simp⟩
structure NOk (k g : Nat) (n : bD) : Prop where
 rng : 1 <= n.inode /\ n.inode < 256
 knd : (n.kind = 1 /\ n.l = []) \/ (n.kind = 2 /\ n.text = [])
 srt : gU n.l
 nam : ∀ e ∈ n.l, eD e.1 = true /\ bF e.1 = true /\ 1 <= e.2 /\ e.2 < 256
 txt : bF n.text = true /\ n.text.length <= 16384
 len : n.l.length <= k
 gen : n.gen <= g
structure Inv (k : Nat) (T : TreeP) : Prop where
 inc : kK T.l
 ok : ∀ n ∈ T.l, NOk k T.gen n
 root : ∃ r, bH T.l 1 = some r /\ r.kind = 2
 ent : ∀ i, 1 <= aZ T.l i -> ∃ m, bH T.l i = some m
 one : ∀ i m, bH T.l i = some m -> m.kind = 2 -> aZ T.l i <= 1
 rt0 : aZ T.l 1 = 0
 tot : cR T.l <= 65536
 gen : T.gen <= k
theorem NOk.mono {k k' g g' : Nat} {n : bD} (h : NOk k g n) (hk : k <= k') (hg : g <= g') : NOk k' g' n :=
 ⟨h.rng, h.knd, h.srt, h.nam, h.txt, Nat.le_trans h.len hk, Nat.le_trans h.gen hg⟩
theorem Inv.mono {k k' : Nat} {T : TreeP} (h : Inv k T) (hk : k <= k') : Inv k' T :=
 ⟨h.inc, λ n hn => (h.ok n hn).mono hk (Nat.le_refl _), h.root, h.ent, h.one, h.rt0, h.tot, Nat.le_trans h.gen hk⟩
theorem Inv.of {k : Nat} {T : TreeP} (h : Inv k T) {i : Nat} {n : bD} (hn : bH T.l i = some n) : NOk k T.gen n /\ n.inode = i := ⟨h.ok n (cZ hn).1, (cZ hn).2⟩
theorem xF {L : NL} {n : bD} (hn : n ∈ L) {key : Ln} {i : Nat} (he : (key, i) ∈ n.l) : 1 <= aZ L i :=
 Nat.le_trans (aDK he) (aBV (f := λ n => gX n.l i) hn)
def eP (L : NL) : List (Ln) -> Nat -> Nat × Nat
 | [], at_ => (at_, 0)
 | n :: ns, at_ => match bH L at_ with
   | some nd => if nd.kind = 1 then (0, 13) else if eJ nd.l n then eP L ns (jK nd.l n) else (0, 7)
   | none => (0, 7)
theorem aAt {k : Nat} {T : TreeP} (h : Inv k T) : ∀ (ns : List (Ln)) (at_ i : Nat) {m : bD}, bH T.l at_ = some m -> eP T.l ns at_ = (i, 0) -> ∃ n, bH T.l i = some n
 | [], at_, i, m, hm, e => by
   simp only [eP, Prod.mk.injEq, and_true] at e; subst e; exact ⟨m, hm⟩
 | n :: ns, at_, i, m, hm, e => by
   simp only [eP, hm] at e; split at e
   · cases e
   · split at e
     · rename_i hh; obtain ⟨m', hm'⟩ := h.ent _ (xF (cZ hm).1 (mC hh)); exact aAt h ns _ i hm' e
     · cases e
def aV (T : TreeP) (p : Ln) : Nat × Nat := if eI p = 0 then eP T.l (aO p) 1 else (0, eI p)
theorem oH {k : Nat} {T : TreeP} (h : Inv k T) {p : Ln} {i : Nat} (e : aV T p = (i, 0)) : eI p = 0 /\ eP T.l (aO p) 1 = (i, 0) /\ ∃ n, bH T.l i = some n := by
 unfold aV at e; split at e
 · rename_i h0; obtain ⟨r, hr, _⟩ := h.root; exact ⟨h0, e, aAt h _ _ _ hr e⟩
 · rename_i h0; simp only [Prod.mk.injEq] at e; exact absurd e.2 h0
def bT (T : TreeP) (p : Ln) : Nat × Ln × Nat :=
 if aO p = [] then (0, [], 15) else
   if (eP T.l ((aO p).take ((aO p).length - 1)) 1).2 = 0 then
     match bH T.l (eP T.l ((aO p).take ((aO p).length - 1)) 1).1 with
     | some n => if n.kind = 1 then (0, [], 13) else ((eP T.l ((aO p).take ((aO p).length - 1)) 1).1, dJ p, 0)
     | none => (0, [], 13)
   else (0, [], (eP T.l ((aO p).take ((aO p).length - 1)) 1).2)
theorem mM {T : TreeP} {p : Ln} {d : Nat} {name : Ln} (e : bT T p = (d, name, 0)) :
   aO p ≠ [] /\ eP T.l ((aO p).take ((aO p).length - 1)) 1 = (d, 0) /\ (∃ n, bH T.l d = some n /\ n.kind ≠ 1) /\ name = dJ p := by
 unfold bT at e; split at e
 · cases e
 · rename_i hne; split at e
   · rename_i h0; split at e
     · rename_i n hn; split at e
       · cases e
       · rename_i hk; simp only [Prod.mk.injEq, and_true] at e; obtain ⟨rfl, rfl⟩ := e; exact ⟨hne, by rw [<- h0], ⟨n, hn, hk⟩, rfl⟩
     · cases e
   · rename_i h0; simp only [Prod.mk.injEq] at e; exact absurd e.2.2 h0
theorem sS (L : NL) : ∀ (a b : List (Ln)) (i j : Nat), eP L a i = (j, 0) -> eP L (a ++ b) i = eP L b j
 | [], b, i, j, e => by
   simp only [eP, Prod.mk.injEq, and_true] at e; subst e; rfl
 | n :: a, b, i, j, e => by
   simp only [eP, List.cons_append] at e ⊢; split at e
   · rename_i nd hn; split at e
     · cases e
     · rename_i hk; split at e
       · rename_i hh; rw [if_neg hk, if_pos hh]; exact sS L a b _ j e
       · cases e
   · cases e
theorem aBw (L : NL) : ∀ (a b : List (Ln)) (i : Nat), (eP L a i).2 ≠ 0 -> (eP L (a ++ b) i) = eP L a i
 | [], b, i, e => absurd rfl e
 | n :: a, b, i, e => by
   simp only [eP, List.cons_append] at e ⊢; split
   · rename_i nd hn; rw [hn] at e; simp only at e; by_cases hk : nd.kind = 1
     · rw [if_pos hk, if_pos hk]
     · rw [if_neg hk] at e ⊢; rw [if_neg hk]; by_cases hh : eJ nd.l n = true
       · rw [if_pos hh] at e ⊢; rw [if_pos hh]; exact aBw L a b _ e
       · rw [if_neg hh, if_neg hh]
   · rfl
theorem nF {l : List (Ln)} (h : l ≠ []) : l = l.take (l.length - 1) ++ [l.getD (l.length - 1) []] := by
 have hp : 0 < l.length := List.length_pos_iff.2 h
 conv => lhs; rw [<- List.take_append_drop (l.length - 1) l]
 congr 1
 rw [List.drop_eq_getElem_cons (by omega), List.drop_of_length_le (by omega)]
 simp [List.getD, List.getElem?_eq_getElem (show l.length - 1 < l.length by omega)]
theorem oG {k : Nat} {T : TreeP} (h : Inv k T) {p : Ln} {i : Nat} (e : aV T p = (i, 0)) (hi : i ≠ 1) : ∃ d n, bT T p = (d, dJ p, 0) /\ bH T.l d = some n /\ n.kind = 2 /\ eJ n.l (dJ p) = true /\ jK n.l (dJ p) = i := by
 obtain ⟨h0, hw, m, hm⟩ := oH h e; have hne : aO p ≠ [] := by
   intro hh; rw [hh] at hw; simp only [eP, Prod.mk.injEq, and_true] at hw; exact hi hw.symm
 have hs := nF hne; cases hpre : eP T.l ((aO p).take ((aO p).length - 1)) 1 with
 | mk d e1 =>
   by_cases he1 : e1 = 0
   · subst he1; obtain ⟨r, hr, _⟩ := h.root; obtain ⟨n, hn⟩ := aAt h _ _ _ hr hpre; have hw2 := hw; rw [hs, sS T.l _ _ _ _ hpre] at hw2; simp only [eP, hn] at hw2; split at hw2
     · cases hw2
     · rename_i hk; split at hw2
       · rename_i hh; simp only [Prod.mk.injEq, and_true] at hw2; have hk2 : n.kind = 2 := by
           rcases (h.of hn).1.knd with ⟨x, _⟩ | ⟨x, _⟩
           · exact absurd x hk
           · exact x
         refine ⟨d, n, ?_, hn, hk2, hh, hw2⟩; unfold bT; rw [if_neg hne, hpre]; simp only [if_true, hn]; rw [if_neg hk]
       · cases hw2
   · have := aBw T.l ((aO p).take ((aO p).length - 1)) [(aO p).getD ((aO p).length - 1) []] 1 (by rw [hpre]; exact he1)
     rw [<- hs, hw, hpre] at this; simp only [Prod.mk.injEq] at this; exact absurd this.2.symm he1
def kF (T : TreeP) (d : Nat) (name : Ln) : Bool := match bH T.l d with
 | some n => eJ n.l name
 | none => false
def aAW (L : NL) : Option Nat := (List.range' 2 254).find? λ i => (bH L i).isNone
def gI (T : TreeP) (d : Nat) (name : Ln) (i : Nat) : NL := fO T.l d (dU λ l => gD l name i)
def dW (T : TreeP) (d : Nat) (name : Ln) : NL := fO T.l d (dU λ l => fU l name)
def mkT (T : TreeP) (p : Ln) (kind : Nat) : TreeP × Nat :=
 if (bT T p).2.2 = 0 then
   if kF T (bT T p).1 (bT T p).2.1 then (T, 6) else
     match aAW T.l with
     | some i => (⟨qH (gI T (bT T p).1 (bT T p).2.1 i) ⟨i, T.gen + 1, kind, [], []⟩, T.gen + 1⟩, 0)
     | none => (T, 5)
 else (T, (bT T p).2.2)
def aHm (T : TreeP) (i : Nat) : Nat := match bH T.l i with
 | some n => n.kind
 | none => 0
def kR (T : TreeP) (p : Ln) : TreeP × Nat :=
 if (aV T p).2 = 0 then
   if aHm T (aV T p).1 = 2 then (T, 12) else
     (⟨if aZ (dW T (bT T p).1 (bT T p).2.1) (aV T p).1 = 0 then jE (dW T (bT T p).1 (bT T p).2.1) (aV T p).1 else dW T (bT T p).1 (bT T p).2.1, T.gen⟩, 0)
 else (T, (aV T p).2)
def aHa (T : TreeP) (i : Nat) : Nat := match bH T.l i with
 | some n => n.l.length
 | none => 0
def nG (T : TreeP) (p : Ln) : TreeP × Nat :=
 if (aV T p).2 = 0 then
   if aHm T (aV T p).1 = 1 then (T, 13) else if (aV T p).1 = 1 then (T, 1) else if 0 < aHa T (aV T p).1 then (T, 14) else
     (⟨jE (dW T (bT T p).1 (bT T p).2.1) (aV T p).1, T.gen⟩, 0)
 else (T, (aV T p).2)
def kW (T : TreeP) (p o : Ln) : TreeP × Nat :=
 if (aV T p).2 = 0 then
   if (bT T o).2.2 = 0 then
     if (aV T p).1 = 1 \/ nQ p o = true then (T, 1) else if aO p = aO o then (T, 0) else if kF T (bT T o).1 (bT T o).2.1 then (T, 6) else
       (⟨gI ⟨dW T (bT T p).1 (bT T p).2.1, T.gen⟩ (bT T o).1 (bT T o).2.1 (aV T p).1, T.gen⟩, 0)
   else (T, (bT T o).2.2)
 else (T, (aV T p).2)
def rW (T : TreeP) (p o : Ln) : TreeP × Nat :=
 if (aV T p).2 = 0 then
   if (bT T o).2.2 = 0 then
     if aHm T (aV T p).1 = 2 then (T, 12) else if kF T (bT T o).1 (bT T o).2.1 then (T, 6) else if 100 <= aZ T.l (aV T p).1 then (T, 5) else
       (⟨gI T (bT T o).1 (bT T o).2.1 (aV T p).1, T.gen⟩, 0)
   else (T, (bT T o).2.2)
 else (T, (aV T p).2)
theorem rV {L : NL} (hL : kK L) {d : Nat} {n : bD} (hn : bH L d = some n) (name : Ln) (i j : Nat) : aZ (fO L d (dU λ l => gD l name i)) j = aZ L j + if i = j then 1 else 0 := by
 have := pO (λ n => gX n.l j) hL hn (dU λ l => gD l name i)
 have e : gX (dU (λ l => gD l name i) n).l j = gX n.l j + if i = j then 1 else 0 := aVY n.l name i j
 unfold aZ; rw [e] at this; omega
theorem kZ {L : NL} (hL : kK L) {d : Nat} {n : bD} (hn : bH L d = some n) {name : Ln} (hh : eJ n.l name = true) (j : Nat) : aZ (fO L d (dU λ l => fU l name)) j + (if jK n.l name = j then 1 else 0) = aZ L j := by
 have := pO (λ n => gX n.l j) hL hn (dU λ l => fU l name)
 have e : gX (dU (λ l => fU l name) n).l j + (if jK n.l name = j then 1 else 0) = gX n.l j := aMB hh j
 unfold aZ; omega
theorem kS {L : NL} (hL : kK L) {d : Nat} {n : bD} (hn : bH L d = some n) (f : EL -> EL) : cR (fO L d (dU f)) = cR L := by
 have := pO (λ n => n.text.length) hL hn (dU f)
 have e : (dU f n).text.length = n.text.length := rfl; unfold cR; rw [e] at this; omega
theorem kC (f : EL -> EL) (n : bD) : (dU f n).inode = n.inode := rfl
theorem tR {L : NL} {i : Nat} (h : aAW L = some i) : 2 <= i /\ i < 256 /\ bH L i = none /\ ∀ j, 2 <= j -> j < i -> ∃ n, bH L j = some n := by
 unfold aAW at h; have h1 := List.mem_of_find?_eq_some h; have h2 := List.find?_some h; rw [List.mem_range'_1] at h1; refine ⟨h1.1, by omega, by simpa using h2, λ j hj1 hj2 => ?_⟩
 rw [List.find?_range'_eq_some] at h; have := h.2.2 j hj1 hj2; cases hg : bH L j with
 | none => rw [hg] at this; simp at this
 | some n => exact ⟨n, rfl⟩
theorem mN {L : NL} {d : Nat} (f : EL -> EL) (j : Nat) : bH (fO L d (dU f)) j = (bH L j).map λ n => if j = d then dU f n else n := aBZ (kC f) j
theorem kH {L : NL} {d j : Nat} (f : EL -> EL) {n : bD} (h : bH L j = some n) : ∃ m, bH (fO L d (dU f)) j = some m /\ m.kind = n.kind /\ m.inode = n.inode /\ m.gen = n.gen /\ m.text = n.text := by
 rw [mN, h]; refine ⟨_, rfl, ?_⟩; split <;> exact ⟨rfl, rfl, rfl, rfl⟩
theorem aAD {L : NL} {d j : Nat} (f : EL -> EL) {m : bD} (h : bH (fO L d (dU f)) j = some m) : ∃ n, bH L j = some n /\ m.kind = n.kind := by
 rw [mN] at h; cases hn : bH L j with
 | none => rw [hn] at h; cases h
 | some n =>
   rw [hn] at h; simp only [Option.map_some, Option.some.injEq] at h; subst h; exact ⟨n, rfl, by split <;> rfl⟩
theorem tM : ∀ {s : Ln}, bF s = true -> ∀ p ∈ cN s, bF p = true
 | [], _, p, h => by simp [cN] at h; subst h; rfl
 | c :: s, hs, p, h => by
   simp only [bF, Bool.and_eq_true] at hs; rw [cN] at h; split at h
   · rcases List.mem_cons.1 h with rfl | h
     · rfl
     · exact tM hs.2 p h
   · split at h
     · simp at h; subst h; simp [bF, hs.1]
     · rename_i q r hq; rcases List.mem_cons.1 h with rfl | h
       · simp only [bF, Bool.and_eq_true]; exact ⟨hs.1, tM hs.2 q (by rw [hq]; simp)⟩
       · exact tM hs.2 p (by rw [hq]; simp [h])
theorem wP : ∀ {ps out r : List (Ln)}, (∀ n ∈ out, bF n = true) -> (∀ n ∈ ps, bF n = true) -> dV out ps = some r -> ∀ n ∈ r, bF n = true
 | [], out, r, h1, _, e => by
   simp only [dV, Option.some.injEq] at e; subst e; exact h1
 | p :: ps, out, r, h1, h2, e => by
   have h3 : ∀ n ∈ ps, bF n = true := λ n hn => h2 n (by simp [hn])
   rw [dV] at e; split at e
   · exact wP h1 h3 e
   · split at e
     · exact wP (λ n hn => h1 n (List.mem_of_mem_take hn)) h3 e
     · split at e
       · refine wP (λ n hn => ?_) h3 e
         rcases List.mem_append.1 hn with hn | hn
         · exact h1 n hn
         · simp at hn; subst hn; exact h2 n (by simp)
       · cases e
theorem bCq {p : Ln} (hp : bF p = true) : ∀ n ∈ aO p, eD n = true /\ bF n = true := by
 intro n hn; refine ⟨(iA p).1 n hn, ?_⟩; unfold aO at hn; cases hs : jA p with
 | none => rw [hs] at hn; cases hn
 | some l =>
   rw [hs] at hn; unfold jA at hs; split at hs
   · cases hs
   · exact wP (λ n hn => by cases hn) (tM (zI hp 1)) hs n hn
theorem pA {p : Ln} (hp : bF p = true) (h : aO p ≠ []) : eD (dJ p) = true /\ bF (dJ p) = true := by
 refine bCq hp _ ?_; unfold dJ; have hl : 0 < (aO p).length := List.length_pos_iff.2 h; simp only [List.getD, List.getElem?_eq_getElem (show (aO p).length - 1 < (aO p).length by omega), Option.getD_some]
 exact List.getElem_mem _
theorem NOk.add {k g : Nat} {n : bD} (h : NOk k g n) (hk : n.kind = 2) {name : Ln} {i : Nat} (h1 : eD name = true) (h2 : bF name = true) (h3 : 1 <= i /\ i < 256) (h4 : eJ n.l name = false) : NOk (k + 1) g (dU (λ l => gD l name i) n) where
 rng := h.rng
 knd := by
   rcases h.knd with ⟨x, _⟩ | x
   · rw [hk] at x; cases x
   · exact .inr x
 srt := aMO h.srt h4
 nam := λ e he => by
   rcases aWj.1 he with rfl | he
   · exact ⟨h1, h2, h3.1, h3.2⟩
   · exact h.nam e he
 txt := h.txt
 len := by show (gD n.l name i).length <= _; rw [aDo]; have := h.len; omega
 gen := h.gen
theorem NOk.rem {k g : Nat} {n : bD} (h : NOk k g n) (hk : n.kind = 2) (name : Ln) : NOk k g (dU (λ l => fU l name) n) where
 rng := h.rng
 knd := by
   rcases h.knd with ⟨x, _⟩ | x
   · rw [hk] at x; cases x
   · exact .inr x
 srt := aLE h.srt name
 nam := λ e he => h.nam e (aLD he)
 txt := h.txt
 len := by
   show (fU n.l name).length <= _; have := h.len; unfold fU; rw [List.length_append, List.length_take, List.length_drop]; omega
 gen := h.gen
theorem aNQ {k g : Nat} {L : NL} (hL : kK L) {d : Nat} {n : bD} (hn : bH L d = some n) {f : EL -> EL} (h : ∀ m ∈ L, NOk k g m) (hf : NOk k g (dU f n)) : ∀ m ∈ fO L d (dU f), NOk k g m := by
 intro m hm; obtain ⟨x, hx, rfl⟩ := aLp.1 hm; split
 · rename_i e; have := nX hL hx; rw [e, hn] at this; cases this; exact hf
 · exact h x hx
theorem aDa {k : Nat} {T : TreeP} (h : Inv k T) {i : Nat} {n : bD} (hn : bH T.l i = some n) (hk : n.kind ≠ 1) : n.kind = 2 := by
 rcases (h.of hn).1.knd with ⟨x, _⟩ | ⟨x, _⟩
 · exact absurd x hk
 · exact x
theorem jL {T : TreeP} {i : Nat} {n : bD} (hn : bH T.l i = some n) : aHm T i = n.kind := by unfold aHm; rw [hn]
theorem uT {T : TreeP} {d : Nat} {name : Ln} {n : bD} (hn : bH T.l d = some n) (h : ¬ kF T d name = true) : eJ n.l name = false := by
 unfold kF at h; rw [hn] at h; simpa using h
theorem aQt {k : Nat} {T : TreeP} (h : Inv k T) {p : Ln} (hp : bF p = true) {kind : Nat} (hkd : kind = 1 \/ kind = 2) : Inv (k + 1) (mkT T p kind).1 := by
 unfold mkT; split
 · rename_i e0; obtain ⟨hne, hw, ⟨n, hn, hk1⟩, hnm⟩ := mM (T := T) (p := p) (d := (bT T p).1) (name := (bT T p).2.1) (by rw [<- e0])
   generalize (bT T p).1 = d at *; generalize (bT T p).2.1 = name at *; have hk2 := aDa h hn hk1; split
   · exact h.mono (by omega)
   · rename_i hth; have hh := uT hn hth; have hnok := pA hp hne; rw [<- hnm] at hnok; split
     · rename_i i hi; obtain ⟨f1, f2, f3, _⟩ := tR hi; have hset := aNQ (k := k + 1) (g := T.gen + 1) h.inc hn (f := λ l => gD l name i) (λ m hm => (h.ok m hm).mono (by omega) (by omega)) ((((h.of hn).1.add hk2 hnok.1 hnok.2 ⟨by omega, f2⟩ hh).mono (Nat.le_refl _) (by omega)))
       have hinc := nI (i := d) (kC λ l => gD l name i) h.inc
       have hfree : bH (gI T d name i) i = none := by
         unfold gI; rw [mN, f3]; rfl
       have hl : ∀ j, aZ (qH (gI T d name i) ⟨i, T.gen + 1, kind, [], []⟩) j = aZ T.l j + if i = j then 1 else 0 := λ j => by
         have := aAC (λ n => gX n.l j) (gI T d name i) ⟨i, T.gen + 1, kind, [], []⟩
         have e : gX ([] : EL) j = 0 := rfl; unfold aZ; rw [this, e]; exact rV h.inc hn name i j
       have hgi : ∀ j, bH (qH (gI T d name i) ⟨i, T.gen + 1, kind, [], []⟩) j = if j = i then some ⟨i, T.gen + 1, kind, [], []⟩ else bH (gI T d name i) j := λ j => aHp (L := gI T d name i) (x := ⟨i, T.gen + 1, kind, [], []⟩) hinc hfree j
       refine ⟨aHn hinc hfree, λ m hm => ?_, ?_, λ j hj => ?_, λ j m hm hkm => ?_, ?_, ?_, by show T.gen + 1 <= k + 1; have := h.gen; omega⟩
       · rcases aAT.1 hm with rfl | hm
         · exact ⟨⟨by show 1 <= i; omega, f2⟩, hkd.elim (λ e => .inl ⟨e, rfl⟩) (λ e => .inr ⟨e, rfl⟩), List.Pairwise.nil, (λ e he => by cases he), ⟨rfl, by simp⟩, by simp, Nat.le_refl _⟩
         · exact hset m hm
       · obtain ⟨r, hr, hrk⟩ := h.root; obtain ⟨m, hm, hmk, _⟩ := kH (d := d) (λ l => gD l name i) hr
         exact ⟨m, (hgi 1).trans (by rw [if_neg (by omega)]; exact hm), by rw [hmk]; exact hrk⟩
       · change 1 <= aZ (qH (gI T d name i) ⟨i, T.gen + 1, kind, [], []⟩) j at hj; rw [hl] at hj; by_cases hji : j = i
         · exact ⟨_, (hgi j).trans (if_pos hji)⟩
         · rw [if_neg (λ x => hji x.symm)] at hj
           obtain ⟨m, hm⟩ := h.ent j (by omega)
           obtain ⟨m', hm', _⟩ := kH (d := d) (λ l => gD l name i) hm
           exact ⟨m', (hgi j).trans (by rw [if_neg hji]; exact hm')⟩
       · show aZ (qH (gI T d name i) ⟨i, T.gen + 1, kind, [], []⟩) j <= 1; rw [hl]
         replace hm := (hgi j).symm.trans hm
         by_cases hji : j = i
         · subst hji; have : aZ T.l j = 0 := by
             rcases Nat.lt_or_ge 0 (aZ T.l j) with hx | hx
             · obtain ⟨y, hy⟩ := h.ent j hx; rw [f3] at hy; cases hy
             · omega
           rw [this]; simp
         · rw [if_neg hji] at hm; obtain ⟨x, hx, hxk⟩ := aAD _ hm; rw [if_neg (λ y => hji y.symm)]
           exact h.one j x hx (by rw [<- hxk]; exact hkm)
       · show aZ (qH (gI T d name i) ⟨i, T.gen + 1, kind, [], []⟩) 1 = 0; rw [hl, h.rt0, if_neg (by omega)]
       · have := aAC (λ n => n.text.length) (gI T d name i) ⟨i, T.gen + 1, kind, [], []⟩
         show cR _ <= _; unfold cR; rw [this]; have e := kS h.inc hn (λ l => gD l name i)
         unfold cR at e; show ((gI T d name i).map λ n => n.text.length).sum + 0 <= _
         unfold gI; rw [e]; have := h.tot; unfold cR at this; omega
     · exact h.mono (by omega)
 · exact h.mono (by omega)
theorem tG {k : Nat} {T : TreeP} (h : Inv k T) {d : Nat} {n : bD} (hn : bH T.l d = some n) (hk : n.kind = 2) {name : Ln} (hh : eJ n.l name = true) : Inv k ⟨dW T d name, T.gen⟩ where
 inc := nI (kC _) h.inc
 ok := aNQ h.inc hn (f := λ l => fU l name) h.ok ((h.of hn).1.rem hk name)
 root := by
   obtain ⟨r, hr, hrk⟩ := h.root; obtain ⟨m, hm, hmk, _⟩ := kH (d := d) (λ l => fU l name) hr
   exact ⟨m, hm, by rw [hmk]; exact hrk⟩
 ent := λ i hi => by
   have := kZ h.inc hn hh i; change 1 <= aZ (fO T.l d (dU λ l => fU l name)) i at hi
   obtain ⟨m, hm⟩ := h.ent i (by omega)
   obtain ⟨m', hm', _⟩ := kH (d := d) (λ l => fU l name) hm
   exact ⟨m', hm'⟩
 one := λ i m hm hkm => by
   obtain ⟨x, hx, hxk⟩ := aAD _ hm; have := h.one i x hx (by rw [<- hxk]; exact hkm)
   have := kZ h.inc hn hh i; show aZ (fO T.l d (dU λ l => fU l name)) i <= 1
   omega
 rt0 := by
   have := kZ h.inc hn hh 1; have := h.rt0; show aZ (fO T.l d (dU λ l => fU l name)) 1 = 0
   omega
 tot := by
   show cR (fO T.l d (dU λ l => fU l name)) <= _
   rw [kS h.inc hn]; exact h.tot
 gen := h.gen
theorem aQE {k : Nat} {T : TreeP} (h : Inv k T) {i : Nat} {n : bD} (hn : bH T.l i = some n) (hl : n.l = []) (h0 : aZ T.l i = 0) (h1 : i ≠ 1) : Inv k ⟨jE T.l i, T.gen⟩ := by
 have hlk : ∀ j, aZ (jE T.l i) j = aZ T.l j := λ j => by
   have := uW (λ n => gX n.l j) h.inc hn
   have e : gX n.l j = 0 := by rw [hl]; rfl
   unfold aZ; rw [e] at this; omega
 refine ⟨aTg i h.inc, λ m hm => h.ok m (List.mem_filter.1 hm).1, ?_, λ j hj => ?_, λ j m hm hkm => ?_, ?_, ?_, h.gen⟩
 · obtain ⟨r, hr, hrk⟩ := h.root; exact ⟨r, by rw [mF, if_neg (λ x => h1 x.symm)]; exact hr, hrk⟩
 · change 1 <= aZ (jE T.l i) j at hj; rw [hlk] at hj; obtain ⟨m, hm⟩ := h.ent j hj; exact ⟨m, by rw [mF, if_neg (λ x => by subst x; omega)]; exact hm⟩
 · show aZ (jE T.l i) j <= 1; rw [hlk]; rw [mF] at hm; split at hm
   · cases hm
   · exact h.one j m hm hkm
 · show aZ (jE T.l i) 1 = 0; rw [hlk]; exact h.rt0
 · have := uW (λ n => n.text.length) h.inc hn
   show cR (jE T.l i) <= _; have := h.tot; unfold cR at *; omega
theorem aKU {k : Nat} {T : TreeP} (h : Inv k T) (p : Ln) : Inv k (kR T p).1 := by
 unfold kR; split
 · rename_i e0; obtain ⟨_, _, n, hn⟩ := oH h (p := p) (i := (aV T p).1) (by rw [<- e0])
   split
   · exact h
   · rename_i hk; rw [jL hn] at hk; have hi : (aV T p).1 ≠ 1 := by
       intro hx; obtain ⟨r, hr, hrk⟩ := h.root; rw [hx, hr] at hn; cases hn; exact hk hrk
     obtain ⟨d, m, q1, q2, q3, q4, q5⟩ := oG h (p := p) (i := (aV T p).1) (by rw [<- e0]) hi
     rw [q1]; have hr := tG h q2 q3 q4; show Inv k ⟨if aZ (dW T d (dJ p)) (aV T p).1 = 0 then jE (dW T d (dJ p)) (aV T p).1 else dW T d (dJ p), T.gen⟩
     split
     · rename_i h0; obtain ⟨n', hn', hk', _⟩ := kH (d := d) (λ l => fU l (dJ p)) hn
       have hkk : n'.kind = 1 := by
         rcases (h.of hn).1.knd with ⟨x, _⟩ | ⟨x, _⟩
         · rw [hk']; exact x
         · exact absurd x hk
       have hl' : n'.l = [] := by
         rcases (hr.of hn').1.knd with ⟨_, x⟩ | ⟨x, _⟩
         · exact x
         · rw [hkk] at x; cases x
       exact aQE hr hn' hl' h0 hi
     · exact hr
 · exact h
theorem aOg {k : Nat} {T : TreeP} (h : Inv k T) (p : Ln) : Inv k (nG T p).1 := by
 unfold nG; split
 · rename_i e0; obtain ⟨_, _, n, hn⟩ := oH h (p := p) (i := (aV T p).1) (by rw [<- e0])
   split
   · exact h
   · rename_i hk; rw [jL hn] at hk; split
     · exact h
     · rename_i hi; split
       · exact h
       · rename_i hsz; obtain ⟨d, m, q1, q2, q3, q4, q5⟩ := oG h (p := p) (i := (aV T p).1) (by rw [<- e0]) hi
         rw [q1]; have hr := tG h q2 q3 q4; have hnl : n.l = [] := by
           unfold aHa at hsz; rw [hn] at hsz; exact List.eq_nil_of_length_eq_zero (by simpa using hsz)
         have hk2 := aDa h hn hk; have h1 := h.one _ n hn hk2; have hlk := kZ h.inc q2 q4 (aV T p).1; rw [q5, if_pos rfl] at hlk; have hne : (aV T p).1 ≠ d := by
           intro hx; rw [hx] at hn; rw [hn] at q2; cases q2; rw [hnl] at q4; simp [eJ] at q4
         have hn' : bH (dW T d (dJ p)) (aV T p).1 = some n := by
           unfold dW; rw [mN, hn]; simp only [Option.map_some]; rw [if_neg hne]
         have h0 : aZ (dW T d (dJ p)) (aV T p).1 = 0 := by
           unfold dW; omega
         exact aQE hr hn' hnl h0 hi
 · exact h
theorem aQZ {k : Nat} {T : TreeP} (h : Inv k T) {d i : Nat} {n x : bD} (hn : bH T.l d = some n) (hk : n.kind = 2) {name : Ln} (h1 : eD name = true) (h2 : bF name = true) (hh : eJ n.l name = false) (hx : bH T.l i = some x) (hxk : x.kind = 2 -> aZ T.l i = 0) (hi : i ≠ 1) : Inv (k + 1) ⟨gI T d name i, T.gen⟩ := by
 have hl := rV h.inc hn name i; have hrng := (h.of hx).1.rng; rw [(h.of hx).2] at hrng; refine ⟨nI (kC _) h.inc, aNQ h.inc hn (λ m hm => (h.ok m hm).mono (by omega) (Nat.le_refl _)) ((h.of hn).1.add hk h1 h2 hrng hh), ?_, λ j hj => ?_, λ j m hm hkm => ?_, ?_, ?_, Nat.le_trans h.gen (by omega)⟩
 · obtain ⟨r, hr, hrk⟩ := h.root; obtain ⟨m, hm, hmk, _⟩ := kH (d := d) (λ l => gD l name i) hr
   exact ⟨m, hm, by rw [hmk]; exact hrk⟩
 · change 1 <= aZ (fO T.l d (dU λ l => gD l name i)) j at hj
   rw [hl] at hj; by_cases hij : i = j
   · subst hij; obtain ⟨m', hm', _⟩ := kH (d := d) (λ l => gD l name i) hx
     exact ⟨m', hm'⟩
   · rw [if_neg hij] at hj; obtain ⟨m, hm⟩ := h.ent j hj; obtain ⟨m', hm', _⟩ := kH (d := d) (λ l => gD l name i) hm
     exact ⟨m', hm'⟩
 · show aZ (fO T.l d (dU λ l => gD l name i)) j <= 1
   rw [hl]; obtain ⟨y, hy, hyk⟩ := aAD _ hm; by_cases hij : i = j
   · subst hij; rw [hx] at hy; cases hy; rw [if_pos rfl, hxk (by rw [<- hyk]; exact hkm)]; omega
   · rw [if_neg hij]; exact h.one j y hy (by rw [<- hyk]; exact hkm)
 · show aZ (fO T.l d (dU λ l => gD l name i)) 1 = 0
   rw [hl, h.rt0, if_neg hi]
 · show cR (fO T.l d (dU λ l => gD l name i)) <= _
   rw [kS h.inc hn]; exact h.tot
theorem aTb {k : Nat} {T : TreeP} (h : Inv k T) (p : Ln) {o : Ln} (ho : bF o = true) : Inv (k + 1) (rW T p o).1 := by
 unfold rW; split
 · rename_i e0; obtain ⟨_, _, x, hx⟩ := oH h (p := p) (i := (aV T p).1) (by rw [<- e0])
   split
   · rename_i e1; obtain ⟨hne, hw, ⟨n, hn, hk1⟩, hnm⟩ := mM (T := T) (p := o) (d := (bT T o).1) (name := (bT T o).2.1) (by rw [<- e1])
     have hk2 := aDa h hn hk1; have hnok := pA ho hne; rw [<- hnm] at hnok; split
     · exact h.mono (by omega)
     · rename_i hk; rw [jL hx] at hk; split
       · exact h.mono (by omega)
       · rename_i hth; split
         · exact h.mono (by omega)
         · exact aQZ h hn hk2 hnok.1 hnok.2 (uT hn hth) hx (λ y => absurd y hk) (λ hi => by
             obtain ⟨r, hr, hrk⟩ := h.root; rw [hi, hr] at hx; cases hx; exact hk hrk)
   · exact h.mono (by omega)
 · exact h.mono (by omega)
theorem aET {l : EL} (hs : gU l) {a b : Ln} (h : eJ l b = false) : eJ (fU l a) b = false := by
 cases hx : eJ (fU l a) b with
 | false => rfl
 | true => rw [(aDd hs (aLD (mC hx))).1] at h; cases h
theorem aLC {k : Nat} {T : TreeP} (h : Inv k T) (p : Ln) {o : Ln} (ho : bF o = true) : Inv (k + 1) (kW T p o).1 := by
 unfold kW; split
 · rename_i e0; obtain ⟨_, _, x, hx⟩ := oH h (p := p) (i := (aV T p).1) (by rw [<- e0])
   split
   · rename_i e1; obtain ⟨hne, hw, ⟨n, hn, hk1⟩, hnm⟩ := mM (T := T) (p := o) (d := (bT T o).1) (name := (bT T o).2.1) (by rw [<- e1])
     have hk2 := aDa h hn hk1; have hnok := pA ho hne; rw [<- hnm] at hnok; split
     · exact h.mono (by omega)
     · rename_i hc; have hi : (aV T p).1 ≠ 1 := λ y => hc (.inl y)
       split
       · exact h.mono (by omega)
       · split
         · exact h.mono (by omega)
         · rename_i hth; obtain ⟨d, m, q1, q2, q3, q4, q5⟩ := oG h (p := p) (i := (aV T p).1) (by rw [<- e0]) hi
           rw [q1]; have hr := tG h q2 q3 q4; have hlk := kZ h.inc q2 q4 (aV T p).1; rw [q5, if_pos rfl] at hlk; obtain ⟨x', hx', hxk', _⟩ := kH (d := d) (λ l => fU l (dJ p)) hx
           have hn' : ∃ n', bH (dW T d (dJ p)) (bT T o).1 = some n' /\ n'.kind = 2 /\ eJ n'.l (bT T o).2.1 = false := by
             have hh := uT hn hth; unfold dW; rw [mN, hn]; refine ⟨_, rfl, ?_⟩; split
             · exact ⟨hk2, aET (h.of hn).1.srt hh⟩
             · exact ⟨hk2, hh⟩
           obtain ⟨n', hn', hk', hh'⟩ := hn'; exact aQZ hr hn' hk' hnok.1 hnok.2 hh' hx' (λ y => by
             have := h.one _ x hx (by rw [<- hxk']; exact y)
             show aZ (fO T.l d (dU λ l => fU l (dJ p))) (aV T p).1 = 0
             omega) hi
   · exact h.mono (by omega)
 · exact h.mono (by omega)
abbrev NV := bD × DV
def iH (x : NV) : List DV := [ii x.1.inode, ii x.1.gen, ii x.1.kind, .str x.1.text, x.2]
def eT (xs : List NV) : List DV := xs.flatMap iH
theorem pU (x : NV) (xs : List NV) : eT (x :: xs) = iH x ++ eT xs := rfl
theorem kY (a b : List NV) : eT (a ++ b) = eT a ++ eT b := by unfold eT; rw [List.flatMap_append]
theorem cM : ∀ xs : List NV, (eT xs).length = xs.length * 5
 | [] => rfl
 | x :: xs => by rw [pU, List.length_append, cM xs]; simp [iH]; omega
theorem aHh : ∀ {xs : List NV} {i : Nat} {x : NV}, xs[i]? = some x -> ∀ j, j < 5 -> (eT xs)[i * 5 + j]? = (iH x)[j]?
 | [], i, x, h, _, _ => by simp at h
 | y :: xs, 0, x, h, j, hj => by
   simp at h; subst h; rw [pU, Nat.zero_mul, Nat.zero_add, List.getElem?_append_left (by simpa [iH] using hj)]
 | y :: xs, i + 1, x, h, j, hj => by
   simp only [List.getElem?_cons_succ] at h; rw [pU, List.getElem?_append_right (by simp [iH]; omega)]
   have : (i + 1) * 5 + j - (iH y).length = i * 5 + j := by simp [iH]; omega
   rw [this]; exact aHh h j hj
theorem pS (xs : List NV) (i : Nat) : (eT xs).take (i * 5) = eT (xs.take i) := by
 rcases Nat.lt_or_ge xs.length i with h | h
 · rw [List.take_of_length_le (by rw [cM]; omega), List.take_of_length_le (by omega)]
 · conv => lhs; rw [<- List.take_append_drop i xs, kY]
   rw [List.take_append_of_le_length (by rw [cM, List.length_take]; omega), List.take_of_length_le (by rw [cM, List.length_take]; omega)]
theorem pT (xs : List NV) (i : Nat) : (eT xs).drop (i * 5) = eT (xs.drop i) := by
 rcases Nat.lt_or_ge xs.length i with h | h
 · rw [List.drop_of_length_le (by rw [cM]; omega), List.drop_of_length_le (by omega)]; rfl
 · conv => lhs; rw [<- List.take_append_drop i xs, kY]
   rw [show i * 5 = (eT (xs.take i)).length from by rw [cM, List.length_take]; omega, List.drop_left]
theorem RowE.one {A : Nat -> Prop} {es : Nat} {h : H} {v : DV} {L : List DV} (r : RowE A es h v L) : v.one = true := by
 obtain ⟨n, _, ⟨rfl, _⟩ | ⟨b, o, o2, rfl, _⟩ | ⟨b, o, c, op, rfl, _⟩⟩ := r <;> rfl
theorem xC {A : Nat -> Prop} {h : H} : ∀ {xs : List NV}, (∀ x ∈ xs, RowE A 2 h x.2 (eA x.1.l)) -> (eT xs).all DV.one = true
 | [], _ => rfl
 | x :: xs, hx => by
   rw [pU, List.all_append, xC λ y hy => hx y (by simp [hy])]
   have := RowE.one (hx x (by simp))
   simp only [iH, List.all_cons, List.all_nil, this]; rfl
def dR (A : Nat -> Prop) (h : H) (v : DV) (T : TreeP) : Prop := ∃ s xs, v = .agg [s, ii T.gen] /\ xs.map (·.1) = T.l /\ RowE A 5 h s (eT xs) /\ ∀ x ∈ xs, RowE A 2 h x.2 (eA x.1.l)
theorem dR.move {A A' : Nat -> Prop} {h h' : H} {v : DV} {T : TreeP} (r : dR A h v T) (hs : h.size <= h'.size) (hg : ∀ c, A c -> c < h.size -> h'.get c = h.get c) (hA : ∀ c, A c -> c < h.size -> A' c) : dR A' h' v T := by
 obtain ⟨s, xs, e1, e2, e3, e4⟩ := r; exact ⟨s, xs, e1, e2, e3.move hs hg hA, λ x hx => (e4 x hx).move hs hg hA⟩
theorem dR.grown {A : Nat -> Prop} {h h' : H} {v : DV} {T : TreeP} (r : dR A h v T) (g : aH h h') : dR A h' v T := r.move g.size (λ c _ hc => g.get c hc) λ _ h _ => h
theorem gG {A : Nat -> Prop} {h : H} {s : DV} {xs : List NV} (r : RowE A 5 h s (eT xs)) {i : Nat} {x : NV} (he : xs[i]? = some x) (k : IntKind) :
   ∃ b o, cC 5 s (.int k (.ofNat i)) = some (.ptr b o) /\ (∀ q, aF q (.ptr b o) = some (.ptr b (o + q))) /\ aI h.get (.ptr b (o + 0)) = some (ii x.1.inode) /\ aI h.get (.ptr b (o + 1)) = some (ii x.1.gen) /\ aI h.get (.ptr b (o + 2)) = some (ii x.1.kind) /\
     aI h.get (.ptr b (o + 3)) = some (.str x.1.text) /\ aI h.get (.ptr b (o + 4)) = some x.2 /\ aK 5 h.get (.ptr b o) = some (.agg (iH x)) := by
 obtain ⟨b, o, h1, h2⟩ := r.ix (i := i) (n := xs.length) (cM xs) (List.getElem?_eq_some_iff.1 he).1 (by omega) k
 have g := aHh he; have c : ∀ j, j < 5 -> ∀ y, (iH x)[j]? = some y -> rdCell h.get b (o + j) = some y := λ j hj y hy => h2 j y hj (by rw [g j hj]; exact hy)
 have c0 := c 0 (by omega) _ rfl
 have c1 := c 1 (by omega) _ rfl
 have c2 := c 2 (by omega) _ rfl
 have c3 := c 3 (by omega) _ rfl
 have c4 := c 4 (by omega) _ rfl
 refine ⟨b, o, h1, λ q => aM q b o, by simp only [aI, cK]; exact c0, by simp only [aI, cK]; exact c1, by simp only [aI, cK]; exact c2, by simp only [aI, cK]; exact c3, by simp only [aI, cK]; exact c4, ?_⟩
 rw [Nat.add_zero] at c0; have hc : rdCells h.get b o 5 = some (iH x) := by
   simp only [rdCells, c0, c1, c2, c3, c4, Nat.add_assoc, Nat.reduceAdd]; rfl
 simp only [aK, cI, hc]; rfl
def jU (L : NL) (i : Nat) : Option Nat := L.findIdx? λ n => n.inode == i
theorem eN {L : NL} {i p : Nat} (h : jU L i = some p) : ∃ n, L[p]? = some n /\ bH L i = some n := by
 unfold jU at h; rw [List.findIdx?_eq_some_iff_getElem] at h; obtain ⟨hp, h1, h2⟩ := h; refine ⟨L[p], List.getElem?_eq_getElem hp, ?_⟩; unfold bH; rw [List.find?_eq_some_iff_getElem]; exact ⟨by simpa using h1, p, hp, rfl, λ j hj => by simpa using h2 j hj⟩
theorem rQ {L : NL} {i : Nat} {n : bD} (h : bH L i = some n) : ∃ p, jU L i = some p /\ L[p]? = some n := by
 cases hp : jU L i with
 | none =>
   unfold jU at hp; rw [List.findIdx?_eq_none_iff] at hp; obtain ⟨h1, h2⟩ := cZ h; have := hp n h1; simp [h2] at this
 | some p =>
   obtain ⟨m, h1, h2⟩ := eN hp; rw [h] at h2; cases h2; exact ⟨p, rfl, h1⟩
theorem aEC {L : NL} {i : Nat} (h : bH L i = none) : jU L i = none := by
 unfold jU; rw [List.findIdx?_eq_none_iff]; exact λ n hn => by simpa using aCa h n hn
def jT (L : NL) (i : Nat) : Int := match jU L i with
 | some p => .ofNat p
 | none => .negSucc 0
def qZ (B : cE) : Prop := ∀ (A : Nat -> Prop) (v : DV) (T : TreeP) (i : Nat) (h : H), dR A h v T -> T.l.length < 100000 -> ∃ h', B [v, ii i] h = some (.int .i64 (jT T.l i), h') /\ aH h h'
theorem aOq {E : bO} {A : Nat -> Prop} {s g : DV} {xs : List NV} {i b : Nat} {h : H} (r : RowE A 5 h s (eT xs)) (ho : bB h b [s, g]) (hl : xs.length < 100000) :
   ∀ (k j m : Nat), xs.length - j = k -> j <= xs.length -> (∀ q x, q < j -> xs[q]? = some x -> x.1.inode ≠ i) ->
   aAi E (ii i) (.ptr b 0) (m + (k + 1)) (ii j) h = some (.int .i64 (jT (xs.map (·.1)) i), h) := by
 obtain ⟨n, e1, e2⟩ := r.len; have hn : n = xs.length := by rw [cM] at e1; omega
 subst hn; have fa : aF 0 (.ptr b 0) = some (.ptr b 0) := by rw [aM]
 intro k
 induction k with
 | zero =>
   intro j m hk hj hq; have : j = xs.length := by omega
   subst this; have hp : jU (xs.map (·.1)) i = none := by
     unfold jU; rw [List.findIdx?_eq_none_iff]; intro x hx; obtain ⟨y, hy, rfl⟩ := List.mem_map.1 hx; obtain ⟨q, hq2⟩ := List.mem_iff_getElem?.1 hy; have := hq q y (List.getElem?_eq_some_iff.1 hq2).1 hq2
     simpa using this
   show aGe E _ _ (aAi E _ _ m) _ h = _; unfold aGe; rw [fa, aA, ho.read (j := 0) rfl, aA, e2, aA, aN, aA, decide_eq_false (Nat.lt_irrefl _), aC]; unfold aKq jT; rw [hp]
 | succ k ih =>
   intro j m hk hj hq; have hlt : j < xs.length := by omega
   obtain ⟨x, hx⟩ : ∃ x, xs[j]? = some x := ⟨_, List.getElem?_eq_getElem hlt⟩; obtain ⟨bb, o, q1, q2, q3, q4, q5, q6, q7, q8⟩ := gG r hx .i64; show aGe E _ _ (aAi E _ _ (m + (k + 1))) _ h = _; unfold aGe; rw [fa, aA, ho.read (j := 0) rfl, aA, e2, aA, aN, aA, decide_eq_true hlt, aE, aA, ho.read (j := 0) rfl, aA, q1, aA, q2, aA, q3, aA, cG, aA]; by_cases he : x.1.inode = i
   · have hp : jU (xs.map (·.1)) i = some j := by
       unfold jU; rw [List.findIdx?_eq_some_iff_getElem]; refine ⟨by simpa using hlt, ?_, λ q hq2 => ?_⟩
       · rw [List.getElem_map]; rw [List.getElem?_eq_getElem hlt] at hx; rw [Option.some.inj hx]; simpa using he
       · rw [List.getElem_map]; have := hq q _ hq2 (List.getElem?_eq_getElem (by omega))
         simpa using this
     rw [decide_eq_true he, aE]; unfold jT; rw [hp]
   · rw [decide_eq_false he, aC, bV (by omega), aA]
     refine ih (j + 1) m (by omega) (by omega) λ q y hq2 hy => ?_
     rcases Nat.lt_or_ge q j with h1 | h1
     · exact hq q y h1 hy
     · have : q = j := by omega
       subst this; rw [hx] at hy; cases hy; exact he
theorem aUD {E : bO} : qZ (aWY E) := by
 intro A v T i h r hl; obtain ⟨s, xs, rfl, e2, e3, e4⟩ := r; have hxl : xs.length = T.l.length := by rw [<- e2, List.length_map]
 obtain ⟨h1, eh, g1, o1⟩ := aP h 2 2 [s, ii T.gen] rfl; have := aOq (E := E) (i := i) (e3.grown g1) o1 (by omega) xs.length 0 (aR - (xs.length + 1)) (by omega) (by omega) (λ q x hq => by omega)
 rw [show aR - (xs.length + 1) + (xs.length + 1) = aR from by unfold aR; omega, e2] at this
 refine ⟨h1, ?_, g1⟩; show aKr E (.agg [s, ii T.gen]) (ii i) h = _; unfold aKr; rw [fJ]; show aAi E _ _ _ _ (h.push (.blk ⟨2, 2, false, true, Tr.ofL [s, ii T.gen]⟩)) = _; rw [<- eh]; exact this
def tZ (B : cE) : Prop := ∀ (A : Nat -> Prop) (v : DV) (T : TreeP) (i : Nat) (h : H), dR A h v T -> T.l.length < 1000 -> (∀ n ∈ T.l, n.l.length < 1000) -> ∃ h', B [v, ii i] h = some (ii ((aZ T.l i)), h') /\ aH h h'
theorem aIA {E : bO} {A : Nat -> Prop} {s g : DV} {xs : List NV} {i b : Nat} {h : H} (r : RowE A 5 h s (eT xs)) (ho : bB h b [s, g]) {x : NV} {j : Nat} (hx : xs[j]? = some x) (rx : RowE A 2 h x.2 (eA x.1.l)) (hl : x.1.l.length < 1000) (i2 : DV -> DV -> H -> aU) :
   ∀ (k q c m : Nat), x.1.l.length - q = k -> q <= x.1.l.length -> c + (x.1.l.length - q) <= 2000000 ->
   wH E i2 (.int .i64 (.ofNat i)) (.ptr b 0) (.int .i64 (.ofNat j)) (m + (k + 1)) (.int .i64 (.ofNat c)) (.int .i64 (.ofNat q)) h = aFH E i2 (.int .i64 (.ofNat (c + gX (x.1.l.drop q) i))) (.int .i64 (.ofNat j)) h := by
 have fa : aF 0 (.ptr b 0) = some (.ptr b 0) := by rw [aM]
 obtain ⟨bb, o, q1, q2, q3, q4, q5, q6, q7, q8⟩ := gG r hx .i64; obtain ⟨n, e1, e2⟩ := rx.len; have hn : n = x.1.l.length := by rw [bM] at e1; omega
 subst hn; intro k
 induction k with
 | zero =>
   intro q c m hk hq hc; have : q = x.1.l.length := by omega
   subst this; show aGb E i2 _ _ _ (wH E i2 _ _ _ m) _ _ h = _; unfold aGb; rw [fa, aA, ho.read (j := 0) rfl, aA, q1, aA, q2, aA, q7, aA, e2, aA, aN, aA, decide_eq_false (Nat.lt_irrefl _), aC, List.drop_length]
   rfl
 | succ k ih =>
   intro q c m hk hq hc; have hlt : q < x.1.l.length := by omega
   obtain ⟨e, he⟩ : ∃ e, x.1.l[q]? = some e := ⟨_, List.getElem?_eq_getElem hlt⟩; obtain ⟨b2, o2, i1, i2', i3, i4, i5, i6, i7, i8⟩ := lQ rx he .i64; have hd : x.1.l.drop q = e :: x.1.l.drop (q + 1) := by
     rw [List.drop_eq_getElem_cons hlt]; rw [List.getElem?_eq_getElem hlt] at he; rw [Option.some.inj he]
   show aGb E i2 _ _ _ (wH E i2 _ _ _ (m + (k + 1))) _ _ h = _; unfold aGb; rw [fa, aA, ho.read (j := 0) rfl, aA, q1, aA, q2, aA, q7, aA, e2, aA, aN, aA, decide_eq_true hlt, aE, aA, ho.read (j := 0) rfl, aA, q1, aA, q2, aA, q7, aA, i1, aA, i6, aA, i8, aA, cG, aA]; have hcnt : gX (x.1.l.drop q) i = gX (x.1.l.drop (q + 1)) i + if e.2 = i then 1 else 0 := by
     rw [hd]; unfold gX; rw [List.countP_cons]; simp
   have hcl : gX (x.1.l.drop (q + 1)) i <= 1000 := Nat.le_trans (List.countP_le_length) (by rw [List.length_drop]; omega)
   by_cases hei : e.2 = i
   · rw [decide_eq_true hei, aE, bV (by omega), aA]
     unfold aFG; rw [bV (by omega), aA]
     rw [if_pos hei] at hcnt; rw [ih (q + 1) (c + 1) m (by omega) (by omega) (by omega), hcnt]
     congr 3; omega
   · rw [decide_eq_false hei, aC]; unfold aFG; rw [bV (by omega), aA]
     rw [if_neg hei] at hcnt; rw [ih (q + 1) c m (by omega) (by omega) (by omega), hcnt]; rfl
theorem aGz {E : bO} {A : Nat -> Prop} {s g : DV} {xs : List NV} {i b : Nat} {h : H} (r : RowE A 5 h s (eT xs)) (ho : bB h b [s, g]) (rx : ∀ x ∈ xs, RowE A 2 h x.2 (eA x.1.l)) (hl : xs.length < 1000) (hxl : ∀ x ∈ xs, x.1.l.length < 1000) :
   ∀ (k j c m : Nat), xs.length - j = k -> j <= xs.length -> c <= 1000 * j ->
   lS E (ii i) (.ptr b 0) (m + (k + 1)) (ii c) (ii j) h = some (ii ((c + aZ ((xs.drop j).map (·.1)) i)), h) := by
 obtain ⟨n, e1, e2⟩ := r.len; have hn : n = xs.length := by rw [cM] at e1; omega
 subst hn; have fa : aF 0 (.ptr b 0) = some (.ptr b 0) := by rw [aM]
 intro k
 induction k with
 | zero =>
   intro j c m hk hj hc; have : j = xs.length := by omega
   subst this; show aGc E _ _ (lS E _ _ m) _ _ h = _; unfold aGc; rw [fa, aA, ho.read (j := 0) rfl, aA, e2, aA, aN, aA, decide_eq_false (Nat.lt_irrefl _), aC, List.drop_length]
   rfl
 | succ k ih =>
   intro j c m hk hj hc; have hlt : j < xs.length := by omega
   obtain ⟨x, hx⟩ : ∃ x, xs[j]? = some x := ⟨_, List.getElem?_eq_getElem hlt⟩; have hm := List.mem_of_getElem? hx; have hlx := hxl x hm; have hd : xs.drop j = x :: xs.drop (j + 1) := by
     rw [List.drop_eq_getElem_cons hlt]; rw [List.getElem?_eq_getElem hlt] at hx; rw [Option.some.inj hx]
   have hcl : gX x.1.l i <= 1000 := Nat.le_trans (List.countP_le_length) (by omega)
   show aGc E _ _ (lS E _ _ (m + (k + 1))) _ _ h = _; unfold aGc; rw [fa, aA, ho.read (j := 0) rfl, aA, e2, aA, aN, aA, decide_eq_true hlt, aE]; have hin := aIA (E := E) (i := i) r ho hx (rx x hm) hlx (lS E (ii i) (.ptr b 0) (m + (k + 1))) x.1.l.length 0 c (aR - (x.1.l.length + 1)) (by omega) (by omega) (by omega)
   rw [show aR - (x.1.l.length + 1) + (x.1.l.length + 1) = aR from by unfold aR; omega] at hin
   refine hin.trans ?_; unfold aFH; rw [bV (by omega), aA, List.drop_zero, ih (j + 1) _ m (by omega) (by omega) (by omega), hd]
   have e : c + gX x.1.l i + aZ ((xs.drop (j + 1)).map (·.1)) i = c + aZ ((x :: xs.drop (j + 1)).map (·.1)) i := by
     simp only [List.map_cons, List.sum_cons, aZ]; omega
   rw [e]
theorem aLz {E : bO} : tZ (aWU E) := by
 intro A v T i h r hl hll; obtain ⟨s, xs, rfl, e2, e3, e4⟩ := r; have hxl : xs.length = T.l.length := by rw [<- e2, List.length_map]
 obtain ⟨h1, eh, g1, o1⟩ := aP h 2 2 [s, ii T.gen] rfl; have := aGz (E := E) (i := i) (e3.grown g1) o1 (λ x hx => (e4 x hx).grown g1) (by omega) (λ x hx => hll x.1 (by rw [<- e2]; exact List.mem_map.2 ⟨x, hx, rfl⟩)) xs.length 0 0 (aR - (xs.length + 1)) (by omega) (by omega) (by omega)
 rw [show aR - (xs.length + 1) + (xs.length + 1) = aR from by unfold aR; omega, List.drop_zero, e2, Nat.zero_add] at this
 refine ⟨h1, ?_, g1⟩; show aKl E (.agg [s, ii T.gen]) (ii i) h = _; unfold aKl; rw [fJ]; show lS E _ _ _ _ _ (h.push (.blk ⟨2, 2, false, true, Tr.ofL [s, ii T.gen]⟩)) = _; rw [<- eh]; exact this
def qD (B : cE) : Prop := ∀ (A : Nat -> Prop) (v : DV) (T : TreeP) (p : Nat) (n : bD) (name : Ln) (h : H), dR A h v T -> T.l[p]? = some n -> n.l.length < 1000 -> ∃ h', B [v, ii p, .str name] h = some (.bool (eJ n.l name), h') /\ aH h h'
theorem jD {xs : List NV} {p : Nat} {n : bD} {L : NL} (e : xs.map (·.1) = L) (h : L[p]? = some n) : ∃ x, xs[p]? = some x /\ x.1 = n := by
 rw [<- e, List.getElem?_map] at h; cases hx : xs[p]? with
 | none => rw [hx] at h; cases h
 | some x => rw [hx] at h; cases h; exact ⟨x, rfl, rfl⟩
theorem aLw {E : bO} (hL : cD E 151 sI) : qD (aWZ E) := by
 obtain ⟨B, hB, sB⟩ := hL.call; intro A v T p n name h r hp hl; obtain ⟨s, xs, rfl, e2, e3, e4⟩ := r; obtain ⟨x, hx, rfl⟩ := jD e2 hp; obtain ⟨h1, eh, g1, o1⟩ := aP h 2 2 [s, ii T.gen] rfl; obtain ⟨bb, o, q1, q2, q3, q4, q5, q6, q7, q8⟩ := gG (e3.grown g1) hx .i64; refine ⟨h1, ?_, g1⟩; show aKs E (.agg [s, ii T.gen]) (ii p) (.str name) h = _; unfold aKs; rw [fJ]; show (vK _ _ : aU) = _; rw [show h.push (.blk ⟨[s, ii T.gen].length, [s, ii T.gen].length, false, true, Tr.ofL [s, ii T.gen]⟩) = h1 from eh.symm, aM, aA, o1.read (j := 0 + 0) rfl, aA, q1, aA, q2, aA, q7, aA, hB, sB A _ _ name h1 ((e4 x (List.mem_of_getElem? hx)).grown g1) (by omega), aB, aY, aA, aX, aA, cG, aA]
 unfold mD; cases eJ x.1.l name <;> rfl
def sF (B : cE) : Prop := ∀ (A : Nat -> Prop) (v : DV) (T : TreeP) (p : Nat) (x : NV) (h : H), dR A h v T -> T.l.length < 1000 -> p < T.l.length -> RowE A 2 h x.2 (eA x.1.l) -> (∀ c, h.size <= c -> A c) ->
 ∃ v' h', B [v, ii p, .agg (iH x)] h = some (v', h') /\ dR A h' v' ⟨T.l.set p x.1, T.gen⟩ /\ aH h h'
theorem aUm {α : Type} (l : List α) (p : Nat) (x : α) (hp : p < l.length) : l.take p ++ [x] ++ l.drop (p + 1) = l.set p x := by
 rw [List.set_eq_take_append_cons_drop, if_pos hp]; simp
theorem vH {A : Nat -> Prop} {h : H} {x : NV} (r : RowE A 2 h x.2 (eA x.1.l)) : (iH x).all DV.one = true := by
 have := RowE.one r; simp only [iH, List.all_cons, List.all_nil, this]; rfl
theorem aNS {E : bO} : sF (aWD E) := by
 intro A v T p x h r hl hp rx hA; obtain ⟨s, xs, rfl, e2, e3, e4⟩ := r; have hxl : xs.length = T.l.length := by rw [<- e2, List.length_map]
 obtain ⟨h2, eh2, g2, o2⟩ := aP h 2 2 [s, ii T.gen] rfl; obtain ⟨h4, eh4, g4, o4⟩ : ∃ y, y = h2.push (.blk ⟨5, 5, false, true, Tr.ofL (iH x)⟩) /\ aH h2 y /\ bB y h2.size (iH x) := ⟨_, rfl, aH.push _ _, mE _ _ rfl⟩; obtain ⟨h6, eh6, g6, o6⟩ := aP h4 2 2 [.nils, ii 0] rfl; have z2 : h2.size = h.size + 1 := by rw [eh2]; exact H.size_push _ _
 have z4 : h4.size = h2.size + 1 := by rw [eh4]; exact H.size_push _ _
 have z6 : h6.size = h4.size + 1 := by rw [eh6]; exact H.size_push _ _
 have g26 := (g2.trans g4).trans g6; have r6 := e3.grown g26; obtain ⟨n, y1, y2, y3⟩ := r6.src; have hn : n = xs.length := by rw [cM] at y1; omega
 subst hn; have hone : (eT xs).all DV.one = true := xC λ y hy => e4 y hy
 obtain ⟨w, h10, f10, fR, k10⟩ := (lC.nil (n0 := h6.size) (es := 5) (h := h6)).app (Nat.le_refl _) (x := s) (bytes := 64) y2 y3 (cM xs) hone (by omega) (λ m hm => iT (by simp at hm; omega) 64 (by omega))
 rw [List.nil_append] at fR; have g10 : aH h6 h10 := eE k10; have ox10 := (o4.grown g6).grown g10; obtain ⟨b, h14, i1, i2, i3, f14, iO, k14⟩ := fR.store (i := p) (n := xs.length) (cM xs) (by omega) (by omega) (cs := iH x) rfl (vH rx) .i64
 have ot14 := (((o2.grown g4).grown g6).grown g10).but (by omega) k14
 obtain ⟨h17, f17, iL, k17⟩ := ot14.set (v := w) (j := 0) fR.one (by simp)
 have oz17 := ((o6.grown g10).but (by omega) k14).but (by omega) k17
 obtain ⟨h20, f20, iV, k20⟩ := oz17.setAll (n := 2) (cs := [w, ii T.gen]) rfl rfl (by simp only [List.all_cons, List.all_nil, fR.one]; rfl)
 have G : aH h h20 := by
   have a := k14.grown (g26.trans g10) (by omega)
   have b' := k17.grown a (Nat.le_refl _); exact k20.grown b' (by omega)
 have hA6 : ∀ c, h6.size <= c -> c < h20.size -> A c := λ c hc _ => hA c (by omega)
 have row20 : RowE A 5 h20 w (eT (xs.set p x)) := by
   have e : (eT xs).take (p * 5) ++ iH x ++ (eT xs).drop ((p + 1) * 5) = eT (xs.set p x) := by
     rw [pS, pT, <- aUm xs p x (by omega), kY, kY]
     simp [eT]
   rw [e] at iO; have r14 := iO.row (A := λ c => h6.size <= c) (λ c hc _ => hc)
   exact r14.move (by rw [k20.size, k17.size]; exact Nat.le_refl _) (λ c hc _ => (k20.get c (by omega)).trans (k17.get c (by omega))) (λ c hc _ => hA c (by omega))
 refine ⟨.agg [w, ii T.gen], h20, ?_, ⟨w, xs.set p x, rfl, ?_, row20, λ y hy => ?_⟩, G⟩
 · show aJO E (.agg [s, ii T.gen]) (ii p) (.agg (iH x)) h = _; unfold aJO; have ld18 : aK 2 h17.get (.ptr h.size 0) = some (.agg [w, ii T.gen]) := iL.all (n := 2) rfl; rw [nbx eh2 rfl, nbx eh4 rfl, bW, <- eh6,
     aM, aA, ((o2.grown g4).grown g6).read (j := 0 + 0) rfl, aA, f10, aB, ox10.all (n := 5) rfl, aA, i1, aA, f14, aB, aA]
   rw [show (DV.ptr h.size (0 + 0)) = .ptr h.size 0 from rfl, f17, aB, ld18, aA, f20, aB, iV.all (n := 2) rfl, aA]
 · show _ = T.l.set p x.1; rw [<- e2, List.map_set]
 · rcases List.mem_or_eq_of_mem_set hy with hy | rfl
   · exact (e4 y hy).grown G
   · exact rx.grown G
theorem aDN {A : Nat -> Prop} {es : Nat} {h : H} {v : DV} {L : List DV} (r : RowE A es h v L) : RowE (λ c => c < h.size) es h v L := r.move (Nat.le_refl _) (λ _ _ _ => rfl) λ _ _ hc => hc
def wD (B : cE) : Prop := ∀ (A : Nat -> Prop) (v : DV) (T : TreeP) (p : Nat) (n : bD) (name : Ln) (i : Nat) (h : H), dR A h v T -> T.l.length < 1000 -> T.l[p]? = some n -> n.l.length < 1000 -> 1 <= i -> i < 256 -> eD name = true -> eJ n.l name = false -> (∀ c, h.size <= c -> A c) ->
 ∃ v' h', B [v, ii p, .str name, ii i] h = some (v', h') /\ dR A h' v' ⟨T.l.set p (dU (λ l => gD l name i) n), T.gen⟩ /\ aH h h'
theorem dR.agg {A : Nat -> Prop} {h : H} {v : DV} {T : TreeP} (r : dR A h v T) : ∃ s, v = .agg [s, ii T.gen] /\ s.one = true := by
 obtain ⟨s, xs, e1, e2, e3, e4⟩ := r; exact ⟨s, e1, RowE.one e3⟩
theorem aSH {E : bO} (hAd : cD E 152 aFu) (hW : cD E 153 sF) : wD (aWX E) := by
 obtain ⟨B1, b1, s1⟩ := hAd.call; obtain ⟨B2, b2, s2⟩ := hW.call; intro A v T p n name i h r hl hp hnl hi1 hi2 hk hh hA; have r0 := r; obtain ⟨s, xs, rfl, e2, e3, e4⟩ := r; obtain ⟨x, hx, rfl⟩ := jD e2 hp; obtain ⟨h2, eh2, g2, o2⟩ := aP h 2 2 [s, ii T.gen] rfl; obtain ⟨h4, eh4, g4, o4⟩ := aP h2 2 2 [.nils, ii 0] rfl; obtain ⟨h10, eh10, g10, fR⟩ := aP h4 5 5 [(ii 0), (ii 0), (ii 0), (.str []), .nils] rfl; have z2 : h2.size = h.size + 1 := by rw [eh2]; exact H.size_push _ _
 have z4 : h4.size = h2.size + 1 := by rw [eh4]; exact H.size_push _ _
 have z10 : h10.size = h4.size + 1 := by rw [eh10]; exact H.size_push _ _
 obtain ⟨bb, o, q1, q2, q3, q4, q5, q6, q7, q8⟩ := gG (e3.grown (g2.trans g4)) hx .i64; have rx := e4 x (List.mem_of_getElem? hx); obtain ⟨h12, f12, fL, k12⟩ := fR.setAll (n := 5) (cs := iH x) rfl rfl (vH rx); have G12 : aH h h12 := k12.grown ((g2.trans g4).trans g10) (by omega)
 obtain ⟨w, h16, f16, p16, g16⟩ := s1 x.2 x.1.l name i h12 (aDN (rx.grown G12)) (by omega) hi1 hi2 hk hh
 have iG := fL.grown g16; obtain ⟨h21, f21, gZ, k21⟩ := iG.set (v := w) (j := 4) p16.one (by simp [iH])
 have o21' : bB h21 h4.size (iH (dU (λ l => gD l name i) x.1, w)) := gZ
 have z12 : h12.size = h10.size := k12.size; have G21 : aH h h21 := k21.grown (G12.trans g16) (by omega)
 have ot21 := (((((o2.grown g4).grown g10).but (by omega) k12).grown g16).but (by omega) k21)
 have oz21 := ((((o4.grown g10).but (by omega) k12).grown g16).but (by omega) k21)
 have z16 := g16.size; have rw21 : RowE (λ c => (A c /\ c < h.size) \/ h12.size <= c) 2 h21 w (eA (gD x.1.l name i)) := by
   have a := p16.row (A := λ c => h12.size <= c) (λ c hc _ => hc)
   exact a.move (by rw [k21.size]; exact Nat.le_refl _) (λ c hc _ => k21.get c (by omega)) (λ c hc _ => .inr hc)
 have z21 : h21.size = h16.size := k21.size; obtain ⟨u, h25, f25, r25, g25⟩ := s2 (λ c => (A c /\ c < h.size) \/ h12.size <= c) _ T p (dU (λ l => gD l name i) x.1, w) h21 (r0.move G21.size (λ c _ hc => G21.get c hc) (λ c ha hc => .inl ⟨ha, hc⟩)) hl (List.getElem?_eq_some_iff.1 hp).1 rw21 (λ c hc => .inr (by omega))
 obtain ⟨s', eu, us⟩ := r25.agg; obtain ⟨h27, f27, lB, k27⟩ := (oz21.grown g25).setAll (n := 2) (cs := [s', ii T.gen]) rfl rfl (by simp only [List.all_cons, List.all_nil, us]; rfl)
 have z25 := g25.size; have G27 : aH h h27 := k27.grown (G21.trans g25) (by omega)
 refine ⟨.agg [s', ii T.gen], h27, ?_, ?_, G27⟩
 · show aKp E (.agg [s, ii T.gen]) (ii p) (.str name) (ii i) h = _; unfold aKp; have eu' : u = .agg [s', ii T.gen] := eu; rw [eu'] at f25; rw [nbx eh2 rfl, bW, <- eh4,
     aM, aA, (o2.grown g4).read (j := 0 + 0) rfl, aA, q1, aA, q8, aA, bW, <- eh10, f12, aB, aM, aA, fL.read (j := 0 + 4) (x := x.2) rfl, aA, b1, f16, aB, aY, aA, aX, aA, aA]
   rw [show (DV.ptr h4.size (0 + 4)) = .ptr h4.size 4 from rfl, f21, aB, ot21.all (n := 2) rfl, aA, o21'.all (n := 5) rfl, aA, b2, f25, aB, f27, aB, lB.all (n := 2) rfl, aA]
 · rw [<- eu]; exact r25.move (by rw [k27.size]; exact Nat.le_refl _) (λ c hc _ => k27.get c (by rcases hc with ⟨_, hc⟩ | hc <;> omega)) (λ c hc _ => hc.elim (·.1) λ x => hA c (by omega))
def sH (B : cE) : Prop := ∀ (A : Nat -> Prop) (v : DV) (T : TreeP) (p : Nat) (n : bD) (name : Ln) (h : H), dR A h v T -> T.l.length < 1000 -> T.l[p]? = some n -> n.l.length < 1000 -> eJ n.l name = true -> (∀ c, h.size <= c -> A c) ->
 ∃ v' h', B [v, ii p, .str name] h = some (v', h') /\ dR A h' v' ⟨T.l.set p (dU (λ l => fU l name) n), T.gen⟩ /\ aH h h'
theorem aNY {E : bO} (hAd : cD E 155 aFt) (hW : cD E 153 sF) : sH (aWV E) := by
 obtain ⟨B1, b1, s1⟩ := hAd.call; obtain ⟨B2, b2, s2⟩ := hW.call; intro A v T p n name h r hl hp hnl hh hA; have r0 := r; obtain ⟨s, xs, rfl, e2, e3, e4⟩ := r; obtain ⟨x, hx, rfl⟩ := jD e2 hp; obtain ⟨h2, eh2, g2, o2⟩ := aP h 2 2 [s, ii T.gen] rfl; obtain ⟨h4, eh4, g4, o4⟩ := aP h2 2 2 [.nils, ii 0] rfl; obtain ⟨h10, eh10, g10, fR⟩ := aP h4 5 5 [(ii 0), (ii 0), (ii 0), (.str []), .nils] rfl; have z2 : h2.size = h.size + 1 := by rw [eh2]; exact H.size_push _ _
 have z4 : h4.size = h2.size + 1 := by rw [eh4]; exact H.size_push _ _
 have z10 : h10.size = h4.size + 1 := by rw [eh10]; exact H.size_push _ _
 obtain ⟨bb, o, q1, q2, q3, q4, q5, q6, q7, q8⟩ := gG (e3.grown (g2.trans g4)) hx .i64; have rx := e4 x (List.mem_of_getElem? hx); obtain ⟨h12, f12, fL, k12⟩ := fR.setAll (n := 5) (cs := iH x) rfl rfl (vH rx); have G12 : aH h h12 := k12.grown ((g2.trans g4).trans g10) (by omega)
 obtain ⟨w, h16, f16, p16, g16⟩ := s1 x.2 x.1.l name h12 (aDN (rx.grown G12)) (by omega) hh
 have iG := fL.grown g16; obtain ⟨h21, f21, gZ, k21⟩ := iG.set (v := w) (j := 4) p16.one (by simp [iH])
 have o21' : bB h21 h4.size (iH (dU (λ l => fU l name) x.1, w)) := gZ
 have z12 : h12.size = h10.size := k12.size; have G21 : aH h h21 := k21.grown (G12.trans g16) (by omega)
 have ot21 := (((((o2.grown g4).grown g10).but (by omega) k12).grown g16).but (by omega) k21)
 have oz21 := ((((o4.grown g10).but (by omega) k12).grown g16).but (by omega) k21)
 have z16 := g16.size; have rw21 : RowE (λ c => (A c /\ c < h.size) \/ h12.size <= c) 2 h21 w (eA (fU x.1.l name)) := by
   have a := p16.row (A := λ c => h12.size <= c) (λ c hc _ => hc)
   exact a.move (by rw [k21.size]; exact Nat.le_refl _) (λ c hc _ => k21.get c (by omega)) (λ c hc _ => .inr hc)
 have z21 : h21.size = h16.size := k21.size; obtain ⟨u, h25, f25, r25, g25⟩ := s2 (λ c => (A c /\ c < h.size) \/ h12.size <= c) _ T p (dU (λ l => fU l name) x.1, w) h21 (r0.move G21.size (λ c _ hc => G21.get c hc) (λ c ha hc => .inl ⟨ha, hc⟩)) hl (List.getElem?_eq_some_iff.1 hp).1 rw21 (λ c hc => .inr (by omega))
 obtain ⟨s', eu, us⟩ := r25.agg; obtain ⟨h27, f27, lB, k27⟩ := (oz21.grown g25).setAll (n := 2) (cs := [s', ii T.gen]) rfl rfl (by simp only [List.all_cons, List.all_nil, us]; rfl)
 have z25 := g25.size; have G27 : aH h h27 := k27.grown (G21.trans g25) (by omega)
 refine ⟨.agg [s', ii T.gen], h27, ?_, ?_, G27⟩
 · show aKm E (.agg [s, ii T.gen]) (ii p) (.str name) h = _; unfold aKm; have eu' : u = .agg [s', ii T.gen] := eu; rw [eu'] at f25; rw [nbx eh2 rfl, bW, <- eh4,
     aM, aA, (o2.grown g4).read (j := 0 + 0) rfl, aA, q1, aA, q8, aA, bW, <- eh10, f12, aB, aM, aA, fL.read (j := 0 + 4) (x := x.2) rfl, aA, b1, f16, aB, aY, aA, aX, aA, oX, aA, aA]
   rw [show (DV.ptr h4.size (0 + 4)) = .ptr h4.size 4 from rfl, f21, aB, ot21.all (n := 2) rfl, aA, o21'.all (n := 5) rfl, aA, b2, f25, aB, f27, aB, lB.all (n := 2) rfl, aA]
 · rw [<- eu]; exact r25.move (by rw [k27.size]; exact Nat.le_refl _) (λ c hc _ => k27.get c (by rcases hc with ⟨_, hc⟩ | hc <;> omega)) (λ c hc _ => hc.elim (·.1) λ x => hA c (by omega))
theorem aVd : ∀ {L : NL} {lo : Nat}, kK L -> (∀ n ∈ L, lo <= n.inode /\ n.inode < 256) -> lo <= 256 -> lo + L.length <= 256
 | [], lo, _, _, h => by simpa using h
 | n :: L, lo, hL, h, _ => by
   rw [kK, List.pairwise_cons] at hL; have h0 := h n (by simp)
   have := aVd (lo := n.inode + 1) hL.2 (λ m hm => ⟨hL.1 m hm, (h m (by simp [hm])).2⟩) (by omega)
   simp only [List.length_cons]; omega
theorem Inv.llen {k : Nat} {T : TreeP} (h : Inv k T) : T.l.length <= 255 := by
 have := aVd (lo := 1) h.inc (λ n hn => (h.ok n hn).rng) (by omega)
 omega
theorem yX {L : NL} (hL : kK L) {p : Nat} {n : bD} (hp : L[p]? = some n) (f : bD -> bD) : L.set p (f n) = fO L n.inode f := by
 have hpl := (List.getElem?_eq_some_iff.1 hp).1; refine List.ext_getElem? λ j => ?_
 unfold fO; rw [List.getElem?_set, List.getElem?_map]; by_cases hj : p = j
 · subst hj; rw [if_pos rfl, if_pos hpl, hp]; simp
 · rw [if_neg hj]; cases hx : L[j]? with
   | none => rfl
   | some x =>
     have hjl := (List.getElem?_eq_some_iff.1 hx).1; have hne : x.inode ≠ n.inode := by
       obtain ⟨_, e1⟩ := List.getElem?_eq_some_iff.1 hp; obtain ⟨_, e2⟩ := List.getElem?_eq_some_iff.1 hx; rcases Nat.lt_or_gt_of_ne hj with h | h
       · have := List.pairwise_iff_getElem.1 hL p j hpl hjl h; rw [e1, e2] at this; omega
       · have := List.pairwise_iff_getElem.1 hL j p hjl hpl h; rw [e1, e2] at this; omega
     simp [hne]
theorem bKi {L : NL} (hL : kK L) {p : Nat} {n : bD} (hp : L[p]? = some n) : L.take p ++ L.drop (p + 1) = jE L n.inode := by
 have hpl := (List.getElem?_eq_some_iff.1 hp).1; have e : L = L.take p ++ n :: L.drop (p + 1) := by
   conv => lhs; rw [<- List.take_append_drop p L, List.drop_eq_getElem_cons hpl]
   rw [List.getElem?_eq_getElem hpl] at hp; rw [Option.some.inj hp]
 have hL2 := hL; rw [e] at hL2; rw [kK, List.pairwise_append, List.pairwise_cons] at hL2; obtain ⟨_, ⟨h1, _⟩, h2⟩ := hL2; unfold jE
 conv => rhs; rw [e]
 rw [List.filter_append, List.filter_cons]; have : (n.inode != n.inode) = false := by simp
 rw [this, if_neg (by simp)]
 congr 1
 · exact (List.filter_eq_self.2 λ m hm => by have := h2 m hm n (by simp); simp; omega).symm
 · exact (List.filter_eq_self.2 λ m hm => by have := h1 m hm; simp; omega).symm
theorem wX {A : Nat -> Prop} {es : Nat} {h : H} {v : DV} {L : List DV} (r : RowE A es h v L) : rcK (some v) v = true := by
 obtain ⟨n, _, ⟨rfl, _⟩ | ⟨b, o, o2, rfl, _⟩ | ⟨b, o, c, op, rfl, _⟩⟩ := r
 · rfl
 · show qJ _ _ = true; simp [qJ, Nat.beq_refl]
 · show qJ _ _ = true; simp [qJ, Nat.beq_refl]
def mH (B : cE) : Prop := ∀ (A : Nat -> Prop) (v : DV) (T : TreeP) (k : Nat) (p : Ln) (h : H), dR A h v T -> Inv k T -> k < 900 -> p.length < 140737488355328 ->
 ∃ pl h', B [v, .str p] h = some (.tup [ii pl, ii ((aV T p).2)], h') /\ aH h h' /\ ((aV T p).2 = 0 -> jU T.l (aV T p).1 = some pl)
theorem aIs {E : bO} (hL : cD E 151 sI) (hAt : cD E 122 qZ) {A : Nat -> Prop} {T : TreeP} {k0 : Nat} (hI : Inv k0 T) (hk0 : k0 < 900) {s w : DV} {b : Nat} {names : List (Ln)} (hnl : names.length < 1000000) {xs : List NV} (e2 : xs.map (·.1) = T.l) :
   ∀ (k j pl at_ m : Nat) (h : H) (n : bD), names.length - j = k -> j <= names.length -> dY h w (dM names) -> bB h b [s, ii T.gen] -> RowE A 5 h s (eT xs) -> (∀ x ∈ xs, RowE A 2 h x.2 (eA x.1.l)) -> T.l[pl]? = some n -> n.inode = at_ ->
   ∃ pl' h', aCB E (.ptr b 0) w (m + (k + 1)) (ii pl) (ii j) h = some (.tup [ii pl', ii ((eP T.l (names.drop j) at_).2)], h') /\ aH h h' /\ ((eP T.l (names.drop j) at_).2 = 0 -> jU T.l (eP T.l (names.drop j) at_).1 = some pl') := by
 obtain ⟨B1, b1, s1⟩ := hL.call; obtain ⟨B2, b2, s2⟩ := hAt.call; have fa : aF 0 (.ptr b 0) = some (.ptr b 0) := by rw [aM]
 intro k
 induction k with
 | zero =>
   intro j pl at_ m h n hk hj rw_ ho re rx hp hn; have : j = names.length := by omega
   subst this; have hg : bH T.l at_ = some n := by rw [<- hn]; exact nX hI.inc (List.mem_of_getElem? hp)
   obtain ⟨p', hp1, hp2⟩ := rQ hg; refine ⟨pl, h, ?_, aH.refl _, λ _ => ?_⟩
   · show aGd E _ _ (aCB E _ _ m) _ _ h = _; unfold aGd; rw [rw_.len, aA, aN, aA, cA, decide_eq_false (Nat.lt_irrefl _), aC]; unfold aKn; rw [List.drop_length]; rfl
   · rw [List.drop_length]; show jU T.l at_ = some pl; have : p' = pl := by
       obtain ⟨q1, e3⟩ := List.getElem?_eq_some_iff.1 hp; obtain ⟨q2, e4⟩ := List.getElem?_eq_some_iff.1 hp2; rcases Nat.lt_trichotomy p' pl with x | x | x
       · have := List.pairwise_iff_getElem.1 hI.inc p' pl q2 q1 x; rw [e3, e4] at this; omega
       · exact x
       · have := List.pairwise_iff_getElem.1 hI.inc pl p' q1 q2 x; rw [e3, e4] at this; omega
     rw [hp1, this]
 | succ k ih =>
   intro j pl at_ m h n hk hj rw_ ho re rx hp hn; have hlt : j < names.length := by omega
   obtain ⟨nm, hnm⟩ : ∃ nm, names[j]? = some nm := ⟨_, List.getElem?_eq_getElem hlt⟩; have hd : names.drop j = nm :: names.drop (j + 1) := by
     rw [List.drop_eq_getElem_cons hlt]; rw [List.getElem?_eq_getElem hlt] at hnm; rw [Option.some.inj hnm]
   obtain ⟨x, hx, rfl⟩ := jD e2 hp; have hg : bH T.l at_ = some x.1 := by rw [<- hn]; exact nX hI.inc (List.mem_of_getElem? hp)
   have hok := (hI.of hg).1; obtain ⟨bb, o, q1, q2, q3, q4, q5, q6, q7, q8⟩ := gG re hx .i64; have hlen := hok.len; obtain ⟨nb, no, i1, i2⟩ := rw_.at (j := j) (x := .str nm) (by unfold dM; rw [List.getElem?_map, hnm]; rfl) .i64
   rw [hd]; simp only [eP, hg]; show ∃ pl' h', aGd E _ _ (aCB E _ _ (m + (k + 1))) _ _ h = _ /\ _; unfold aGd; rw [rw_.len, aA, aN, aA, cA, decide_eq_true hlt, aE, fa, aA, ho.read (j := 0) rfl, aA, q1, aA, q2, aA, q5, aA, cG, aA]; by_cases hk1 : x.1.kind = 1
   · rw [decide_eq_true hk1, aE, if_pos hk1]; exact ⟨0, h, rfl, aH.refl _, λ hh => by cases hh⟩
   · rw [decide_eq_false hk1, aC, if_neg hk1]; have lk := s1 A x.2 x.1.l nm h (rx x (List.mem_of_getElem? hx)) (by omega)
     rw [aA, ho.read (j := 0) rfl, aA, q1, aA, q2, aA, q7, aA, i1, aA, i2, aA, b1, lk, aB, aY, aA, aX, aA, bR, aA]; by_cases hh : eJ x.1.l nm = true
     · have e0 : mD x.1.l nm = 0 := by unfold mD; rw [hh]; rfl
       obtain ⟨mm, hm⟩ := hI.ent _ (xF (cZ hg).1 (mC hh)); obtain ⟨p', hp1, hp2⟩ := rQ hm; obtain ⟨h', f1, g1⟩ := s2 A (.agg [s, ii T.gen]) T (jK x.1.l nm) h ⟨s, xs, rfl, e2, re, rx⟩ (by have := hI.llen; omega)
       have hpv : jT T.l (jK x.1.l nm) = .ofNat p' := by unfold jT; rw [hp1]
       rw [hpv] at f1; obtain ⟨pl', h2, f2, g2, c2⟩ := ih (j + 1) p' (jK x.1.l nm) m h' mm (by omega) (by omega) (rw_.grown g1) (ho.grown g1) (re.grown g1) (λ y hy => (rx y hy).grown g1) hp2 (cZ hm).2
       rw [if_pos hh]; refine ⟨pl', h2, ?_, g1.trans g2, c2⟩; rw [e0]; simp only [decide_true, Bool.not_true]; rw [aC, ho.all (n := 2) rfl, aA, b2, f1, aB, bV (by omega), aA]
       exact f2
     · have e0 : mD x.1.l nm = 7 := by unfold mD; rw [if_neg hh]
       rw [if_neg hh, e0]; refine ⟨0, h, ?_, aH.refl _, λ hh2 => by cases hh2⟩
       rw [show (!decide (7 = 0)) = true from rfl, aE]
theorem aNT {E : bO} (hS : cD E 154 iU) (hL : cD E 151 sI) (hAt : cD E 122 qZ) : mH (aWW E) := by
 obtain ⟨B0, b0, s0⟩ := hS.call; obtain ⟨B2, b2, s2⟩ := hAt.call; intro A v T k p h r hI hk hp; have r0 := r; obtain ⟨s, xs, rfl, e2, e3, e4⟩ := r; obtain ⟨h1, eh, g1, o1⟩ := aP h 2 2 [s, ii T.gen] rfl; obtain ⟨w, h4, f4, r4, g4⟩ := s0 p h1 hp; have o4 := o1.grown g4; show ∃ pl h', aKo E (.agg [s, ii T.gen]) (.str p) h = _ /\ _; unfold aKo; rw [nbx eh rfl, b0, f4, aB, aY, aA, aX, aA, bR, aA]; unfold aV; by_cases hE : eI p = 0
 · obtain ⟨r1, hr1, _⟩ := hI.root; obtain ⟨p', hp1, hp2⟩ := rQ hr1; obtain ⟨h10, f10, g10⟩ := s2 A (.agg [s, ii T.gen]) T 1 h4 (r0.grown (g1.trans g4)) (by have := hI.llen; omega)
   have hpv : jT T.l 1 = .ofNat p' := by unfold jT; rw [hp1]
   rw [hpv] at f10; have hnl : (aO p).length < 1000000 := by
     have := (iA p).2.2.1; omega
   have G := (g1.trans g4).trans g10; obtain ⟨pl, h', f5, g5, c5⟩ := aIs (E := E) hL hAt hI hk hnl e2 (aO p).length 0 p' 1 (aR - ((aO p).length + 1)) h10 r1 (by omega) (by omega) (r4.grown g10) (o4.grown g10) (e3.grown G) (λ y hy => (e4 y hy).grown G) hp2 (cZ hr1).2
   rw [show aR - ((aO p).length + 1) + ((aO p).length + 1) = aR from by unfold aR; omega] at f5
   rw [List.drop_zero] at f5 c5; rw [if_pos hE]; refine ⟨pl, h', ?_, G.trans g5, c5⟩; rw [hE]; simp only [decide_true, Bool.not_true]; rw [aC, o4.all (n := 2) rfl, aA, b2, f10, aB]; exact f5
 · rw [if_neg hE]; refine ⟨0, h4, ?_, g1.trans g4, λ x => absurd x hE⟩
   have d : (!decide (eI p = 0)) = true := by simp [hE]
   rw [d, aE]
theorem aOr {l : List (Ln)} (h : (dE l).length <= 255) : (vD l).length <= 255 := by
 unfold vD; split
 · simp
 · exact h
theorem aMf {l : List (Ln)} (n : Nat) : (dE (l.take n)).length <= (dE l).length := by
 conv => rhs; rw [<- List.take_append_drop n l]
 unfold dE; rw [List.map_append, List.flatten_append, List.length_append]; omega
theorem aOt {p : Ln} (h : aO p ≠ []) : eI (aDv p) = 0 /\ aO (aDv p) = (aO p).take ((aO p).length - 1) /\ (aDv p).length <= 255 := by
 obtain ⟨o1, o2, o3, o4⟩ := iA p; have hn : ∀ n ∈ (aO p).take ((aO p).length - 1), eD n = true := λ n hn => o1 n (List.mem_of_mem_take hn)
 have hl : (dE ((aO p).take ((aO p).length - 1))).length <= 255 := Nat.le_trans (aMf _) o2; have hj := aLX hn hl; have hs := rB hn hl; have e : aDv p = vD ((aO p).take ((aO p).length - 1)) := by
   unfold aDv aER; rw [if_neg h, hj]; rfl
 rw [e]; refine ⟨by unfold eI; rw [hs], by show (jA _).getD [] = _; rw [hs]; rfl, aOr hl⟩
def qE (B : cE) : Prop := ∀ (A : Nat -> Prop) (v : DV) (T : TreeP) (k : Nat) (p : Ln) (h : H), dR A h v T -> Inv k T -> k < 900 -> p.length < 140737488355328 ->
 ∃ pl h', B [v, .str p] h = some (.tup [ii pl, .str (bT T p).2.1, ii ((bT T p).2.2)], h') /\ aH h h' /\ ((bT T p).2.2 = 0 -> jU T.l (bT T p).1 = some pl)
theorem aSJ {E : bO} (hP : cD E 150 aAg) (hW : cD E 124 mH) : qE (aXa E) := by
 obtain ⟨B0, b0, s0⟩ := hP.call; obtain ⟨B1, b1, s1⟩ := hW.call; intro A v T k p h r hI hk hp; have r0 := r; obtain ⟨s, xs, rfl, e2, e3, e4⟩ := r; obtain ⟨h1, eh, g1, o1⟩ := aP h 2 2 [s, ii T.gen] rfl; obtain ⟨h4, f4, g4⟩ := s0 p h1 hp; have o4 := o1.grown g4; show ∃ pl h', aKt E (.agg [s, ii T.gen]) (.str p) h = _ /\ _; unfold aKt; rw [nbx eh rfl, b0, f4, aB, aY, aA, aX, aA, oX, aA, bR, aA]; unfold bT; by_cases hne : aO p = []
 · have e15 : aIK p = 15 := by unfold aIK; rw [if_pos hne]
   rw [if_pos hne]; refine ⟨0, h4, ?_, g1.trans g4, λ x => by cases x⟩
   rw [e15, show (!decide (15 = 0)) = true from rfl, aE]
 · have e0 : aIK p = 0 := by unfold aIK; rw [if_neg hne]
   obtain ⟨d1, d2, d3⟩ := aOt hne; obtain ⟨pl, h11, f11, g11, c11⟩ := s1 A (.agg [s, ii T.gen]) T k (aDv p) h4 (r0.grown (g1.trans g4)) hI hk (by omega)
   have hlk : aV T (aDv p) = eP T.l ((aO p).take ((aO p).length - 1)) 1 := by unfold aV; rw [if_pos d1, d2]
   rw [hlk] at f11 c11; have G := (g1.trans g4).trans g11; rw [if_neg hne, e0, show (!decide (0 = 0)) = false from rfl, aC, o4.all (n := 2) rfl, aA, b1, f11, aB, aY, aA, aX, aA, bR, aA]
   by_cases hw : (eP T.l ((aO p).take ((aO p).length - 1)) 1).2 = 0
   · obtain ⟨n, hp1, hg⟩ := eN (c11 hw); obtain ⟨x, hx, rfl⟩ := jD e2 hp1; obtain ⟨bb, o, q1, q2, q3, q4, q5, q6, q7, q8⟩ := gG (e3.grown G) hx .i64; have fa0 : aF 0 (.ptr h.size 0) = some (.ptr h.size 0) := by rw [aM]
     rw [if_pos hw, hg]; simp only [hw, decide_true, Bool.not_true]; rw [aC, fa0, aA, (o4.grown g11).read (j := 0) rfl, aA, q1, aA, q2, aA, q5, aA, cG, aA]; by_cases hk1 : x.1.kind = 1
     · rw [decide_eq_true hk1, aE, if_pos hk1]; exact ⟨0, h11, rfl, G, λ y => by cases y⟩
     · rw [decide_eq_false hk1, aC, if_neg hk1]; exact ⟨pl, h11, rfl, G, λ _ => c11 hw⟩
   · rw [if_neg hw]; refine ⟨0, h11, ?_, G, λ y => absurd y hw⟩
     have d : (!decide ((eP T.l ((aO p).take ((aO p).length - 1)) 1).2 = 0)) = true := by simp [hw]
     rw [d, aE]
def xZ (B : cE) : Prop := ∀ (A : Nat -> Prop) (v : DV) (T : TreeP) (n : bD) (h : H), dR A h v T -> kK T.l -> T.l.length < 1000 -> n ∈ T.l -> (∀ c, h.size <= c -> A c) ->
 ∃ v' h', B [v, ii n.inode] h = some (v', h') /\ dR A h' v' ⟨jE T.l n.inode, T.gen⟩ /\ aH h h'
theorem aOk {E : bO} (hAt : cD E 122 qZ) : xZ (aWT E) := by
 obtain ⟨B1, b1, s1⟩ := hAt.call; intro A v T n h r hinc hl hn hA; have r0 := r; obtain ⟨s, xs, rfl, e2, e3, e4⟩ := r; have hxl : xs.length = T.l.length := by rw [<- e2, List.length_map]
 obtain ⟨p, hp1, hp2⟩ := rQ (nX hinc hn); have hpl := (List.getElem?_eq_some_iff.1 hp2).1; obtain ⟨h2, eh2, g2, o2⟩ := aP h 2 2 [s, ii T.gen] rfl; obtain ⟨h4, eh4, g4, o4⟩ := aP h2 2 2 [.nils, ii 0] rfl; have z2 : h2.size = h.size + 1 := by rw [eh2]; exact H.size_push _ _
 have z4 : h4.size = h2.size + 1 := by rw [eh4]; exact H.size_push _ _
 obtain ⟨h7, f7, g7⟩ := s1 A (.agg [s, ii T.gen]) T n.inode h4 (r0.grown (g2.trans g4)) (by omega)
 have hpv : jT T.l n.inode = .ofNat p := by unfold jT; rw [hp1]
 rw [hpv] at f7; have G7 := (g2.trans g4).trans g7; have r7 := e3.grown G7; obtain ⟨v1, u1, w1⟩ := r7.to (i := p) (cM xs) (by omega) (by omega) .i64
 obtain ⟨v2, u2, w2⟩ := r7.from (i := p + 1) (cM xs) (by omega) (by omega) .i64
 have hone : ∀ ys : List NV, (∀ y ∈ ys, y ∈ xs) -> (eT ys).all DV.one = true := λ ys hy => xC (A := A) (h := h) λ y h' => e4 y (hy y h')
 obtain ⟨k1, t1, t2, t3⟩ := w1.src; have l1 : ((eT xs).take (p * 5)).length = p * 5 := by rw [List.length_take, cM]; omega
 have hk1 : k1 = p := by omega
 subst hk1; obtain ⟨y1, h16, f16, iG, p16⟩ := (lC.nil (n0 := h7.size) (es := 5) (h := h7)).app (Nat.le_refl _) (x := v1) (bytes := 64) t2 t3 l1 (by rw [pS]; exact hone _ λ y hy => List.mem_of_mem_take hy) (by omega) (λ m hm => iT (by simp at hm; omega) 64 (by omega))
 have g16 : aH h7 h16 := eE p16; obtain ⟨k2, t4, t5, t6⟩ := (w2.grown g16).src; have l2 : ((eT xs).drop ((k1 + 1) * 5)).length = (xs.length - (k1 + 1)) * 5 := by rw [List.length_drop, cM]; omega
 have hk2 : k2 = xs.length - (k1 + 1) := by omega
 subst hk2; obtain ⟨y2, h18, f18, iC, p18⟩ := iG.app p16.size (x := v2) (bytes := 64) t5 t6 l2 (by rw [pT]; exact hone _ λ y hy => List.mem_of_mem_drop hy) (by omega) (λ m hm => iT (by simp only [List.nil_append, l1] at hm; omega) 64 (by omega))
 have ecells : [] ++ (eT xs).take (k1 * 5) ++ (eT xs).drop ((k1 + 1) * 5) = eT (xs.take k1 ++ xs.drop (k1 + 1)) := by rw [List.nil_append, pS, pT, kY]
 rw [ecells] at iC; have g18 : aH h7 h18 := eE (p16.trans p18); have ot18 := ((o2.grown g4).grown g7).grown g18; have oz18 := (o4.grown g7).grown g18; obtain ⟨h21, f21, gZ, k21⟩ := ot18.set (v := y2) (j := 0) iC.one (by simp)
 have oz21 := oz18.but (by omega) k21
 have one2 : ([y2, ii T.gen]).all DV.one = true := by simp only [List.all_cons, List.all_nil, iC.one]; rfl
 obtain ⟨h24, f24, iP, k24⟩ := oz21.setAll (n := 2) (cs := [y2, ii T.gen]) rfl rfl one2; have z7 := g7.size; have G : aH h h24 := k24.grown (k21.grown (G7.trans g18) (Nat.le_refl _)) (by omega)
 have row24 : RowE A 5 h24 y2 (eT (xs.take k1 ++ xs.drop (k1 + 1))) := by
   have a := iC.row (A := λ c => h7.size <= c) (λ c hc _ => hc)
   exact a.move (by rw [k24.size, k21.size]; exact Nat.le_refl _) (λ c hc _ => (k24.get c (by omega)).trans (k21.get c (by omega))) (λ c hc _ => hA c (by omega))
 refine ⟨.agg [y2, ii T.gen], h24, ?_, ⟨y2, xs.take k1 ++ xs.drop (k1 + 1), rfl, ?_, row24, λ y hy => ?_⟩, G⟩
 · show aKk E (.agg [s, ii T.gen]) (ii n.inode) h = _; unfold aKk; have fa0 : aF 0 (.ptr h.size 0) = some (.ptr h.size 0) := by rw [aM]
   have rd7 := ((o2.grown g4).grown g7).read (j := 0) (x := s) rfl; have rd16 := (((o2.grown g4).grown g7).grown g16).read (j := 0) (x := s) rfl; have ld21 : aK 2 h21.get (.ptr h.size 0) = some (.agg [y2, ii T.gen]) := gZ.all (n := 2) rfl; rw [nbx eh2 rfl, bW, <- eh4, (o2.grown g4).all (n := 2) rfl, aA, b1, f7, aB, fa0, aA, rd7, aA, u1, aA, aA, rd7, aA,
     bV (by omega), aA, u2, aA, f16, aB, rd16, wX e3, gF, f18, aB, aA, f21, aB, ld21, aA, f24, aB, iP.all (n := 2) rfl, aA]
 · show _ = jE T.l n.inode; rw [List.map_append, List.map_take, List.map_drop, e2]; exact bKi hinc hp2
 · rcases List.mem_append.1 hy with hy | hy
   · exact (e4 y (List.mem_of_mem_take hy)).grown G
   · exact (e4 y (List.mem_of_mem_drop hy)).grown G
theorem aUe {α : Type} {p : α -> Bool} {l : List α} {j : Nat} {e : α} (hj : j < (l.takeWhile p).length) (he : l[j]? = some e) : p e = true := by
 have h1 : (l.takeWhile p)[j]? = some e := by
   have : l = l.takeWhile p ++ l.dropWhile p := (List.takeWhile_append_dropWhile).symm; rw [this, List.getElem?_append_left hj] at he; exact he
 exact nR (List.mem_of_getElem? h1)
theorem bFm {α : Type} {p : α -> Bool} : ∀ {l : List α} {e : α}, l[(l.takeWhile p).length]? = some e -> p e = false
 | [], e, h => by simp at h
 | x :: l, e, h => by
   rw [List.takeWhile_cons] at h; split at h
   · simp only [List.length_cons, List.getElem?_cons_succ] at h; exact bFm h
   · rename_i hx; simp only [List.length_nil, List.getElem?_cons_zero, Option.some.injEq] at h; subst h; simpa using hx
theorem aUd {α : Type} (p : α -> Bool) (l : List α) : l.take (l.takeWhile p).length = l.takeWhile p /\ l.drop (l.takeWhile p).length = l.dropWhile p := by
 have e : l = l.takeWhile p ++ l.dropWhile p := (List.takeWhile_append_dropWhile).symm; constructor
 · conv => lhs; arg 2; rw [e]
   rw [List.take_left]
 · conv => lhs; arg 2; rw [e]
   rw [List.drop_left]
theorem aOE {L : NL} (h : aAW L = none) : ∀ j, 2 <= j -> j < 256 -> ∃ n, bH L j = some n := by
 intro j h1 h2; unfold aAW at h; have := List.find?_eq_none.1 h j (by rw [List.mem_range'_1]; omega)
 cases hg : bH L j with
 | none => rw [hg] at this; simp at this
 | some n => exact ⟨n, rfl⟩
def jN (L : NL) : Nat := (aAW L).getD 256
theorem aBc {k : Nat} {T : TreeP} (h : Inv k T) : 2 <= jN T.l /\ jN T.l <= 256 /\ bH T.l (jN T.l) = none /\ ∀ j, 2 <= j -> j < jN T.l -> ∃ n, bH T.l j = some n := by
 unfold jN; cases hf : aAW T.l with
 | none =>
   refine ⟨by simp, by simp, aAU λ n hn => ?_, λ j h1 h2 => aOE hf j h1 (by simpa using h2)⟩
   have := (h.ok n hn).rng; simp; omega
 | some i =>
   obtain ⟨f1, f2, f3, f4⟩ := tR hf; exact ⟨f1, by simp; omega, f3, f4⟩
theorem aUx {E : bO} (hAt : cD E 122 qZ) {A : Nat -> Prop} {T : TreeP} {k0 : Nat} (hI : Inv k0 T) {s r2 r6 r8 r9 : DV} {b : Nat} :
   ∀ (k j m : Nat) (h : H), jN T.l - j = k -> 2 <= j -> j <= jN T.l -> bB h b [s, ii T.gen] -> dR A h (.agg [s, ii T.gen]) T ->
   ∃ h', aHM E r2 (.ptr b 0) r6 r8 r9 (m + (k + 1)) (ii j) h = aMR E r2 (.ptr b 0) r6 r8 r9 (ii (jN T.l)) h' /\ aH h h' := by
 obtain ⟨B, hB, sB⟩ := hAt.call; obtain ⟨q1, q2, q3, q4⟩ := aBc hI; have hl := hI.llen; intro k
 induction k with
 | zero =>
   intro j m h hk h2 hj ho r; have : j = jN T.l := by omega
   subst this; obtain ⟨h', f1, g1⟩ := sB A _ T (jN T.l) h r (by omega)
   have hpv : jT T.l (jN T.l) = .negSucc 0 := by unfold jT; rw [aEC q3]
   rw [hpv] at f1; refine ⟨h', ?_, g1⟩; show aNh E _ _ _ _ _ (aHM E _ _ _ _ _ m) _ h = _; unfold aNh; rw [ho.all (n := 2) rfl, aA, hB, f1, aB]; have e : mI (.int .i64 (.negSucc 0)) (ii 0) = some (.bool false) := rfl; rw [e, aA, aC]
 | succ k ih =>
   intro j m h hk h2 hj ho r; obtain ⟨n, hn⟩ := q4 j h2 (by omega)
   obtain ⟨p, hp1, _⟩ := rQ hn; obtain ⟨h', f1, g1⟩ := sB A _ T j h r (by omega)
   have hpv : jT T.l j = .ofNat p := by unfold jT; rw [hp1]
   rw [hpv] at f1; obtain ⟨h3, f2, g2⟩ := ih (j + 1) m h' (by omega) (by omega) (by omega) (ho.grown g1) (r.grown g1)
   refine ⟨h3, ?_, g1.trans g2⟩; show aNh E _ _ _ _ _ (aHM E _ _ _ _ _ (m + (k + 1))) _ h = _; unfold aNh; rw [ho.all (n := 2) rfl, aA, hB, f1, aB, fA, aA, decide_eq_true (Nat.zero_le p), aE, bV (by omega), aA]
   exact f2
def lO (L : NL) (i : Nat) : Nat := (L.takeWhile λ n => decide (n.inode < i)).length
theorem bBM {E : bO} {A : Nat -> Prop} {s g r2 r6 : DV} {b i : Nat} {xs : List NV} (hl : xs.length < 1000) {h : H} (re : RowE A 5 h s (eT xs)) (ho : bB h b [s, g]) :
   ∀ (k j m : Nat), lO (xs.map (·.1)) i - j = k -> j <= lO (xs.map (·.1)) i ->
   aHL E r2 (.ptr b 0) r6 (ii i) (m + (k + 1)) (ii j) h = aHS E r2 (.ptr b 0) r6 (ii i) (ii (lO (xs.map (·.1)) i)) h := by
 obtain ⟨n, e1, e2⟩ := re.len; have hn : n = xs.length := by rw [cM] at e1; omega
 subst hn; have fa : aF 0 (.ptr b 0) = some (.ptr b 0) := by rw [aM]
 have hple : lO (xs.map (·.1)) i <= xs.length := by
   have := (List.takeWhile_sublist (λ n : bD => decide (n.inode < i)) (l := xs.map (·.1))).length_le
   rw [List.length_map] at this; exact this
 have rd := ho.read (j := 0) (x := s) rfl; intro k
 induction k with
 | zero =>
   intro j m hk hj; have : j = lO (xs.map (·.1)) i := by omega
   subst this; show aNg E _ _ _ _ (aHL E _ _ _ _ m) _ h = _; unfold aNg; rw [fa, aA, rd, aA, e2, aA, aN, aA]; by_cases hlt : lO (xs.map (·.1)) i < xs.length
   · obtain ⟨x, hx⟩ : ∃ x, xs[lO (xs.map (·.1)) i]? = some x := ⟨_, List.getElem?_eq_getElem hlt⟩; obtain ⟨bb, o, q1, q2, q3, q4, q5, q6, q7, q8⟩ := gG re hx .i64; have hno : (decide (x.1.inode < i)) = false := bFm (l := xs.map (·.1)) (p := λ n : bD => decide (n.inode < i)) (by
       show (xs.map (·.1))[lO (xs.map (·.1)) i]? = some x.1; rw [List.getElem?_map, hx]; rfl)
     simp only [decide_eq_true hlt, hH, fa, aA, rd, q1, q2, q3, aN, hno, bX]; rw [aC]
   · simp only [decide_eq_false hlt, vJ, eK, bY, aA]; rw [aC]
 | succ k ih =>
   intro j m hk hj; have hlt : j < xs.length := by omega
   obtain ⟨x, hx⟩ : ∃ x, xs[j]? = some x := ⟨_, List.getElem?_eq_getElem hlt⟩; obtain ⟨bb, o, q1, q2, q3, q4, q5, q6, q7, q8⟩ := gG re hx .i64; have hyes : (decide (x.1.inode < i)) = true := aUe (l := xs.map (·.1)) (p := λ n : bD => decide (n.inode < i)) (j := j) (by show j < lO (xs.map (·.1)) i; omega) (by rw [List.getElem?_map, hx]; rfl)
   show aNg E _ _ _ _ (aHL E _ _ _ _ (m + (k + 1))) _ h = _; unfold aNg; rw [fa, aA, rd, aA, e2, aA, aN, aA]; simp only [decide_eq_true hlt, hH, fa, aA, rd, q1, q2, q3, aN, hyes, bX]; rw [aE, bV (by omega), aA]
   exact ih (j + 1) m (by omega) (by omega)
theorem bBN {E : bO} {A : Nat -> Prop} {T : TreeP} {s : DV} {xs : List NV} {i kind b1 b3 n0 : Nat} {h : H} {L3 : List DV} (hl : xs.length < 1000) (e2 : xs.map (·.1) = T.l) (re : RowE A 5 h s (eT xs)) (rx : ∀ x ∈ xs, RowE A 2 h x.2 (eA x.1.l)) (o1 : bB h b1 [s, ii T.gen]) (o3 : bB h b3 L3) (h3 : L3.length = 2)
   (h13 : b1 ≠ b3) (hA1 : ¬ A b1) (hA3 : ¬ A b3) (hA : ∀ c, h.size <= c -> A c) (hn1 : n0 <= b1) (hn3 : n0 <= b3) :
   ∃ v' h', aHS E (ii kind) (.ptr b1 0) (.ptr b3 0) (ii i) (ii (lO T.l i)) h = some (.tup [v', ii 0], h') /\ dR A h' v' ⟨qH T.l ⟨i, T.gen, kind, [], []⟩, T.gen⟩ /\ cL n0 h h' := by
 have hxl : xs.length = T.l.length := by rw [<- e2, List.length_map]
 have hb1 := o1.1; have hb3 := o3.1; have hple : lO T.l i <= xs.length := by
   have := (List.takeWhile_sublist (λ n : bD => decide (n.inode < i)) (l := T.l)).length_le
   rw [hxl]; exact this
 have fa0 : aF 0 (.ptr b1 0) = some (.ptr b1 0) := by rw [aM]
 have fa1 : aF 1 (.ptr b1 0) = some (.ptr b1 1) := by rw [aM]
 obtain ⟨v1, u1, w1⟩ := re.to (i := lO T.l i) (cM xs) hple (by omega) .i64
 obtain ⟨v2, u2, w2⟩ := re.from (i := lO T.l i) (cM xs) hple (by omega) .i64
 obtain ⟨h8, eh8, g8, o8⟩ := aP h 5 5 (iH (⟨i, T.gen, kind, [], []⟩, .nils)) rfl; have z8 : h8.size = h.size + 1 := by rw [eh8]; exact H.size_push _ _
 have hone : ∀ ys : List NV, (∀ y ∈ ys, y ∈ xs) -> (eT ys).all DV.one = true := λ ys hy => xC (A := A) (h := h) λ y h' => rx y (hy y h')
 obtain ⟨k1, t1, t2, t3⟩ := (w1.grown g8).src; have l1 : ((eT xs).take (lO T.l i * 5)).length = lO T.l i * 5 := by rw [List.length_take, cM]; omega
 have hk1 : k1 = lO T.l i := by omega
 subst hk1; obtain ⟨y1, h13', f13, fX, p13⟩ := (lC.nil (n0 := h8.size) (es := 5) (h := h8)).app (Nat.le_refl _) (x := v1) (bytes := 64) t2 t3 l1 (by rw [pS]; exact hone _ λ y hy => List.mem_of_mem_take hy) (by omega) (λ m hm => iT (by simp at hm; omega) 64 (by omega))
 have g13 : aH h8 h13' := eE p13; have hN2 : dP 5 h13'.get (.slc h.size 0 1 1 false) = some (iH (⟨i, T.gen, kind, [], []⟩, .nils)) := by
   have := (o8.grown g13).cells (o := 0) (k := 5) (by simp [iH])
   exact this
 obtain ⟨y2, h15, f15, iW, p15⟩ := fX.app p13.size (x := .slc h.size 0 1 1 false) (k := 1) (bytes := 64) rfl hN2 rfl rfl (by omega) (λ m hm => iT (by simp only [List.nil_append, l1] at hm; omega) 64 (by omega))
 have K15 : cL h8.size h8 h15 := p13.trans p15; have g15 : aH h8 h15 := eE K15; obtain ⟨k2, t4, t5, t6⟩ := ((w2.grown g8).grown g15).src; have l2 : ((eT xs).drop (lO T.l i * 5)).length = (xs.length - lO T.l i) * 5 := by rw [List.length_drop, cM]; omega
 have hk2 : k2 = xs.length - lO T.l i := by omega
 subst hk2; obtain ⟨y3, h17, f17, iL, p17⟩ := iW.app K15.size (x := v2) (bytes := 64) t5 t6 l2 (by rw [pT]; exact hone _ λ y hy => List.mem_of_mem_drop hy) (by omega) (λ m hm => iT (by
   simp only [List.nil_append, List.length_append, l1] at hm; have e5 : (iH (⟨i, T.gen, kind, [], []⟩, DV.nils)).length = 5 := rfl; rw [e5] at hm; omega) 64 (by omega))
 have g17 : aH h8 h17 := eE (K15.trans p17); have ecells : [] ++ (eT xs).take (lO T.l i * 5) ++ iH (⟨i, T.gen, kind, [], []⟩, .nils) ++ (eT xs).drop (lO T.l i * 5) = eT (xs.take (lO T.l i) ++ (⟨i, T.gen, kind, [], []⟩, .nils) :: xs.drop (lO T.l i)) := by
   rw [List.nil_append, pS, pT, kY, pU]; simp
 rw [ecells] at iL; have o1' := (o1.grown g8).grown g17; have o3' := (o3.grown g8).grown g17; obtain ⟨h20, f20, iV, k20⟩ := o1'.set (v := y3) (j := 0) iL.one (by simp)
 have one2 : ([y3, ii T.gen]).all DV.one = true := by simp only [List.all_cons, List.all_nil, iL.one]; rfl
 obtain ⟨h23, f23, iB, k23⟩ := (o3'.but (Ne.symm h13) k20).setAll (n := 2) (cs := [y3, ii T.gen]) h3 rfl one2; have gg : aH h h17 := g8.trans g17; have same : ∀ c, c ≠ b1 -> c ≠ b3 -> c < h.size -> h23.get c = h.get c := λ c c1 c2 c3 => (k23.get c c2).trans ((k20.get c c1).trans (gg.get c c3))
 have size : h.size <= h23.size := by rw [k23.size, k20.size]; exact gg.size
 have row23 : RowE A 5 h23 y3 (eT (xs.take (lO T.l i) ++ (⟨i, T.gen, kind, [], []⟩, .nils) :: xs.drop (lO T.l i))) := by
   have a := iL.row (A := λ c => h8.size <= c) (λ c hc _ => hc)
   exact a.move (by rw [k23.size, k20.size]; exact Nat.le_refl _) (λ c hc _ => (k23.get c (by omega)).trans (k20.get c (by omega))) (λ c hc _ => hA c (by omega))
 have moveA : ∀ x ∈ xs, RowE A 2 h23 x.2 (eA x.1.l) := λ x hx => (rx x hx).move size (λ c hc hc2 => same c (λ e => hA1 (e ▸ hc)) (λ e => hA3 (e ▸ hc)) hc2) λ _ hc _ => hc
 refine ⟨.agg [y3, ii T.gen], h23, ?_, ⟨y3, _, rfl, ?_, row23, λ y hy => ?_⟩, ⟨size, λ c hc => same c (by omega) (by omega) (by omega)⟩⟩
 · unfold aHS; have bld : eM [(ii 0), (ii 0), (ii 0), (.str []), .nils] [(0, 1, ii i), (1, 1, ii T.gen), (2, 1, ii kind)] = some (.agg (iH (⟨i, T.gen, kind, [], []⟩, .nils))) := rfl; have hf : iJ (gR [(ii 0), (ii 0), (ii 0), (.str []), .nils] 1) [(0, 5, .agg (iH (⟨i, T.gen, kind, [], []⟩, .nils)))] = some (iH (⟨i, T.gen, kind, [], []⟩, .nils)) := rfl; have rd0 := o1.read (j := 0) (x := s) rfl; have rd1 := o1.read (j := 1) (x := ii T.gen) rfl; have rd8 := (o1.grown g8).read (j := 0) (x := s) rfl; have rd13 := ((o1.grown g8).grown g13).read (j := 0) (x := s) rfl; have rd13' := ((o1.grown g8).grown g13).read (j := 1) (x := ii T.gen) rfl; have rd15 := ((o1.grown g8).grown g15).read (j := 0) (x := s) rfl; have ld20 : aK 2 h20.get (.ptr b1 0) = some (.agg [y3, ii T.gen]) := iV.all (n := 2) rfl; rw [fa0, aA, rd0, aA, u1, aA, fa1, aA, rd1, aA, bld, aA]; simp only [gT, hf, Option.bind_some, H.pushK_eq]; rw [show h.push (.blk ⟨1 * 5, 5, false, true, Tr.ofL (iH (⟨i, T.gen, kind, [], []⟩, .nils))⟩) = h8 from eh8.symm, aA, rd8, aA, u2, aA, f13, aB, rd13, wX re, gF, rd13', oZ, gF, f15, aB, rd15, wX re, gF, f17, aB, aA, f20, aB, ld20, aA, f23, aB, iB.all (n := 2) rfl, aA]
 · show _ = qH T.l _; rw [List.map_append, List.map_cons, List.map_take, List.map_drop, e2]; obtain ⟨s1, s2⟩ := aUd (λ n : bD => decide (n.inode < i)) T.l
   unfold lO qH; rw [s1, s2]
 · rcases List.mem_append.1 hy with hy | hy
   · exact moveA y (List.mem_of_mem_take hy)
   · rcases List.mem_cons.1 hy with rfl | hy
     · exact RowE.nils
     · exact moveA y (List.mem_of_mem_drop hy)
theorem dR.weak {A A' : Nat -> Prop} {h : H} {v : DV} {T : TreeP} (r : dR A h v T) (hA : ∀ c, A c -> c < h.size -> A' c) : dR A' h v T := by
 obtain ⟨s, xs, e1, e2, e3, e4⟩ := r; exact ⟨s, xs, e1, e2, e3.weak hA, λ x hx => (e4 x hx).weak hA⟩
def aCo (B : cE) : Prop := ∀ (A : Nat -> Prop) (v : DV) (T : TreeP) (k : Nat) (p : Ln) (kind : Nat) (h : H), dR A h v T -> Inv k T -> k < 900 -> bF p = true -> p.length < 140737488355328 -> (∀ c, h.size <= c -> A c) ->
 ∃ v' h', B [v, .str p, ii kind] h = some (.tup [v', ii ((mkT T p kind).2)], h') /\ dR A h' v' (mkT T p kind).1 /\ aH h h'
theorem aUw {E : bO} (hP : cD E 120 qE) (hT : cD E 121 qD) (hAt : cD E 122 qZ) (hPut : cD E 123 wD) : aCo (S66 E) := by
 obtain ⟨B1, b1, s1⟩ := hP.call; obtain ⟨B2, b2, s2⟩ := hT.call; obtain ⟨B3, b3, s3⟩ := hPut.call; intro A v T k p kind h r hI hk hok hp hA; have r0 := r; obtain ⟨s, xs, rfl, e2, e3, e4⟩ := r; have hs1 := RowE.one e3; have hll := hI.llen; obtain ⟨h2, eh2, g2, o2⟩ := aP h 2 2 [s, ii T.gen] rfl; obtain ⟨h4, eh4, g4, o4⟩ := aP h2 2 2 [.nils, ii 0] rfl; have z2 : h2.size = h.size + 1 := by rw [eh2]; exact H.size_push _ _
 have z4 : h4.size = h2.size + 1 := by rw [eh4]; exact H.size_push _ _
 have iP := o2.grown g4; obtain ⟨A', hA'⟩ : ∃ A' : Nat -> Prop, A' = λ c => (A c /\ c < h.size) \/ h4.size <= c := ⟨_, rfl⟩
 have back : ∀ c, A' c -> A c := λ c hc => by rw [hA'] at hc; exact hc.elim (·.1) λ x => hA c (by omega)
 have new' : ∀ c, h4.size <= c -> A' c := λ c hc => by rw [hA']; exact .inr hc
 have not1 : ¬ A' h.size := by rw [hA']; rintro (⟨_, x⟩ | x) <;> omega
 have not3 : ¬ A' h2.size := by rw [hA']; rintro (⟨_, x⟩ | x) <;> omega
 have r4 : dR A' h4 (.agg [s, ii T.gen]) T := r0.move (g2.trans g4).size (λ c _ hc => (g2.trans g4).get c hc) (λ c ha hc => by rw [hA']; exact .inl ⟨ha, hc⟩)
 obtain ⟨pl, h7, f7, g7, c7⟩ := s1 A' _ T k p h4 r4 hI hk hp; have G7 := (g2.trans g4).trans g7; have same : ∀ (hh : H) (e : Nat), aH h4 hh -> ∃ h', (vK (aK 2 hh.get (.ptr h.size 0)) λ x12 => wK (bQ 2 (.ptr h2.size 0) x12 hh) λ x13 h14 => vK (aK 2 h14.get (.ptr h2.size 0)) λ x15 => some ((.tup [x15, ii e]), h14) : aU) = some (.tup [.agg [s, ii T.gen], ii e], h') /\ dR A h' (.agg [s, ii T.gen]) T /\ aH h h' := by
   intro hh e g; have one2 : ([s, ii T.gen]).all DV.one = true := by simp only [List.all_cons, List.all_nil, hs1]; rfl
   obtain ⟨h', q1, q2, q3⟩ := (o4.grown g).setAll (n := 2) (cs := [s, ii T.gen]) rfl rfl one2; have G := q3.grown ((g2.trans g4).trans g) (by omega)
   refine ⟨h', by rw [(iP.grown g).all (n := 2) rfl, aA, q1, aB, q2.all (n := 2) rfl, aA], ?_, G⟩
   exact r0.grown G
 show ∃ v' h', aRB E (.agg [s, ii T.gen]) (.str p) (ii kind) h = _ /\ _; unfold aRB; rw [nbx eh2 rfl, bW, <- eh4, iP.all (n := 2) rfl, aA, b1, f7, aB, aY, aA, aX, aA, oX, aA, bR, aA]; unfold mkT; by_cases he : (bT T p).2.2 = 0
 · obtain ⟨hne, hw, ⟨n, hn, hk1⟩, hnm⟩ := mM (T := T) (p := p) (d := (bT T p).1) (name := (bT T p).2.1) (by rw [<- he])
   obtain ⟨n', hp1, hg⟩ := eN (c7 he); rw [hn] at hg; cases hg; have hnok := pA hok hne; rw [<- hnm] at hnok; generalize (bT T p).1 = d at *; generalize (bT T p).2.1 = name at *; have hk2 := aDa hI hn hk1; have hlen := (hI.of hn).1.len; obtain ⟨h18, f18, g18⟩ := s2 A' _ T pl n name h7 (r4.grown g7) hp1 (by omega)
   have hth : kF T d name = eJ n.l name := by unfold kF; rw [hn]
   rw [if_pos he, he, show (!decide (0 = 0)) = false from rfl, aC, (iP.grown g7).all (n := 2) rfl, aA, b2, f18, aB, hth]
   by_cases hh : eJ n.l name = true
   · rw [hh, aE, if_pos rfl]; obtain ⟨h', q1, q2, q3⟩ := same h18 6 (g7.trans g18); exact ⟨_, h', q1, q2, q3⟩
   · rw [Bool.not_eq_true] at hh; rw [hh, aC, if_neg (by simp)]
     obtain ⟨y1, y2, y3, y4⟩ := aBc hI; obtain ⟨h20, f20, g20⟩ := aUx (E := E) hAt hI (s := s) (r2 := ii kind) (r6 := .ptr h2.size 0) (r8 := ii pl) (r9 := .str name) (b := h.size) (jN T.l - 2) 2 (aR - (jN T.l - 2 + 1)) h18 rfl (Nat.le_refl _) y1 ((iP.grown g7).grown g18) ((r4.grown g7).grown g18); rw [show aR - (jN T.l - 2 + 1) + (jN T.l - 2 + 1) = aR from by unfold aR; omega] at f20
     rw [f20]; unfold aMR; have g420 := (g7.trans g18).trans g20; cases hf : aAW T.l with
     | none =>
       have e256 : jN T.l = 256 := by unfold jN; rw [hf]; rfl
       rw [e256, fA, aA, decide_eq_true (Nat.le_refl _), aE]; obtain ⟨h', q1, q2, q3⟩ := same h20 5 g420; exact ⟨_, h', q1, q2, q3⟩
     | some i =>
       have ei : jN T.l = i := by unfold jN; rw [hf]; rfl
       obtain ⟨f1', f2', f3', _⟩ := tR hf; rw [ei, fA, aA, decide_eq_false (by omega), aC]
       have iV := iP.grown g420; have o420 := o4.grown g420; have z20 := g420.size; obtain ⟨u, h8, f8, r8, g8⟩ := s3 A' _ T pl n name i h20 (r4.grown g420) (by omega) hp1 (by omega) (by omega) f2' hnok.1 hh (λ c hc => new' c (by omega))
       have eset : T.l.set pl (dU (λ l => gD l name i) n) = gI T d name i := by
         rw [yX hI.inc hp1 (dU λ l => gD l name i), (cZ hn).2]; rfl
       rw [eset] at r8; obtain ⟨s', xs', eu, e2', e3', e4'⟩ := r8
       replace e2' : xs'.map (·.1) = gI T d name i := e2'
       have eu' : u = .agg [s', ii T.gen] := eu; subst eu'; have hs1' := RowE.one e3'; have one2 : ([s', ii T.gen]).all DV.one = true := by simp only [List.all_cons, List.all_nil, hs1']; rfl
       obtain ⟨h10, f10, fR, k10⟩ := (iV.grown g8).setAll (n := 2) (cs := [s', ii T.gen]) rfl rfl one2; obtain ⟨h16, f16, iG, k16⟩ := fR.set (v := ii ((T.gen + 1))) (j := 1) rfl (by simp)
       have o3' := ((o420.grown g8).but (by omega) k10).but (by omega) k16
       have mv : ∀ {es : Nat} {w : DV} {L : List DV}, RowE A' es h8 w L -> RowE A' es h16 w L := λ x => x.move (by rw [k16.size, k10.size]; exact Nat.le_refl _) (λ c hc _ => (k16.get c (λ e => not1 (e ▸ hc))).trans (k10.get c (λ e => not1 (e ▸ hc)))) λ _ hc _ => hc
       have hxl' : xs'.length <= 255 := by
         have a : (gI T d name i).length = T.l.length := by unfold gI fO; rw [List.length_map]
         have b : xs'.length = (gI T d name i).length := by rw [<- e2', List.length_map]
         omega
       have z8 := g8.size; have z16 : h16.size = h8.size := by rw [k16.size, k10.size]
       have hgen := hI.gen; have pos := bBM (E := E) (r2 := ii kind) (r6 := .ptr h2.size 0) (i := i) (by omega) (mv e3') iG (lO (xs'.map (·.1)) i) 0 (aR - (lO (xs'.map (·.1)) i + 1)) (by omega) (by omega)
       have hple : lO (xs'.map (·.1)) i <= xs'.length := by
         have := (List.takeWhile_sublist (λ n : bD => decide (n.inode < i)) (l := xs'.map (·.1))).length_le
         rw [List.length_map] at this; exact this
       rw [show aR - (lO (xs'.map (·.1)) i + 1) + (lO (xs'.map (·.1)) i + 1) = aR from by unfold aR; omega] at pos
       obtain ⟨v', h', q1, q2, q3⟩ := bBN (E := E) (A := A') (T := ⟨gI T d name i, T.gen + 1⟩) (kind := kind) (i := i) (n0 := h.size) (by omega) e2' (mv e3') (λ x hx => mv (e4' x hx)) iG o3' rfl (by omega) not1 not3 (λ c hc => new' c (by omega)) (Nat.le_refl _) (by omega)
       refine ⟨v', h', ?_, q2.weak λ c hc _ => back c hc, ?_⟩
       · have fa1 : aF 1 (.ptr h.size 0) = some (.ptr h.size 1) := by rw [aM]
         rw [iV.all (n := 2) rfl, aA, b3, f8, aB, f10, aB, fa1, aA, fR.read (j := 1) (x := ii T.gen) rfl, aA, bV (by omega), aA, aA, f16, aB]
         refine pos.trans ?_; rw [e2']; exact q1
       · have K : cL h.size h h16 := ((((g2.trans g4).trans g420).trans g8).keeps (Nat.le_refl _)).trans ((k10.keeps (Nat.le_refl _)).trans (k16.keeps (Nat.le_refl _))); exact eE (K.trans q3)
 · rw [if_neg he]; have d : (!decide ((bT T p).2.2 = 0)) = true := by simp [he]
   rw [d, aE]; obtain ⟨h', q1, q2, q3⟩ := same h7 (bT T p).2.2 g7; exact ⟨_, h', q1, q2, q3⟩
structure Pre (A A' : Nat -> Prop) (h h4 : H) (s : DV) (T : TreeP) : Prop where
 one : s.one = true
 size : h4.size = h.size + 2
 grown : aH h h4
 o1 : bB h4 h.size [s, ii T.gen]
 o3 : bB h4 (h.size + 1) [.nils, ii 0]
 back : ∀ c, A' c -> A c
 new : ∀ c, h4.size <= c -> A' c
 not1 : ¬ A' h.size
 not3 : ¬ A' (h.size + 1)
 ref : dR A' h4 (.agg [s, ii T.gen]) T
theorem vB {A : Nat -> Prop} {h : H} {s : DV} {T : TreeP} (r : dR A h (.agg [s, ii T.gen]) T) (hA : ∀ c, h.size <= c -> A c) :
   ∃ A' h4, (∀ {R : Type} (k : DV -> DV -> H -> Option R), dN (.agg [s, ii T.gen]) h (λ x1 h2 => dZ 2 2 (.list [.nils, ii 0]) h2 λ x3 h4 => k x1 x3 h4) = k (.ptr h.size 0) (.ptr (h.size + 1) 0) h4) /\ Pre A A' h h4 s T := by
 have r0 := r; obtain ⟨s', xs, e1, e2, e3, e4⟩ := r; simp only [DV.agg.injEq, List.cons.injEq, and_true] at e1; subst e1; obtain ⟨h2, eh2, g2, o2⟩ := aP h 2 2 [s, ii T.gen] rfl; obtain ⟨h4, eh4, g4, o4⟩ := aP h2 2 2 [.nils, ii 0] rfl; have z2 : h2.size = h.size + 1 := by rw [eh2]; exact H.size_push _ _
 have z4 : h4.size = h2.size + 1 := by rw [eh4]; exact H.size_push _ _
 rw [z2] at o4; refine ⟨λ c => (A c /\ c < h.size) \/ h4.size <= c, h4, λ k => ?_, RowE.one e3, by omega, g2.trans g4, o2.grown g4, o4, λ c hc => hc.elim (·.1) λ x => hA c (by omega), λ c hc => .inr hc, by rintro (⟨_, x⟩ | x) <;> omega, by rintro (⟨_, x⟩ | x) <;> omega, r0.move (g2.trans g4).size (λ c _ hc => (g2.trans g4).get c hc) (λ c ha hc => .inl ⟨ha, hc⟩)⟩
 rw [nbx eh2 rfl, bW, <- eh4, z2]
theorem jB {A A' : Nat -> Prop} {h h4 hh : H} {s s' : DV} {T T' : TreeP} (P : Pre A A' h h4 s T) (hg : cL h.size h4 hh) (o1 : bB hh h.size [s', ii T'.gen]) (o3 : bB hh (h.size + 1) [.nils, ii 0]) (r : dR A' hh (.agg [s', ii T'.gen]) T') (e : Nat) :
   ∃ h', (vK (aK 2 hh.get (.ptr h.size 0)) λ x12 => wK (bQ 2 (.ptr (h.size + 1) 0) x12 hh) λ x13 h14 => vK (aK 2 h14.get (.ptr (h.size + 1) 0)) λ x15 => some ((.tup [x15, ii e]), h14) : aU) = some (.tup [.agg [s', ii T'.gen], ii e], h') /\ dR A h' (.agg [s', ii T'.gen]) T' /\ aH h h' := by
 have r0 := r; obtain ⟨s2, xs, e1, e2, e3, e4⟩ := r; simp only [DV.agg.injEq, List.cons.injEq, and_true] at e1; subst e1; have hs := RowE.one e3; have one2 : ([s', ii T'.gen]).all DV.one = true := by simp only [List.all_cons, List.all_nil, hs]; rfl
 obtain ⟨h', q1, q2, q3⟩ := o3.setAll (n := 2) (cs := [s', ii T'.gen]) rfl rfl one2; refine ⟨h', by rw [o1.all (n := 2) rfl, aA, q1, aB, q2.all (n := 2) rfl, aA], r0.move (by rw [q3.size]; exact Nat.le_refl _) (λ c hc _ => q3.get c (λ x => P.not3 (x ▸ hc))) (λ c hc _ => P.back c hc), ?_⟩
 exact eE (((P.grown.keeps (Nat.le_refl _)).trans hg).trans (q3.keeps (by omega)))
def xX (f : TreeP -> Ln -> TreeP × Nat) (B : cE) : Prop := ∀ (A : Nat -> Prop) (v : DV) (T : TreeP) (k : Nat) (p : Ln) (h : H), dR A h v T -> Inv k T -> k < 900 -> p.length < 140737488355328 -> (∀ c, h.size <= c -> A c) ->
 ∃ v' h', B [v, .str p] h = some (.tup [v', ii ((f T p).2)], h') /\ dR A h' v' (f T p).1 /\ aH h h'
theorem aUt {E : bO} (hW : cD E 124 mH) (hP : cD E 120 qE) (hK : cD E 125 sH) (hL : cD E 126 tZ) (hG : cD E 127 xZ) : xX kR (S67 E) := by
 obtain ⟨B0, b0, s0⟩ := hW.call; obtain ⟨B1, b1, s1⟩ := hP.call; obtain ⟨B2, b2, s2⟩ := hK.call; obtain ⟨B3, b3, s3⟩ := hL.call; obtain ⟨B4, b4, s4⟩ := hG.call; intro A v T k p h r hI hk hp hA; obtain ⟨s, ev, hs⟩ := r.agg; subst ev; obtain ⟨A', h4, epre, P⟩ := vB r hA; have z4 := P.size; have hll := hI.llen; obtain ⟨pl, h7, f7, g7, c7⟩ := s0 A' _ T k p h4 P.ref hI hk hp; have z7 := g7.size; show ∃ v' h', aRA E (.agg [s, ii T.gen]) (.str p) h = _ /\ _; unfold aRA; rw [epre, P.o1.all (n := 2) rfl, aA, b0, f7, aB, aY, aA, aX, aA, bR, aA]; unfold kR; have kp : ∀ {hh : H}, aH h4 hh -> cL h.size h4 hh := λ g => g.keeps (by omega)
 by_cases he : (aV T p).2 = 0
 · obtain ⟨n, hp1, hg⟩ := eN (c7 he); obtain ⟨s', xs, e1, e2, e3, e4⟩ := P.ref.grown g7; simp only [DV.agg.injEq, List.cons.injEq, and_true] at e1; subst e1; obtain ⟨x, hx, rfl⟩ := jD e2 hp1; obtain ⟨bb, o, q1, q2, q3, q4, q5, q6, q7, q8⟩ := gG e3 hx .i64; have fa0 : aF 0 (.ptr h.size 0) = some (.ptr h.size 0) := by rw [aM]
   have rd := (P.o1.grown g7).read (j := 0) (x := s) rfl; have hin := (cZ hg).2; rw [if_pos he, he, show (!decide (0 = 0)) = false from rfl, aC, fa0, aA, rd, aA, q1, aA, q2, aA, q5, aA, cG, aA, jL hg]
   by_cases hk2 : x.1.kind = 2
   · rw [decide_eq_true hk2, aE, if_pos hk2]; obtain ⟨h', y1, y2, y3⟩ := jB P (kp g7) (P.o1.grown g7) (P.o3.grown g7) (P.ref.grown g7) 12; exact ⟨_, h', y1, y2, y3⟩
   · rw [decide_eq_false hk2, aC, if_neg hk2]; have hi1 : (aV T p).1 ≠ 1 := by
       intro hx1; obtain ⟨r1, hr, hrk⟩ := hI.root; rw [hx1, hr] at hg; cases hg; exact hk2 hrk
     obtain ⟨d, m, j1, j2, j3, j4, j5⟩ := oG hI (p := p) (i := (aV T p).1) (by rw [<- he]) hi1
     obtain ⟨dp, h32, f32, g32, c32⟩ := s1 A' _ T k p h7 (P.ref.grown g7) hI hk hp; rw [j1] at f32 c32; obtain ⟨m', hm1, hm2⟩ := eN (c32 rfl); rw [j2] at hm2; cases hm2; have z32 := g32.size; have hmlen := (hI.of j2).1.len; obtain ⟨u, h38, f38, r38, g38⟩ := s2 A' _ T dp m (dJ p) h32 ((P.ref.grown g7).grown g32) (by omega) hm1 (by omega) j4 (λ c hc => P.new c (by omega))
     have eset : T.l.set dp (dU (λ l => fU l (dJ p)) m) = dW T d (dJ p) := by
       rw [yX hI.inc hm1 (dU λ l => fU l (dJ p)), (cZ j2).2]; rfl
     rw [eset] at r38; obtain ⟨s2', eu, hs2⟩ := r38.agg; subst eu; have one2 : ([s2', ii T.gen]).all DV.one = true := by simp only [List.all_cons, List.all_nil, hs2]; rfl
     have aUS := ((P.o1.grown g7).grown g32).grown g38; have o338 := ((P.o3.grown g7).grown g32).grown g38; obtain ⟨h40, f40, rE, k40⟩ := aUS.setAll (n := 2) (cs := [s2', ii T.gen]) rfl rfl one2; have o340 := o338.but (by omega) k40
     have r40 : dR A' h40 (.agg [s2', ii T.gen]) ⟨dW T d (dJ p), T.gen⟩ := r38.move (by rw [k40.size]; exact Nat.le_refl _) (λ c hc _ => k40.get c (λ y => P.not1 (y ▸ hc))) (λ c hc _ => hc)
     have hrI := tG hI j2 j3 j4; have hrl := hrI.llen; obtain ⟨h43, f43, g43⟩ := s3 A' _ ⟨dW T d (dJ p), T.gen⟩ (aV T p).1 h40 r40 (by omega) (λ n hn => by have := (hrI.ok n hn).len; omega)
     have z38 := g38.size; have z43 := g43.size; have z40 : h40.size = h38.size := k40.size; have K43 : cL h.size h4 h43 := ((kp ((g7.trans g32).trans g38)).trans (k40.keeps (Nat.le_refl _))).trans (g43.keeps (by omega))
     rw [aA, rd, aA, q1, aA, q2, aA, q3, aA, (P.o1.grown g7).all (n := 2) rfl, aA, b1, f32, aB, aY, aA, aX, aA, oX, aA, ((P.o1.grown g7).grown g32).all (n := 2) rfl, aA, b2, f38, aB, f40, aB, rE.all (n := 2) rfl, aA, hin, b3, f43, aB, cG, aA]; show ∃ v' h', _ = some (DV.tup [v', ii 0], h') /\ dR A h' v' ⟨if aZ (dW T (bT T p).1 (bT T p).2.1) (aV T p).1 = 0 then jE (dW T (bT T p).1 (bT T p).2.1) (aV T p).1 else dW T (bT T p).1 (bT T p).2.1, T.gen⟩ /\ aH h h'
     rw [j1]; by_cases hz : aZ (dW T d (dJ p)) (aV T p).1 = 0
     · obtain ⟨y, hy, _⟩ := kH (d := d) (λ l => fU l (dJ p)) hg
       obtain ⟨hym, hyi⟩ := cZ hy; obtain ⟨w, h47, f47, r47, g47⟩ := s4 A' _ ⟨dW T d (dJ p), T.gen⟩ y h43 (r40.grown g43) hrI.inc (by omega) hym (λ c hc => P.new c (by omega))
       rw [hyi] at f47 r47; obtain ⟨s3', ew, hs3⟩ := r47.agg; subst ew; have one3 : ([s3', ii T.gen]).all DV.one = true := by simp only [List.all_cons, List.all_nil, hs3]; rfl
       obtain ⟨h49, f49, o49, k49⟩ := ((rE.grown g43).grown g47).setAll (n := 2) (cs := [s3', ii T.gen]) rfl rfl one3; have r49 : dR A' h49 (.agg [s3', ii T.gen]) ⟨jE (dW T d (dJ p)) (aV T p).1, T.gen⟩ := r47.move (by rw [k49.size]; exact Nat.le_refl _) (λ c hc _ => k49.get c (λ y => P.not1 (y ▸ hc))) (λ c hc _ => hc)
       have o349 := ((o340.grown g43).grown g47).but (by omega) k49
       obtain ⟨h', y1, y2, y3⟩ := jB (T' := ⟨jE (dW T d (dJ p)) (aV T p).1, T.gen⟩) P ((K43.trans (g47.keeps (by omega))).trans (k49.keeps (Nat.le_refl _))) o49 o349 r49 0
       rw [decide_eq_true hz, aE]; simp only [if_pos hz]; refine ⟨_, h', ?_, y2, y3⟩; rw [(rE.grown g43).all (n := 2) rfl, aA, b4, f47, aB, f49, aB]; exact y1
     · obtain ⟨h', y1, y2, y3⟩ := jB (T' := ⟨dW T d (dJ p), T.gen⟩) P K43 (rE.grown g43) (o340.grown g43) (r40.grown g43) 0; rw [decide_eq_false hz, aC]; simp only [if_neg hz]; exact ⟨_, h', y1, y2, y3⟩
 · rw [if_neg he]; have d : (!decide ((aV T p).2 = 0)) = true := by simp [he]
   rw [d, aE]; obtain ⟨h', y1, y2, y3⟩ := jB P (kp g7) (P.o1.grown g7) (P.o3.grown g7) (P.ref.grown g7) (aV T p).2; exact ⟨_, h', y1, y2, y3⟩
end Go.Proofs.YtmafhiogonejfaaGreatDoor
end
