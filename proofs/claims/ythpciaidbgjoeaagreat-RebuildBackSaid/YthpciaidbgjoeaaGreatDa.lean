/- An interpreter D of a program's operations, its values and its memory: each operation of D answers as the model's does. No condition beyond the theorems' own. -/
import Derived.Below
import Derived.Orders
import Derived.LoopN
import GoSem.Dispatch
import Derived.Laws.Entries
import Derived.Laws.Strings
import Derived.Laws.BitsLemmas
import Derived.Laws.Cells
import Derived.Laws.BytesString
import Derived.Laws.StructEq
import Derived.Laws.MakeOwn
import Derived.Lib.Bytealg
set_option linter.unusedVariables false
set_option linter.unusedSimpArgs false
noncomputable section
namespace Go.DI
abbrev Ln := List Nat
open Go.RowKit
inductive Pa where
 | h
 | l (p : Pa)
 | r (p : Pa)
 deriving DecidableEq, Repr
def Pa.ofF : Nat -> Nat -> Pa
 | 0, _ => .h
 | f + 1, i => bif Nat.beq i 0 then .h else bif Nat.beq (i % 2) 1 then .l (Pa.ofF f (i / 2)) else .r (Pa.ofF f (i / 2 - 1))
def Pa.of (i : Nat) : Pa := Pa.ofF i i
def Pa.toN : Pa -> Nat
 | .h => 0
 | .l p => 2 * p.toN + 1
 | .r p => 2 * p.toN + 2
theorem Pa.toN_ofF : ∀ f i, i <= f -> (Pa.ofF f i).toN = i := by
 intro f
 induction f with
 | zero => intro i hi; simp [Pa.ofF, Pa.toN]; omega
 | succ f ih =>
   intro i hi; simp only [Pa.ofF]; by_cases h0 : i = 0
   · subst h0; rfl
   · have e0 : Nat.beq i 0 = false := by
       cases h : Nat.beq i 0
       · rfl
       · exact absurd (Nat.eq_of_beq_eq_true h) h0
     rw [e0]; by_cases h1 : i % 2 = 1
     · rw [h1]; show (Pa.l _).toN = i; simp only [Pa.toN]; rw [ih _ (by omega)]; omega
     · have h2 : i % 2 = 0 := by omega
       rw [h2]; show (Pa.r _).toN = i; simp only [Pa.toN]; rw [ih _ (by omega)]; omega
theorem Pa.toN_of (i : Nat) : (Pa.of i).toN = i := Pa.toN_ofF i i (Nat.le_refl _)
theorem Pa.of_inj {i j : Nat} (h : Pa.of i = Pa.of j) : i = j := by rw [<- Pa.toN_of i, <- Pa.toN_of j, h]
inductive Tr (α : Type) where
 | e
 | n (l : Tr α) (v : Option α) (r : Tr α)
variable {α : Type}
def Tr.get (p : Pa) : Tr α -> Option α :=
 Pa.rec (motive := λ _ => Tr α -> Option α)
   (λ t => Tr.rec (motive := λ _ => Option α) none (λ _ v _ _ _ => v) t)
   (λ _ ih t => Tr.rec (motive := λ _ => Option α) none (λ l _ _ _ _ => ih l) t)
   (λ _ ih t => Tr.rec (motive := λ _ => Option α) none (λ _ _ r _ _ => ih r) t) p
def Tr.set (x : α) (p : Pa) : Tr α -> Tr α :=
 Pa.rec (motive := λ _ => Tr α -> Tr α)
   (λ t => Tr.rec (motive := λ _ => Tr α) (.n .e (some x) .e) (λ l _ r _ _ => .n l (some x) r) t)
   (λ _ ih t => Tr.rec (motive := λ _ => Tr α) (.n (ih .e) none .e) (λ l v r _ _ => .n (ih l) v r) t)
   (λ _ ih t => Tr.rec (motive := λ _ => Tr α) (.n .e none (ih .e)) (λ l v r _ _ => .n l v (ih r)) t) p
theorem Tr.get_e (p : Pa) : Tr.get p (.e : Tr α) = none := by cases p <;> rfl
theorem Tr.get_set_same (x : α) : ∀ (p : Pa) (t : Tr α), Tr.get p (Tr.set x p t) = some x
 | .h, .e => rfl
 | .h, .n _ _ _ => rfl
 | .l p, .e => Tr.get_set_same x p .e
 | .l p, .n l _ _ => Tr.get_set_same x p l
 | .r p, .e => Tr.get_set_same x p .e
 | .r p, .n _ _ r => Tr.get_set_same x p r
theorem Tr.get_set_ne (x : α) : ∀ (p q : Pa) (t : Tr α), q ≠ p -> Tr.get q (Tr.set x p t) = Tr.get q t
 | .h, .h, _, h => absurd rfl h
 | .h, .l _, .e, _ => Tr.get_e _
 | .h, .l _, .n _ _ _, _ => rfl
 | .h, .r _, .e, _ => Tr.get_e _
 | .h, .r _, .n _ _ _, _ => rfl
 | .l p, .h, .e, _ => rfl
 | .l p, .h, .n _ _ _, _ => rfl
 | .l p, .l q, .e, h => (Tr.get_set_ne x p q .e (λ e => h (by rw [e]))).trans (Tr.get_e _)
 | .l p, .l q, .n l _ _, h => Tr.get_set_ne x p q l (λ e => h (by rw [e]))
 | .l p, .r q, .e, _ => Tr.get_e _
 | .l p, .r q, .n _ _ _, _ => rfl
 | .r p, .h, .e, _ => rfl
 | .r p, .h, .n _ _ _, _ => rfl
 | .r p, .l q, .e, _ => Tr.get_e _
 | .r p, .l q, .n _ _ _, _ => rfl
 | .r p, .r q, .e, h => (Tr.get_set_ne x p q .e (λ e => h (by rw [e]))).trans (Tr.get_e _)
 | .r p, .r q, .n _ _ r, h => Tr.get_set_ne x p q r (λ e => h (by rw [e]))
theorem Tr.get_set (x : α) (p q : Pa) (t : Tr α) : Tr.get q (Tr.set x p t) = if q = p then some x else Tr.get q t := by
 by_cases h : q = p
 · subst h; rw [if_pos rfl, Tr.get_set_same]
 · rw [if_neg h, Tr.get_set_ne _ _ _ _ h]
def Tr.at_ (t : Tr α) (i : Nat) : Option α := Tr.get (Pa.of i) t
def Tr.put (t : Tr α) (i : Nat) (x : α) : Tr α := Tr.set x (Pa.of i) t
theorem Tr.at_put (t : Tr α) (i j : Nat) (x : α) : (t.put i x).at_ j = if j = i then some x else t.at_ j := by
 unfold Tr.at_ Tr.put; rw [Tr.get_set]; by_cases h : j = i
 · subst h; rw [if_pos rfl, if_pos rfl]
 · rw [if_neg h, if_neg (λ e => h (Pa.of_inj e))]
theorem Tr.at_e (i : Nat) : (Tr.e : Tr α).at_ i = none := Tr.get_e _
inductive DV where
 | bool (b : Bool)
 | int (k : IntKind) (n : Int)
 | str (s : Ln)
 | nilp
 | ptr (b o : Nat)
 | nils
 | slc (b o len cap : Nat) (op : Bool)
 | slE (b o o2 : Nat)
 | nilm
 | mp (b : Nat)
 | fn (f : Fn) (first captured : List DV)
 | nilf
 | nili
 | ifc (t : Nat) (v : DV)
 | agg (cs : List DV)
 | tup (vs : List DV)
structure pP where
 r : Nat
 ex : Nat
 sh : Nat
def aP : Ln -> Bool
 | [] => true
 | b :: s => Nat.blt b 256 && aP s
def gG (s : Ln) : ByteArray := ⟨(s.map UInt8.ofNat).toArray⟩
def aCW (s : ByteArray) : Ln := s.data.toList.map UInt8.toNat
abbrev Mp := Nat -> Option pP
mutual
def tr (m : Mp) : DV -> Option Value
 | .bool b => some (.bool b)
 | .int k n => some (.int k n)
 | .str s => if aP s then some (.string (gG s)) else none
 | .nilp => some (.pointer none)
 | .ptr b o => match m b with
   | some i => some (.pointer (some ⟨i.r, i.sh + o, none⟩))
   | none => none
 | .nils => some (.slice none 0 0)
 | .slc b o len cap op => match m b with
   | some i => some (.slice (some ⟨i.r, i.sh + o, none⟩) len (if op then cap + i.ex else cap))
   | none => none
 | .slE b o o2 => match m b with
   | some i => some (.slice (some ⟨i.r, i.sh + if i.ex = 0 then o else o2, none⟩) 0 i.ex)
   | none => none
 | .nilm => some (.map none)
 | .mp b => match m b with
   | some i => some (.map (some i.r))
   | none => none
 | .fn f a c => match trs m a, trs m c with
   | some a', some c' => some (.func f a'.toArray c'.toArray)
   | _, _ => none
 | .nilf => some .nilFunc
 | .nili => some .nilIface
 | .ifc t v => match tr m v with
   | some v' => some (.iface t v')
   | none => none
 | .agg cs => match trs m cs with
   | some cs' => some (.agg cs'.toArray)
   | none => none
 | .tup vs => match trs m vs with
   | some vs' => some (.tuple vs'.toArray)
   | none => none
def trs (m : Mp) : List DV -> Option (List Value)
 | [] => some []
 | v :: vs => match tr m v, trs m vs with
   | some v', some vs' => some (v' :: vs')
   | _, _ => none
end
def Mp.le (m m' : Mp) : Prop := ∀ b i, m b = some i -> m' b = some i
theorem Mp.le_refl (m : Mp) : m.le m := λ _ _ h => h
theorem Mp.le.trans {a b c : Mp} (h : a.le b) (k : b.le c) : a.le c := λ _ _ e => k _ _ (h _ _ e)
mutual
theorem fH {m m' : Mp} (h : m.le m') : ∀ (v : DV) (v' : Value), tr m v = some v' -> tr m' v = some v'
 | .bool _, _, e => e
 | .int _ _, _, e => e
 | .str _, _, e => e
 | .nilp, _, e => e
 | .ptr b o, v', e => by
   simp only [tr] at e ⊢; cases hb : m b with
   | none => rw [hb] at e; cases e
   | some i => rw [hb] at e; rw [h b i hb]; exact e
 | .nils, _, e => e
 | .slc b o len cap op, v', e => by
   simp only [tr] at e ⊢; cases hb : m b with
   | none => rw [hb] at e; cases e
   | some i => rw [hb] at e; rw [h b i hb]; exact e
 | .slE b o o2, v', e => by
   simp only [tr] at e ⊢; cases hb : m b with
   | none => rw [hb] at e; cases e
   | some i => rw [hb] at e; rw [h b i hb]; exact e
 | .nilm, _, e => e
 | .mp b, v', e => by
   simp only [tr] at e ⊢; cases hb : m b with
   | none => rw [hb] at e; cases e
   | some i => rw [hb] at e; rw [h b i hb]; exact e
 | .fn f a c, v', e => by
   simp only [tr] at e ⊢; cases ha : trs m a with
   | none => rw [ha] at e; cases e
   | some a' =>
     cases hc : trs m c with
     | none => rw [ha, hc] at e; cases e
     | some c' => rw [ha, hc] at e; rw [lQ h a a' ha, lQ h c c' hc]; exact e
 | .nilf, _, e => e
 | .nili, _, e => e
 | .ifc t v, v', e => by
   simp only [tr] at e ⊢; cases hv : tr m v with
   | none => rw [hv] at e; cases e
   | some u => rw [hv] at e; rw [fH h v u hv]; exact e
 | .agg cs, v', e => by
   simp only [tr] at e ⊢; cases hv : trs m cs with
   | none => rw [hv] at e; cases e
   | some u => rw [hv] at e; rw [lQ h cs u hv]; exact e
 | .tup cs, v', e => by
   simp only [tr] at e ⊢; cases hv : trs m cs with
   | none => rw [hv] at e; cases e
   | some u => rw [hv] at e; rw [lQ h cs u hv]; exact e
theorem lQ {m m' : Mp} (h : m.le m') : ∀ (vs : List DV) (vs' : List Value), trs m vs = some vs' -> trs m' vs = some vs'
 | [], _, e => e
 | v :: vs, u, e => by
   simp only [trs] at e ⊢; cases hv : tr m v with
   | none => rw [hv] at e; cases e
   | some v' =>
     cases hvs : trs m vs with
     | none => rw [hv, hvs] at e; cases e
     | some vs' => rw [hv, hvs] at e; rw [fH h v v' hv, lQ h vs vs' hvs]; exact e
end
theorem dB {m : Mp} {v : DV} {vs : List DV} {u : List Value} : trs m (v :: vs) = some u ↔ ∃ v' vs', tr m v = some v' /\ trs m vs = some vs' /\ u = v' :: vs' := by
 simp only [trs]; cases hv : tr m v with
 | none => simp
 | some v' =>
   cases hvs : trs m vs with
   | none => simp
   | some vs' => simp [eq_comm]
theorem cU {m : Mp} : ∀ {vs : List DV} {u : List Value}, trs m vs = some u -> u.length = vs.length
 | [], _, e => by simp [trs] at e; simp [<- e]
 | v :: vs, u, e => by
   obtain ⟨v', vs', _, h2, rfl⟩ := dB.1 e; simp [cU h2]
theorem iU {m : Mp} : ∀ {vs : List DV} {u : List Value}, trs m vs = some u -> ∀ (i : Nat) (v : DV), vs[i]? = some v -> ∃ v', u[i]? = some v' /\ tr m v = some v'
 | [], _, _, i, v, hi => by simp at hi
 | x :: vs, u, e, i, v, hi => by
   obtain ⟨v', vs', h1, h2, rfl⟩ := dB.1 e; cases i with
   | zero => simp at hi; subst hi; exact ⟨v', rfl, h1⟩
   | succ i => simp at hi; simpa using iU h2 i v hi
theorem rT {m : Mp} : ∀ {a b : List DV} {a' b' : List Value}, trs m a = some a' -> trs m b = some b' -> trs m (a ++ b) = some (a' ++ b')
 | [], b, a', b', h, k => by simp [trs] at h; subst h; simpa using k
 | x :: a, b, a', b', h, k => by
   obtain ⟨v', vs', h1, h2, rfl⟩ := dB.1 h; exact dB.2 ⟨v', vs' ++ b', h1, rT h2 k, by simp⟩
theorem oR {m : Mp} : ∀ {vs : List DV} {u : List Value}, trs m vs = some u -> ∀ n, trs m (vs.drop n) = some (u.drop n)
 | [], u, e, n => by simp [trs] at e; subst e; simp [trs]
 | v :: vs, u, e, 0 => by simpa using e
 | v :: vs, u, e, n + 1 => by
   obtain ⟨v', vs', _, h2, rfl⟩ := dB.1 e
   simpa using oR h2 n
theorem oQ {m : Mp} : ∀ {vs : List DV} {u : List Value}, trs m vs = some u -> ∀ n, trs m (vs.take n) = some (u.take n)
 | [], u, e, n => by simp [trs] at e; subst e; simp [trs]
 | v :: vs, u, e, 0 => by simp [trs]
 | v :: vs, u, e, n + 1 => by
   obtain ⟨v', vs', h1, h2, rfl⟩ := dB.1 e; exact dB.2 ⟨v', vs'.take n, h1, oQ h2 n, by simp⟩
theorem aNZ {m : Mp} : ∀ {vs : List DV} {u : List Value}, trs m vs = some u -> ∀ (i : Nat) (x : DV) (x' : Value), tr m x = some x' -> trs m (vs.set i x) = some (u.set i x')
 | [], u, e, i, x, x', _ => by simp [trs] at e; subst e; simp [trs]
 | v :: vs, u, e, 0, x, x', k => by
   obtain ⟨v', vs', h1, h2, rfl⟩ := dB.1 e; exact dB.2 ⟨x', vs', k, h2, rfl⟩
 | v :: vs, u, e, i + 1, x, x', k => by
   obtain ⟨v', vs', h1, h2, rfl⟩ := dB.1 e; exact dB.2 ⟨v', vs'.set i x', h1, aNZ h2 i x x' k, rfl⟩
theorem aGr {β : Type} {m : Mp} {g : β -> DV} {g' : β -> Value} (h : ∀ x, tr m (g x) = some (g' x)) : ∀ l : List β, trs m (l.map g) = some (l.map g')
 | [] => rfl
 | x :: l => dB.2 ⟨g' x, l.map g', h x, aGr h l, rfl⟩
structure Blk where
 n : Nat
 es : Nat
 ro : Bool
 pl : Bool
 t : Tr DV
structure dJ where
 key : DV
 val : DV
 born : Nat
inductive eE where
 | blk (b : Blk)
 | dead
 | map (es : List dJ) (clock : Nat)
 | iter (b since : Nat) (seen : Ln) (last : Nat)
structure H where
 size : Nat
 t : Tr eE
def H.get (h : H) (b : Nat) : Option eE := h.t.at_ b
def H.put (h : H) (b : Nat) (o : eE) : H := ⟨h.size, h.t.put b o⟩
def H.push (h : H) (o : eE) : H := ⟨h.size + 1, h.t.put h.size o⟩
theorem H.get_put (h : H) (b c : Nat) (o : eE) : (h.put b o).get c = if c = b then some o else h.get c := Tr.at_put _ _ _ _
theorem H.get_push (h : H) (c : Nat) (o : eE) : (h.push o).get c = if c = h.size then some o else h.get c := Tr.at_put _ _ _ _
@[simp] theorem H.size_put (h : H) (b : Nat) (o : eE) : (h.put b o).size = h.size := rfl
@[simp] theorem H.size_push (h : H) (o : eE) : (h.push o).size = h.size + 1 := rfl
structure lF (m : Mp) (i : pP) (B : Blk) (w : World) : Prop where
 obj : ∃ c el fr, w.heap[i.r]? = some (.cells c el fr) /\ c.size = i.sh + B.n + i.ex * B.es /\
   (∀ j, j < B.n -> (∃ v v', B.t.at_ j = some v /\ tr m v = some v' /\ c[i.sh + j]? = some v') \/ (B.es = 0 /\ B.t.at_ j = none))
 free : B.ro = false -> ∀ j, j < i.sh + B.n + i.ex * B.es -> w.frozen? ⟨i.r, j, none⟩ = false
 plain : B.pl = true -> ∀ j, w.frozen? ⟨i.r, j, none⟩ = false
def aIh (m : Mp) (d : dJ) (e : MapEntry) : Prop := tr m d.key = some e.key /\ tr m d.val = some e.val /\ d.born = e.born
def dG (m : Mp) : List dJ -> List MapEntry -> Prop
 | [], [] => True
 | d :: ds, e :: es => aIh m d e /\ dG m ds es
 | _, _ => False
def qO (m : Mp) (i : pP) : eE -> World -> Prop
 | .blk B, w => lF m i B w
 | .dead, _ => True
 | .map ds clock, w => ∃ es : Array MapEntry, w.heap[i.r]? = some (.map es clock) /\ dG m ds es.toList
 | .iter b since seen last, w => i.sh = 0 /\ ∃ j : pP, m b = some j /\ w.heap[i.r]? = some (.mapIter (some j.r) since seen.reverse.toArray last) /\ since <= last
def eE.live : eE -> Bool
 | .dead => false
 | _ => true
def eE.writes : eE -> Bool
 | .blk B => !B.ro
 | .dead => false
 | .map _ _ => true
 | .iter _ _ _ _ => true
def bEA : List (Nat × Value) := []
def Good (w : World) : Prop := ∀ x ∈ bEA, w.cell? ⟨x.1, 0, none⟩ = some x.2
def bGd (N0 : Nat) (w : World) : Prop := ∀ x ∈ bEA, x.1 < N0 /\ w.cell? ⟨x.1, 0, none⟩ = some x.2
theorem Good.n {w : World} (hg : Good w) : bGd w.heap.size w := λ x hx => ⟨by
 rcases Nat.lt_or_ge x.1 w.heap.size with h | h
 · exact h
 · have := hg x hx; simp [World.cell?, Array.getElem?_eq_none h] at this, hg x hx⟩
structure bH (N0 : Nat) (w0 : World) (m : Mp) (h : H) (w : World) : Prop where
 lt : ∀ b i, m b = some i -> b < h.size /\ i.r < w.heap.size
 has : ∀ b i, m b = some i -> ∃ o, h.get b = some o /\ qO m i o w /\ (o.writes = true -> N0 <= i.r)
 inj : ∀ b b' i i' o o', m b = some i -> m b' = some i' -> i.r = i'.r -> h.get b = some o -> h.get b' = some o' -> o.live = true -> o'.live = true -> b = b'
 below : Below N0 w0 w
 base : N0 <= w.heap.size
 wf : ∀ b, h.size <= b -> h.get b = none
 good : bGd N0 w0
structure gV (m : Mp) (h : H) (m' : Mp) (h' : H) : Prop where
 le : m.le m'
 size : h.size <= h'.size
 rest : ∀ b, b < h.size -> m b = none -> m' b = none /\ h'.get b = h.get b
theorem gV.refl (m : Mp) (h : H) : gV m h m h := ⟨m.le_refl, Nat.le_refl _, λ _ _ e => ⟨e, rfl⟩⟩
theorem gV.trans {a b c : Mp} {x y z : H} (h : gV a x b y) (k : gV b y c z) : gV a x c z :=
 ⟨h.le.trans k.le, Nat.le_trans h.size k.size, λ i hi e => by
   obtain ⟨e1, g1⟩ := h.rest i hi e; obtain ⟨e2, g2⟩ := k.rest i (Nat.lt_of_lt_of_le hi h.size) e1; exact ⟨e2, g2.trans g1⟩⟩
end Go.DI
namespace Go.DI
open Go.RowKit
def Mp.ins (m : Mp) (k : Nat) (i : pP) : Mp := λ b => if b = k then some i else m b
theorem Mp.ins_le {m : Mp} {k : Nat} {i : pP} (h : m k = none) : m.le (m.ins k i) := λ b j e => by
 unfold Mp.ins; by_cases hb : b = k
 · subst hb; rw [h] at e; cases e
 · rw [if_neg hb]; exact e
theorem dG.mono {m m' : Mp} (h : m.le m') : ∀ {ds : List dJ} {es : List MapEntry}, dG m ds es -> dG m' ds es
 | [], [], _ => trivial
 | d :: ds, e :: es, k => ⟨⟨fH h _ _ k.1.1, fH h _ _ k.1.2.1, k.1.2.2⟩, dG.mono h k.2⟩
 | [], _ :: _, k => k.elim
 | _ :: _, [], k => k.elim
theorem tN {w w' : World} {r : Nat} (h : w'.heap[r]? = w.heap[r]?) (j : Nat) : w'.frozen? ⟨r, j, none⟩ = w.frozen? ⟨r, j, none⟩ := by
 simp only [World.frozen?]; rw [h]
theorem qO.keep {m m' : Mp} {i : pP} {o : eE} {w w' : World} (h : qO m i o w) (hm : m.le m') (hw : w'.heap[i.r]? = w.heap[i.r]?) : qO m' i o w' := by
 cases o with
 | blk B =>
   obtain ⟨⟨c, el, fr, h1, h2, h3⟩, hf, hp⟩ := h; refine ⟨⟨c, el, fr, hw.trans h1, h2, λ j hj => ?_⟩, λ hro j hj => (tN hw j).trans (hf hro j hj), λ hpl j => (tN hw j).trans (hp hpl j)⟩
   rcases h3 j hj with ⟨v, v', a, b, d⟩ | hx
   · exact .inl ⟨v, v', a, fH hm _ _ b, d⟩
   · exact .inr hx
 | dead => trivial
 | map ds clock =>
   obtain ⟨es, h1, h2⟩ := h; exact ⟨es, hw.trans h1, h2.mono hm⟩
 | iter b since seen last =>
   obtain ⟨hs, j, h0, h1, h2⟩ := h; exact ⟨hs, j, hm _ _ h0, hw.trans h1, h2⟩
section
variable {N0 : Nat} {w0 : World} {m : Mp} {h : H} {w : World}
theorem bH.unused (hw : bH N0 w0 m h w) {b : Nat} (hb : h.size <= b) : m b = none := by
 cases e : m b with
 | none => rfl
 | some i => have := (hw.lt b i e).1; omega
theorem bH.cell (hw : bH N0 w0 m h w) {b j : Nat} {i : pP} {B : Blk} {v : DV} (hm : m b = some i) (hg : h.get b = some (.blk B)) (hj : j < B.n) (hv : B.t.at_ j = some v) :
   ∃ v', w.cell? ⟨i.r, i.sh + j, none⟩ = some v' /\ tr m v = some v' := by
 obtain ⟨o, ho, hr, _⟩ := hw.has b i hm; rw [hg] at ho; cases ho; obtain ⟨⟨c, el, fr, h1, h2, h3⟩, _⟩ := hr; rcases h3 j hj with ⟨u, u', a, b', d⟩ | ⟨_, hx⟩
 case inr => rw [hv] at hx; cases hx
 rw [hv] at a; cases a; exact ⟨u', by simp [World.cell?, h1, d], b'⟩
theorem bH.drewN (hw : bH N0 w0 m h w) : bH N0 w0 m h w.drew :=
 ⟨hw.lt, λ b i e => by
   obtain ⟨o, ho, hr, hn⟩ := hw.has b i e; exact ⟨o, ho, hr.keep m.le_refl rfl, hn⟩, hw.inj, hw.below.drew, hw.base, hw.wf, hw.good⟩
theorem bH.push (hw : bH N0 w0 m h w) (o : eE) : bH N0 w0 m (h.push o) w := by
 have hg : ∀ b i, m b = some i -> (h.push o).get b = h.get b := λ b i e => by
   rw [H.get_push, if_neg]; have := (hw.lt b i e).1; omega
 refine ⟨λ b i e => ⟨by have := (hw.lt b i e).1; simp; omega, (hw.lt b i e).2⟩, λ b i e => ?_, λ b b' i i' o o' e e' hr g g' => ?_, hw.below, hw.base, λ b hb => by rw [H.size_push] at hb; rw [H.get_push, if_neg (by omega)]; exact hw.wf b (by omega), hw.good⟩
 · rw [hg b i e]; exact hw.has b i e
 · rw [hg b i e] at g; rw [hg b' i' e'] at g'; exact hw.inj b b' i i' o o' e e' hr g g'
theorem jC (w : World) (o : Obj) : (w.alloc o).heap[w.heap.size]? = some o := by
 show (w.heap.push o)[w.heap.size]? = _; simp
theorem bH.bind_ (hw : bH N0 w0 m h w) {k ex : Nat} {o : eE} {ob : Obj} (hk : k < h.size) (hn : m k = none) (hg : h.get k = some o)
   (hr : qO (m.ins k ⟨w.heap.size, ex, 0⟩) ⟨w.heap.size, ex, 0⟩ o (w.alloc ob)) : bH N0 w0 (m.ins k ⟨w.heap.size, ex, 0⟩) h (w.alloc ob) := by
 have hle := Mp.ins_le (i := ⟨w.heap.size, ex, 0⟩) hn; have hs : (w.alloc ob).heap.size = w.heap.size + 1 := by simp
 refine ⟨λ b i e => ?_, λ b i e => ?_, λ b b' i i' o o' e e' hrr g g' l l' => ?_, hw.below.alloc hw.base ob, by have := hw.base; omega, hw.wf, hw.good⟩
 · simp only [Mp.ins] at e; split at e
   · rename_i hb; subst hb; cases e; exact ⟨hk, by show w.heap.size < _; omega⟩
   · have := hw.lt b i e; exact ⟨this.1, by omega⟩
 · simp only [Mp.ins] at e; split at e
   · rename_i hb; subst hb; cases e; exact ⟨o, hg, hr, λ _ => hw.base⟩
   · obtain ⟨o', g', r', n'⟩ := hw.has b i e; exact ⟨o', g', r'.keep hle (Below.heap_alloc w ob i.r (hw.lt b i e).2), n'⟩
 · simp only [Mp.ins] at e e'; split at e <;> split at e'
   · rename_i hb hb'; rw [hb, hb']
   · cases e; have := (hw.lt b' i' e').2; simp only at hrr; omega
   · cases e'; have := (hw.lt b i e).2; simp only at hrr; omega
   · exact hw.inj b b' i i' o o' e e' hrr g g' l l'
theorem gV.push (m : Mp) (h : H) (o : eE) : gV m h m (h.push o) :=
 ⟨m.le_refl, by simp, λ b hb e => ⟨e, by rw [H.get_push, if_neg (by omega)]⟩⟩
theorem bH.new (hw : bH N0 w0 m h w) {ex : Nat} {o : eE} {ob : Obj}
   (hr : qO (m.ins h.size ⟨w.heap.size, ex, 0⟩) ⟨w.heap.size, ex, 0⟩ o (w.alloc ob)) :
   bH N0 w0 (m.ins h.size ⟨w.heap.size, ex, 0⟩) (h.push o) (w.alloc ob) /\ gV m h (m.ins h.size ⟨w.heap.size, ex, 0⟩) (h.push o) := by
 have hn := hw.unused (Nat.le_refl _); refine ⟨(hw.push o).bind_ (by simp) hn (by rw [H.get_push, if_pos rfl]) hr, ⟨Mp.ins_le hn, by simp, λ b hb e => ⟨?_, by rw [H.get_push, if_neg (by omega)]⟩⟩⟩
 simp only [Mp.ins]; rw [if_neg (by omega)]; exact e
theorem bH.store (hw : bH N0 w0 m h w) {b j : Nat} {i : pP} {B : Blk} {v : DV} {v' : Value} (hm : m b = some i) (hg : h.get b = some (.blk B)) (hro : B.ro = false) (hj : j < B.n) (hv : tr m v = some v') :
   bH N0 w0 m (h.put b (.blk { B with t := B.t.put j v })) (w.setCell ⟨i.r, i.sh + j, none⟩ v') /\ (∃ u, w.cell? ⟨i.r, i.sh + j, none⟩ = some u) /\ w.frozen? ⟨i.r, i.sh + j, none⟩ = false := by
 obtain ⟨o, ho, hr, hn⟩ := hw.has b i hm; rw [hg] at ho; cases ho; obtain ⟨⟨c, el, fr, h1, h2, h3⟩, hf, hp⟩ := hr; have hsz : ∀ q, q < B.n -> i.sh + q < c.size := λ q hq => Nat.lt_of_lt_of_le (show i.sh + q < i.sh + B.n by omega) (by rw [h2]; exact Nat.le_add_right _ _)
 have hcell : ∃ u, w.cell? ⟨i.r, i.sh + j, none⟩ = some u := ⟨c[i.sh + j]'(hsz j hj), by simp [World.cell?, h1, hsz j hj]⟩
 refine ⟨⟨λ b' i' e => ⟨by simpa using (hw.lt b' i' e).1, by simpa using (hw.lt b' i' e).2⟩, λ b' i' e => ?_, λ b1 b2 i1 i2 o1 o2 e1 e2 hrr g1 g2 l1 l2 => ?_,
   hw.below.setCell (hn (by simp [eE.writes, hro])) _, by simpa using hw.base, λ c hc => by rw [H.get_put, if_neg (by have := (hw.lt b i hm).1; simp only [H.size_put] at hc; omega)]; exact hw.wf c (by simpa using hc), hw.good⟩, hcell, hf hro (i.sh + j) (by omega)⟩
 · by_cases hb : b' = b
   · subst hb; rw [hm] at e; cases e; refine ⟨.blk { B with t := B.t.put j v }, by rw [H.get_put, if_pos rfl], ⟨⟨c.setIfInBounds (i.sh + j) v', el, fr, ?_, by simpa using h2, λ q hq => ?_⟩, λ hro' q hq => by rw [World.frozen?_setCell]; exact hf hro q hq, λ hpl q => by rw [World.frozen?_setCell]; exact hp hpl q⟩, λ hx => hn (by simpa [eE.writes] using hx)⟩
     · simp [World.setCell, Array.getElem?_modify, h1]
     · by_cases hqj : q = j
       · subst hqj; have hlt := hsz q hq; exact .inl ⟨v, v', by simp [Tr.at_put], hv, by simp [Array.getElem?_setIfInBounds, hlt]⟩
       · rcases h3 q hq with ⟨x, x', a, b'', d⟩ | ⟨hx1, hx2⟩
         · exact .inl ⟨x, x', by rw [Tr.at_put, if_neg hqj]; exact a, b'', by rw [Array.getElem?_setIfInBounds, if_neg (by omega)]; exact d⟩
         · exact .inr ⟨hx1, by rw [Tr.at_put, if_neg hqj]; exact hx2⟩
   · obtain ⟨o', g', r', n'⟩ := hw.has b' i' e; by_cases hri : i'.r = i.r
     ·
       cases hl : o'.live with
       | true => exact absurd (hw.inj b' b i' i _ _ e hm hri g' hg hl rfl) hb
       | false =>
         cases o' with
         | dead => exact ⟨.dead, by rw [H.get_put, if_neg hb]; exact g', trivial, n'⟩
         | blk _ => cases hl
         | map _ _ => cases hl
         | iter _ _ _ _ => cases hl
     · exact ⟨o', by rw [H.get_put, if_neg hb]; exact g', r'.keep m.le_refl (Below.heap_setCell w _ _ _ (by simpa using hri)), n'⟩
 · have live_of : ∀ {b' : Nat} {o' : eE}, (h.put b (.blk { B with t := B.t.put j v })).get b' = some o' -> o'.live = true -> ∃ o'', h.get b' = some o'' /\ o''.live = true := by
     intro b' o' g l; rw [H.get_put] at g; split at g
     · rename_i hb; subst hb; exact ⟨_, hg, rfl⟩
     · exact ⟨o', g, l⟩
   obtain ⟨p1, q1, r1⟩ := live_of g1 l1; obtain ⟨p2, q2, r2⟩ := live_of g2 l2; exact hw.inj b1 b2 i1 i2 p1 p2 e1 e2 hrr q1 q2 r1 r2
theorem gV.put {m : Mp} {h : H} {b : Nat} {i : pP} (hm : m b = some i) (o : eE) : gV m h m (h.put b o) :=
 ⟨m.le_refl, by simp, λ b' _ e => ⟨e, by rw [H.get_put, if_neg]; intro hb; subst hb; rw [hm] at e; cases e⟩⟩
end
end Go.DI
namespace Go.DI
open Go.RowKit
section
variable {β : Type}
def cR (n : Nat) (k : Nat -> β) : β := Nat.rec (motive := λ _ => β) (k 0) (λ m _ => k (Nat.succ m)) n
theorem aM (n : Nat) (k : Nat -> β) : cR n k = k n := by cases n <;> rfl
def aGW (n : Int) (k : Int -> β) : β :=
 Int.rec (motive := λ _ => β) (λ a => cR a λ a => k (.ofNat a)) (λ a => cR a λ a => k (.negSucc a)) n
theorem lU (n : Int) (k : Int -> β) : aGW n k = k n := by
 cases n with
 | ofNat a => exact aM a (λ a => k (.ofNat a))
 | negSucc a => exact aM a (λ a => k (.negSucc a))
def bFe (b : Bool) (k : Bool -> β) : β := Bool.rec (motive := λ _ => β) (k false) (k true) b
theorem aVu (b : Bool) (k : Bool -> β) : bFe b k = k b := by cases b <;> rfl
def bHr (s : Ln) (k : Ln -> β) : β :=
 List.rec (motive := λ _ => (Ln -> β) -> β) (λ k => k []) (λ a _ ih k => cR a λ a => ih λ t => k (a :: t)) s k
theorem aOO : ∀ (s : Ln) (k : Ln -> β), bHr s k = k s
 | [], k => rfl
 | a :: s, k => by
   show (cR a λ a => bHr s λ t => k (a :: t)) = _
   rw [aM, aOO s]
end
def w64 (x : Int) : Int :=
 Int.rec (motive := λ _ => Int) (λ a => bif Nat.ble a 9223372036854775807 then .ofNat a else IntKind.i64.wrap (.ofNat a))
   (λ a => bif Nat.ble a 9223372036854775807 then .negSucc a else IntKind.i64.wrap (.negSucc a)) x
theorem pR {x : Int} (h1 : -9223372036854775808 <= x) (h2 : x <= 9223372036854775807) : IntKind.i64.wrap x = x := by
 rw [IntKind.wrap_i64]; omega
theorem aKs {γ : Type} (b : Bool) (x y : γ) (h : b = true -> x = y) : (bif b then x else y) = y := by
 cases b
 · rfl
 · exact h rfl
theorem bGt (x : Int) : w64 x = IntKind.i64.wrap x := by
 cases x with
 | ofNat a =>
   refine aKs (Nat.ble a 9223372036854775807) (Int.ofNat a) (IntKind.i64.wrap (.ofNat a)) λ h => ?_
   have h := Nat.le_of_ble_eq_true h; rw [pR] <;> simp only [Int.ofNat_eq_natCast] <;> omega
 | negSucc a =>
   refine aKs (Nat.ble a 9223372036854775807) (Int.negSucc a) (IntKind.i64.wrap (.negSucc a)) λ h => ?_
   have h := Nat.le_of_ble_eq_true h; rw [pR] <;> rw [Int.negSucc_eq] <;> omega
def bFg (k : IntKind) (x : Int) : Int := IntKind.rec (motive := λ _ => Int) (IntKind.i8.wrap x) (IntKind.i16.wrap x) (IntKind.i32.wrap x) (w64 x) (IntKind.u8.wrap x) (IntKind.u16.wrap x) (IntKind.u32.wrap x) (IntKind.u64.wrap x) k
theorem aVY (k : IntKind) (x : Int) : bFg k x = k.wrap x := by cases k <;> first | rfl | exact bGt x
def iLt (x y : Int) : Bool :=
 Int.rec (motive := λ _ => Bool) (λ a => Int.rec (motive := λ _ => Bool) (λ b => Nat.blt a b) (λ _ => false) y)
   (λ a => Int.rec (motive := λ _ => Bool) (λ _ => true) (λ b => Nat.blt b a) y) x
theorem mN (x y : Int) : iLt x y = decide (x < y) := by
 cases x <;> cases y
 · rename_i a b; show Nat.blt a b = decide ((a : Int) < (b : Int)); rw [Bool.eq_iff_iff]; simp [Nat.blt_eq]
 · rename_i a b; show false = decide ((a : Int) < Int.negSucc b); rw [eq_comm, decide_eq_false_iff_not, Int.negSucc_eq]; omega
 · rename_i a b; show true = decide (Int.negSucc a < (b : Int)); rw [eq_comm, decide_eq_true_iff, Int.negSucc_eq]; omega
 · rename_i a b; show Nat.blt b a = decide (Int.negSucc a < Int.negSucc b); rw [Bool.eq_iff_iff]; simp only [Nat.blt_eq, decide_eq_true_iff, Int.negSucc_eq]; omega
def iLe (x y : Int) : Bool := !(iLt y x)
theorem aMd (x y : Int) : iLe x y = decide (x <= y) := by
 unfold iLe; rw [mN, Bool.eq_iff_iff]; simp
def iEq (x y : Int) : Bool :=
 Int.rec (motive := λ _ => Bool) (λ a => Int.rec (motive := λ _ => Bool) (λ b => Nat.beq a b) (λ _ => false) y)
   (λ a => Int.rec (motive := λ _ => Bool) (λ _ => false) (λ b => Nat.beq a b) y) x
theorem oZ (x y : Int) : iEq x y = (x == y) := by
 cases x <;> cases y
 · rename_i a b; show Nat.beq a b = ((a : Int) == (b : Int)); rw [Bool.eq_iff_iff, Nat.beq_eq, beq_iff_eq]; omega
 · rename_i a b; show false = ((a : Int) == Int.negSucc b); rw [eq_comm, beq_eq_false_iff_ne]; intro h; cases h
 · rename_i a b; show false = (Int.negSucc a == (b : Int)); rw [eq_comm, beq_eq_false_iff_ne]; intro h; cases h
 · rename_i a b; show Nat.beq a b = (Int.negSucc a == Int.negSucc b); rw [Bool.eq_iff_iff, Nat.beq_eq]; simp
def sEq (s t : Ln) : Bool :=
 List.rec (motive := λ _ => Ln -> Bool) (λ t => List.rec (motive := λ _ => Bool) true (λ _ _ _ => false) t)
   (λ a _ ih t => List.rec (motive := λ _ => Bool) false (λ b t _ => bif Nat.beq a b then ih t else false) t) s t
theorem xQ : ∀ s t : Ln, sEq s t = (s == t)
 | [], [] => rfl
 | [], _ :: _ => rfl
 | _ :: _, [] => rfl
 | a :: s, b :: t => by
   show (bif Nat.beq a b then sEq s t else false) = _; rw [xQ s t]; by_cases h : a = b
   · subst h; simp
   · have : Nat.beq a b = false := by
       cases e : Nat.beq a b
       · rfl
       · exact absurd (Nat.eq_of_beq_eq_true e) h
     rw [this]; simp [h]
def sLt (s t : Ln) : Bool :=
 List.rec (motive := λ _ => Ln -> Bool) (λ t => List.rec (motive := λ _ => Bool) false (λ _ _ _ => true) t)
   (λ a _ ih t => List.rec (motive := λ _ => Bool) false (λ b t _ => Nat.blt a b || (Nat.beq a b && ih t)) t) s t
theorem gT : ∀ s : Ln, aP s = true ↔ ∀ b ∈ s, b < 256
 | [] => by simp [aP]
 | a :: s => by simp [aP, gT s, Nat.blt_eq]
theorem eG {s t : Ln} (h : aP s = true) (k : aP t = true) : aP (s ++ t) = true := by
 rw [gT] at *; intro b hb; rcases List.mem_append.1 hb with hb | hb
 · exact h b hb
 · exact k b hb
theorem rD {s t : Ln} (h : aP s = true) (k : ∀ b ∈ t, b ∈ s) : aP t = true := by
 rw [gT] at *; exact λ b hb => h b (k b hb)
theorem aIH (s t : Ln) : gG (s ++ t) = gG s ++ gG t := by
 unfold gG; apply ByteArray.ext; simp [ByteArray.data_append]
theorem jX (s : Ln) : (gG s).size = s.length := by
 simp [gG, ByteArray.size]
theorem pU (s : Ln) : (gG s).toList = s.map UInt8.ofNat := by
 rw [ByteArray.toList_eq]; simp [gG]
theorem vV {a b : Nat} (ha : a < 256) (hb : b < 256) (h : UInt8.ofNat a = UInt8.ofNat b) : a = b := by
 have := congrArg UInt8.toNat h; simp only [UInt8.toNat_ofNat'] at this; omega
theorem xB : ∀ {s t : Ln}, aP s = true -> aP t = true -> s.map UInt8.ofNat = t.map UInt8.ofNat -> s = t
 | [], [], _, _, _ => rfl
 | [], _ :: _, _, _, h => by cases h
 | _ :: _, [], _, _, h => by cases h
 | a :: s, b :: t, hs, ht, h => by
   simp only [aP, Bool.and_eq_true, Nat.blt_eq] at hs ht; simp only [List.map_cons, List.cons.injEq] at h; rw [vV hs.1 ht.1 h.1, xB hs.2 ht.2 h.2]
theorem aCa {s t : Ln} (hs : aP s = true) (ht : aP t = true) : ((gG s).toList == (gG t).toList) = (s == t) := by
 rw [pU, pU, Bool.eq_iff_iff]; simp only [beq_iff_eq]; exact ⟨λ h => xB hs ht h, λ h => by rw [h]⟩
theorem aUm : ∀ {s t : Ln}, aP s = true -> aP t = true -> Op.bytesLess (gG s).toList (gG t).toList = sLt s t := by
 intro s t; rw [pU, pU]
 induction s generalizing t with
 | nil => intro _ _; cases t <;> rfl
 | cons a s ih =>
   intro hs ht; cases t with
   | nil => rfl
   | cons b t =>
     simp only [aP, Bool.and_eq_true, Nat.blt_eq] at hs ht; show (decide (UInt8.ofNat a < UInt8.ofNat b) || (UInt8.ofNat a == UInt8.ofNat b && Op.bytesLess (s.map UInt8.ofNat) (t.map UInt8.ofNat))) = (Nat.blt a b || (Nat.beq a b && sLt s t)); rw [ih hs.2 ht.2]; have e1 : decide (UInt8.ofNat a < UInt8.ofNat b) = Nat.blt a b := by
       rw [Bool.eq_iff_iff, decide_eq_true_iff, Nat.blt_eq, UInt8.lt_iff_toNat_lt, UInt8.toNat_ofNat', UInt8.toNat_ofNat', Nat.mod_eq_of_lt hs.1, Nat.mod_eq_of_lt ht.1]
     have e2 : (UInt8.ofNat a == UInt8.ofNat b) = Nat.beq a b := by
       rw [Bool.eq_iff_iff, beq_iff_eq, Nat.beq_eq]; exact ⟨vV hs.1 ht.1, λ h => by rw [h]⟩
     rw [e1, e2]
end Go.DI
namespace Go.DI
open Go.RowKit
inductive aU where
 | r (p : Pa)
 | c (v : DV)
def ev (ρ : Tr DV) (x : aU) : DV :=
 aU.rec (motive := λ _ => DV) (λ p => Option.rec (motive := λ _ => DV) (.tup []) (λ v => v) (Tr.get p ρ)) (λ v => v) x
def sQ : Pa -> Pa -> Bool
 | .h, .h => true
 | .l p, .l q => sQ p q
 | .r p, .r q => sQ p q
 | _, _ => false
theorem fX : ∀ {p q : Pa}, sQ p q = true -> p = q
 | .h, .h, _ => rfl
 | .l p, .l q, h => by rw [fX (p := p) (q := q) h]
 | .r p, .r q, h => by rw [fX (p := p) (q := q) h]
 | .h, .l _, h => by cases h
 | .h, .r _, h => by cases h
 | .l _, .h, h => by cases h
 | .l _, .r _, h => by cases h
 | .r _, .h, h => by cases h
 | .r _, .l _, h => by cases h
def oF {α β : Type} (p : α -> β -> Bool) : List α -> List β -> Bool
 | [], [] => true
 | a :: as, b :: bs => p a b && oF p as bs
 | _, _ => false
def aHl : Nat -> Value -> DV -> Bool
 | _, .bool a, .bool b => a == b
 | _, .int k a, .int k' b => decide (k = k') && decide (a = b)
 | _, .string s, .str t => aP t && (s.data.toList.map UInt8.toNat == t)
 | _, .pointer none, .nilp => true
 | _, .slice none 0 0, .nils => true
 | _, .map none, .nilm => true
 | _, .nilFunc, .nilf => true
 | _, .nilIface, .nili => true
 | _, .func f a c, .fn g b d => decide (f = g) && a.isEmpty && b.isEmpty && c.isEmpty && d.isEmpty
 | n + 1, .agg cs, .agg ds => oF (aHl n) cs.toList ds
 | n + 1, .tuple cs, .tup ds => oF (aHl n) cs.toList ds
 | _, _, _ => false
theorem toBA_ofBA (s : ByteArray) : gG (aCW s) = s := by
 apply ByteArray.ext; apply Array.ext'; simp [gG, aCW, Function.comp_def]
theorem okStr_ofBA (s : ByteArray) : aP (aCW s) = true := by
 rw [gT]; intro b hb; obtain ⟨u, _, rfl⟩ := List.mem_map.1 hb; exact u.toNat_lt
theorem aOb (m : Mp) (s : ByteArray) : tr m (.str (aCW s)) = some (.string s) := by
 simp only [tr]; rw [if_pos (okStr_ofBA s), toBA_ofBA]
theorem vE {m : Mp} {p : Value -> DV -> Bool} (h : ∀ v d, p v d = true -> tr m d = some v) : ∀ {vs : List Value} {ds : List DV}, oF p vs ds = true -> trs m ds = some vs
 | [], [], _ => rfl
 | v :: vs, d :: ds, k => by
   simp only [oF, Bool.and_eq_true] at k; exact dB.2 ⟨v, vs, h v d k.1, vE h k.2, rfl⟩
 | [], _ :: _, k => by cases k
 | _ :: _, [], k => by cases k
theorem tG (m : Mp) : ∀ (n : Nat) (v : Value) (d : DV), aHl n v d = true -> tr m d = some v := by
 intro n
 induction n with
 | zero =>
   intro v d h; unfold aHl at h; split at h <;> try (first | (cases h; done) | (simp only [beq_iff_eq] at h; subst h; rfl) | rfl)
   · simp only [Bool.and_eq_true, decide_eq_true_iff] at h; obtain ⟨rfl, rfl⟩ := h; rfl
   · simp only [Bool.and_eq_true, beq_iff_eq] at h; obtain ⟨_, rfl⟩ := h; exact aOb m _
   · simp only [Bool.and_eq_true, decide_eq_true_iff, Array.isEmpty_iff, List.isEmpty_iff] at h; obtain ⟨⟨⟨⟨rfl, rfl⟩, rfl⟩, rfl⟩, rfl⟩ := h; rfl
   · rename_i hn; cases hn
   · rename_i hn; cases hn
 | succ n ih =>
   intro v d h; unfold aHl at h; split at h <;> try (first | (cases h; done) | (simp only [beq_iff_eq] at h; subst h; rfl) | rfl)
   · simp only [Bool.and_eq_true, decide_eq_true_iff] at h; obtain ⟨rfl, rfl⟩ := h; rfl
   · simp only [Bool.and_eq_true, beq_iff_eq] at h; obtain ⟨_, rfl⟩ := h; exact aOb m _
   · simp only [Bool.and_eq_true, decide_eq_true_iff, Array.isEmpty_iff, List.isEmpty_iff] at h; obtain ⟨⟨⟨⟨rfl, rfl⟩, rfl⟩, rfl⟩, rfl⟩ := h; rfl
   · rename_i hn; cases hn; simp only [tr]; rw [vE ih h]
   · rename_i hn; cases hn; simp only [tr]; rw [vE ih h]
def aD : Operand -> aU -> Bool
 | .tmp t, .r p => sQ (Pa.of t) p
 | .const v, .c d => aHl 3 v d
 | .func f, .c (.fn (.func g) [] []) => decide (f = g)
 | _, _ => false
def bQ (m : Mp) (xs : Array Operand) (ρ : Tr DV) (ρ' : Operand -> Value) : Prop := ∀ x ∈ xs, ∀ y, aD x y = true -> tr m (ev ρ y) = some (ρ' x)
abbrev Rd := Nat -> Option eE
def rdCell (rd : Rd) (b j : Nat) : Option DV := match rd b with
 | some (.blk B) => if j < B.n then B.t.at_ j else none
 | _ => none
def rdCells (rd : Rd) (b : Nat) : Nat -> Nat -> Option (List DV)
 | _, 0 => some []
 | j, n + 1 => match rdCell rd b j, rdCells rd b (j + 1) n with
   | some v, some vs => some (v :: vs)
   | _, _ => none
end Go.DI
namespace Go.DI
open Go.RowKit
def iO (k : IntKind) (n : Int) : Option DV := aGW (bFg k n) λ n => some (.int k n)
theorem gP (k : IntKind) (n : Int) : iO k n = some (.int k (k.wrap n)) := by unfold iO; rw [lU, aVY]
def eH (b : Bool) : Option DV := bFe b λ b => some (.bool b)
theorem fR (b : Bool) : eH b = some (.bool b) := aVu b _
def tU (s : Ln) : Option DV := bHr s λ s => some (.str s)
theorem fI (s : Ln) : tU s = some (.str s) := aOO s _
def nV (k : IntKind) (f : BitVec k.bits -> BitVec k.bits -> BitVec k.bits) (x y : Int) : Int := ((f (BitVec.ofInt k.bits x) (BitVec.ofInt k.bits y)).toNat : Int)
def qD (op : BinOp) (k : IntKind) (a b : Int) : Option DV :=
 match op with
 | .add => iO k (a + b)
 | .sub => iO k (a - b)
 | .mul => iO k (a * b)
 | .quo => bif iEq b 0 then none else iO k (a.tdiv b)
 | .rem => bif iEq b 0 then none else aGW (a.tmod b) λ n => some (.int k n)
 | .and => iO k (nV k (· &&& ·) a b)
 | .or => iO k (nV k (· ||| ·) a b)
 | .xor => iO k (nV k (· ^^^ ·) a b)
 | .andNot => iO k (nV k (λ x y => x &&& ~~~y) a b)
 | .eql => eH (iEq a b)
 | .neq => eH (!iEq a b)
 | .lss => eH (iLt a b)
 | .leq => eH (iLe a b)
 | .gtr => eH (iLt b a)
 | .geq => eH (iLe b a)
 | _ => none
def mP (op : BinOp) (k : IntKind) (a b : Int) : Option DV :=
 bif iLt b 0 then none else
 match op with
 | .shl => iO k (a * 2 ^ (min b.toNat k.bits))
 | .shr => aGW (a.fdiv (2 ^ (min b.toNat k.bits))) λ n => some (.int k n)
 | _ => none
def nY : Nat := 4611686018427387904
def qC (op : BinOp) (s t : Ln) : Option DV :=
 match op with
 | .add => bif Nat.blt (s.length + t.length) nY then tU (s ++ t) else none
 | .eql => eH (sEq s t)
 | .neq => eH (!sEq s t)
 | .lss => eH (sLt s t)
 | .leq => eH (sLt s t || sEq s t)
 | .gtr => eH (!(sLt s t || sEq s t))
 | .geq => eH (!sLt s t)
 | _ => none
def mW : BinOp -> Bool
 | .shl | .shr => true
 | _ => false
def aAc (op : BinOp) (x y : DV) : Option DV :=
 match x, y with
 | .int k a, .int k' b => bif mW op then mP op k a b else bif decide (k = k') then qD op k a b else none
 | .str s, .str t => qC op s t
 | _, _ => none
theorem aBF {P : Program} {w : World} (op : BinOp) (t : TypeId) (x y : Operand) (k k' : IntKind) (a b : Int) :
   (eqGuard op t x y (.int k a) (.int k' b)).run P w = .ok () w := by
 unfold eqGuard; split <;> rfl
theorem aJL {P : Program} {w : World} (op : BinOp) (t : TypeId) (x y : Operand) (a b : ByteArray) :
   (eqGuard op t x y (.string a) (.string b)).run P w = .ok () w := by
 unfold eqGuard; split <;> rfl
theorem aDX {γ : Type} {b : Bool} {x : Option γ} {v : γ} (h : (bif b then none else x) = some v) : b = false /\ x = some v := by
 cases b
 · exact ⟨rfl, h⟩
 · cases h
theorem aI {γ : Type} {b : Bool} {x : Option γ} {v : γ} (h : (bif b then x else none) = some v) : b = true /\ x = some v := by
 cases b
 · cases h
 · exact ⟨rfl, h⟩
theorem fN {m : Mp} {k : IntKind} {n : Int} {v : Value} (h : tr m (.int k n) = some v) : v = .int k n := by simp only [tr] at h; cases h; rfl
theorem iJ {m : Mp} {b : Bool} {v : Value} (h : tr m (.bool b) = some v) : v = .bool b := by simp only [tr] at h; cases h; rfl
theorem jI {m : Mp} {s : Ln} {v : Value} (h : tr m (.str s) = some v) : aP s = true /\ v = .string (gG s) := by
 simp only [tr] at h; split at h
 · rename_i hs; cases h; exact ⟨hs, rfl⟩
 · cases h
theorem qX {m : Mp} {s : Ln} (h : aP s = true) : tr m (.str s) = some (.string (gG s)) := by simp only [tr]; rw [if_pos h]
theorem aKd {P : Program} {w : World} {op : BinOp} {t : TypeId} {k : IntKind} {a b : Int} {v : DV} (hs : mW op = false) (h : qD op k a b = some v) (m : Mp) :
   ∃ v', (binOp op t (.int k a) (.int k b)).run P w = .ok v' w /\ tr m v = some v' := by
 cases op <;> simp only [qD, mW] at h hs <;> (try (cases hs; done))
 case quo =>
   obtain ⟨h0, h⟩ := aDX h; rw [gP] at h; cases h; rw [oZ, beq_eq_false_iff_ne] at h0; exact ⟨_, by simp [binOp, Op.intDiv, h0], rfl⟩
 case rem =>
   obtain ⟨h0, h⟩ := aDX h; rw [lU] at h; cases h; rw [oZ, beq_eq_false_iff_ne] at h0; exact ⟨_, by simp [binOp, Op.intDiv, h0], rfl⟩
 all_goals
   first
     | (rw [gP] at h; cases h; exact ⟨_, by simp [binOp, Op.intArith, Op.intBits, nV], rfl⟩)
     | (rw [fR] at h; cases h; refine ⟨_, by simp only [binOp, ne_eq, not_true_eq_false, ite_false]; rfl, ?_⟩; simp [tr, oZ, mN, aMd, bne])
theorem aMx {P : Program} {w : World} {op : BinOp} {t : TypeId} {k k' : IntKind} {a b : Int} {v : DV} (h : mP op k a b = some v) (m : Mp) :
   ∃ v', (binOp op t (.int k a) (.int k' b)).run P w = .ok v' w /\ tr m v = some v' := by
 unfold mP at h; obtain ⟨h0, h⟩ := aDX h; rw [mN, decide_eq_false_iff_not] at h0; cases op <;> simp only [] at h <;> (try (cases h; done))
 · rw [gP] at h; cases h; exact ⟨_, by simp [binOp, Op.shift, h0], rfl⟩
 · rw [lU] at h; cases h; exact ⟨_, by simp [binOp, Op.shift, h0], rfl⟩
theorem aKc {P : Program} {w : World} {op : BinOp} {t : TypeId} {x y : Ln} {v : DV} (hx : aP x = true) (hy : aP y = true) (h : qC op x y = some v) (m : Mp) :
   ∃ v', (binOp op t (.string (gG x)) (.string (gG y))).run P w = .ok v' w /\ tr m v = some v' := by
 cases op <;> simp only [qC] at h <;> (try (cases h; done))
 case add =>
   obtain ⟨h0, h⟩ := aI h; rw [fI] at h; cases h; rw [Nat.blt_eq] at h0; unfold nY at h0; refine ⟨_, ?_, qX (eG hx hy)⟩; have hm : IntKind.i64.max = 9223372036854775807 := by decide
   simp only [binOp, Op.stringOp, jX, hm]; rw [if_neg (by omega), aIH]; rfl
 all_goals
   rw [fR] at h; cases h; refine ⟨_, by simp only [binOp, Op.stringOp]; rfl, ?_⟩
   simp only [tr, Option.some.injEq, Value.bool.injEq]
   first
     | rw [aUm hx hy, aCa hx hy, xQ]
     | rw [aCa hx hy, xQ]
     | rw [aUm hx hy]
end Go.DI
namespace Go.DI
open Go.RowKit
def gW (P : Program) (t : TypeId) (n : Nat) : Bool := match P.info? t with
 | some i => i.size == n
 | none => false
def aMb : TypeDesc -> Bool
 | .struct _ | .array _ _ => true
 | _ => false
def nG (P : Program) (t : TypeId) (b : Bool) : Bool := match P.underlying t with
 | some d => aMb d == b
 | none => false
section
variable {P : Program} {w : World}
theorem cE {t : TypeId} {n : Nat} (h : gW P t n = true) : (sizeOf t).run P w = .ok n w := by
 unfold gW at h; unfold sizeOf typeInfo; cases e : P.info? t with
 | none => rw [e] at h; cases h
 | some i =>
   rw [e] at h; simp only [beq_iff_eq] at h; simp [e, h]
theorem dL {t : TypeId} {b : Bool} (h : nG P t b = true) : (isAgg t).run P w = .ok b w := by
 unfold nG at h; cases e : P.underlying t with
 | none => rw [e] at h; cases h
 | some d =>
   rw [e] at h; simp only [beq_iff_eq] at h; unfold isAgg; simp only [Sem.run_bind, run_underlying e, Result.andThen_ok]; cases d <;> simp_all [aMb]
end
def DV.cells : DV -> List DV
 | .agg cs => cs
 | v => [v]
theorem aCB {m : Mp} {v : DV} {v' : Value} (h : tr m v = some v') : trs m v.cells = some v'.cells.toList := by
 cases v <;> simp only [tr] at h
 case agg cs =>
   cases e : trs m cs with
   | none => rw [e] at h; cases h
   | some cs' => rw [e] at h; cases h; simpa [DV.cells, Value.cells] using e
 all_goals
   first
     | (cases h; rfl)
     | (split at h <;> first | (cases h; done) | (cases h; simp only [DV.cells, trs, tr, *]; rfl))
def Tr.ofF {α : Type} : List α -> Nat -> Tr α -> Tr α
 | [], _, t => t
 | v :: vs, i, t => Tr.ofF vs (i + 1) (t.put i v)
theorem Tr.at_ofF {α : Type} : ∀ (vs : List α) (i : Nat) (t : Tr α) (j : Nat), (Tr.ofF vs i t).at_ j = if i <= j /\ j < i + vs.length then vs[j - i]? else t.at_ j
 | [], i, t, j => by simp [Tr.ofF]; intro h1 h2; omega
 | v :: vs, i, t, j => by
   simp only [Tr.ofF]; rw [Tr.at_ofF vs (i + 1), Tr.at_put]; by_cases h : j = i
   · subst h; rw [if_neg (by omega), if_pos rfl, if_pos ⟨by omega, by simp⟩]; simp
   · by_cases h2 : i + 1 <= j /\ j < i + 1 + vs.length
     · rw [if_pos h2, if_pos ⟨by omega, by simp; omega⟩]
       have : j - i = (j - (i + 1)) + 1 := by omega
       rw [this]; rfl
     · rw [if_neg h2, if_neg h, if_neg (by simp; omega)]
def Tr.ofL {α : Type} (vs : List α) : Tr α := Tr.ofF vs 0 .e
theorem Tr.at_ofL {α : Type} (vs : List α) (j : Nat) : (Tr.ofL vs).at_ j = vs[j]? := by
 unfold Tr.ofL; rw [Tr.at_ofF, Tr.at_e]; by_cases h : j < vs.length
 · rw [if_pos ⟨by omega, by omega⟩]; simp
 · rw [if_neg (by omega), List.getElem?_eq_none (by omega)]
def Tr.full {α : Type} (v : α) : Nat -> Tr α
 | 0 => .e
 | d + 1 => .n (Tr.full v d) (some v) (Tr.full v d)
theorem Tr.get_full {α : Type} (v : α) : ∀ (p : Pa) (d : Nat), p.toN + 1 < 2 ^ d -> Tr.get p (Tr.full v d) = some v
 | .h, 0, h => by simp [Pa.toN] at h
 | .h, d + 1, _ => rfl
 | .l p, 0, h => by simp at h
 | .r p, 0, h => by simp at h
 | .l p, d + 1, h => Tr.get_full v p d (by simp only [Pa.toN, Nat.pow_succ] at h; omega)
 | .r p, d + 1, h => Tr.get_full v p d (by simp only [Pa.toN, Nat.pow_succ] at h; omega)
theorem Tr.at_full {α : Type} (v : α) {d j : Nat} (h : j + 1 < 2 ^ d) : (Tr.full v d).at_ j = some v := Tr.get_full v _ _ (by rw [Pa.toN_of]; exact h)
inductive Zs where
 | list (zs : List DV)
 | full (n : Nat) (z : DV)
 | fullThen (n : Nat) (z : DV) (zs : List DV)
def Zs.cells : Zs -> List DV
 | .list zs => zs
 | .full n z => List.replicate n z
 | .fullThen n z zs => List.replicate n z ++ zs
def Zs.tr : Zs -> Tr DV
 | .list zs => Tr.ofL zs
 | .full _ z => Tr.full z 24
 | .fullThen n z zs => Tr.ofF zs n (Tr.full z 24)
def Zs.small : Zs -> Bool
 | .list _ => true
 | .full n _ => Nat.blt n 16777215
 | .fullThen n _ _ => Nat.blt n 16777215
theorem Zs.at_tr {z : Zs} (hs : z.small = true) {j : Nat} (hj : j < z.cells.length) : z.tr.at_ j = z.cells[j]? := by
 cases z with
 | list zs => exact Tr.at_ofL zs j
 | full n z =>
   simp only [Zs.cells, List.length_replicate] at hj; simp only [Zs.small, Nat.blt_eq] at hs; simp only [Zs.tr, Zs.cells]; rw [Tr.at_full _ (by omega)]
   simp [hj]
 | fullThen n z zs =>
   simp only [Zs.cells, List.length_append, List.length_replicate] at hj; simp only [Zs.small, Nat.blt_eq] at hs; simp only [Zs.tr, Zs.cells]; rw [Tr.at_ofF]; by_cases h : n <= j
   · rw [if_pos ⟨h, by omega⟩, List.getElem?_append_right (by simpa using h)]
     simp
   · rw [if_neg (by omega), Tr.at_full _ (by omega), List.getElem?_append_left (by rw [List.length_replicate]; omega), List.getElem?_replicate, if_pos (by omega)]
theorem lF.new {m : Mp} {w : World} {ex : Nat} {B : Blk} {c : Array Value} {el : TypeId} (hs : c.size = B.n + ex * B.es)
   (h : ∀ j, j < B.n -> ∃ v v', B.t.at_ j = some v /\ tr m v = some v' /\ c[j]? = some v') : lF m ⟨w.heap.size, ex, 0⟩ B (w.alloc (.cells c el)) :=
 ⟨⟨c, el, (0, 0), jC _ _, by simpa using hs, λ j hj => .inl (by simpa using h j hj)⟩, λ _ j _ => by simp, λ _ j => by simp⟩
theorem lF.newL {m : Mp} {w : World} {vs : List DV} {c : Array Value} {el : TypeId} {es : Nat} {ro : Bool} (h : trs m vs = some c.toList) :
   lF m ⟨w.heap.size, 0, 0⟩ ⟨vs.length, es, ro, true, Tr.ofL vs⟩ (w.alloc (.cells c el)) := by
 refine lF.new (by simpa using cU h) λ j hj => ?_
 obtain ⟨v', h1, h2⟩ := iU h j _ (List.getElem?_eq_getElem hj); exact ⟨_, v', by rw [Tr.at_ofL]; exact List.getElem?_eq_getElem hj, h2, by simpa using h1⟩
section
variable {N0 : Nat} {w0 : World} {m : Mp} {h : H} {w : World} {P : Program}
theorem bH.rdCell (hw : bH N0 w0 m h w) {b j : Nat} {i : pP} {v : DV} (hm : m b = some i) (hv : rdCell h.get b j = some v) :
   ∃ v', w.cell? ⟨i.r, i.sh + j, none⟩ = some v' /\ tr m v = some v' := by
 unfold DI.rdCell at hv; split at hv
 · rename_i B hB; split at hv
   · rename_i hj; exact hw.cell hm hB hj hv
   · cases hv
 · cases hv
theorem bH.rdCells (hw : bH N0 w0 m h w) {b : Nat} {i : pP} (hm : m b = some i) : ∀ {n j : Nat} {vs : List DV}, rdCells h.get b j n = some vs ->
   ∃ vs', trs m vs = some vs' /\ vs'.length = n /\ ∀ q v, vs'[q]? = some v -> w.cell? ⟨i.r, i.sh + j + q, none⟩ = some v
 | 0, j, vs, hv => by
   simp only [DI.rdCells] at hv; cases hv; exact ⟨[], rfl, rfl, λ q v hq => by simp at hq⟩
 | n + 1, j, vs, hv => by
   simp only [DI.rdCells] at hv; split at hv
   · rename_i v vs' h1 h2; cases hv; obtain ⟨u, hu1, hu2⟩ := hw.rdCell hm h1; obtain ⟨us, hus, hl, hc⟩ := hw.rdCells hm h2; refine ⟨u :: us, dB.2 ⟨u, us, hu2, hus, rfl⟩, by simp [hl], λ q x hq => ?_⟩
     cases q with
     | zero => simp at hq; subst hq; exact hu1
     | succ q =>
       simp at hq; have := hc q x hq
       rwa [show i.sh + (j + 1) + q = i.sh + j + (q + 1) from by omega] at this
   · cases hv
theorem iE (b o j : Nat) : (⟨b, o, none⟩ : Addr).add j = ⟨b, o + j, none⟩ := by
 unfold Addr.add; split
 · rename_i h; subst h; rfl
 · rfl
theorem eT {r o n : Nat} {vs : List Value} (hl : vs.length = n) (hc : ∀ q v, vs[q]? = some v -> w.cell? ⟨r, o + q, none⟩ = some v) :
   (loadCells ⟨r, o, none⟩ n).run P w = .ok vs.toArray w := by
 subst hl; have := run_loadCells_list (P := P) (w := w) ⟨r, o, none⟩ vs (λ j v hj => by rw [iE]; exact hc j v hj)
 exact this
end
end Go.DI
namespace Go.DI
open Go.RowKit
inductive EqT where
 | bool
 | ptr
 | nilI
 | nilD
 | nilL
 | nilM
 | nilF
inductive nW where
 | bool
 | int
 | str
 | ptr
inductive EqS where
 | nil
 | leaf (k : nW) (off : Nat) (tl : EqS)
 | sub (off n : Nat) (hd tl : EqS)
 | arr (k : nW) (off n : Nat) (tl : EqS)
inductive Prm where
 | idx
 | cnt
inductive vN where
 | bad
 | prm (k : Prm) (x y : aU)
 | lkp (kt : nW) (z : DV) (ok : Bool) (x k : aU)
 | slM (es : Nat) (x : aU) (lo : Option aU) (hi mx : aU)
 | mv (x : aU)
 | pick (c a b : aU)
 | bin (op : BinOp) (x y : aU)
 | eqv (t : EqT) (neg : Bool) (x y : aU)
 | eqs (neg : Bool) (s : EqS) (x y : aU)
 | not (x : aU)
 | neg (x : aU)
 | conv (k : IntKind) (x : aU)
 | same (x : aU)
 | b2s (x : aU)
 | mkI (t : Nat) (x : aU)
 | mkF (f : Fn) (first captured : List aU)
 | ld (x : aU)
 | ldN (n : Nat) (x : aU)
 | nilchk (x : aU)
 | fa (off : Nat) (x : aU)
 | fld (off n : Nat) (agg : Bool) (x : aU)
 | iaA (len es : Nat) (x i : aU)
 | iaS (es : Nat) (x i : aU)
 | ixA (len es : Nat) (agg : Bool) (x i : aU)
 | ixS (x i : aU)
 | slS (x : aU) (lo hi : Option aU)
 | slL (es : Nat) (x : aU) (lo hi : Option aU)
 | slA (n es : Nat) (x : aU) (lo hi : Option aU)
 | ext (i : Nat) (x : aU)
 | lenS (x : aU)
 | lenL (x : aU)
 | lenM (x : aU)
 | capL (x : aU)
 | ovl (x y : aU)
 | lenA (n : Nat)
 | mn (a b : aU)
 | mx (a b : aU)
 | bld (zero : List DV) (parts : List (Nat × Nat × aU))
 | tas (t : Nat) (zero : DV) (ok : Bool) (x : aU)
 | alc (n es : Nat) (z : Zs)
 | box (x : aU)
 | bsl (n es : Nat) (zero : List DV) (parts : List (Nat × Nat × aU))
 | mks (es bytes : Nat) (zero : DV) (l c : aU)
 | mkm
 | s2b (x : aU)
inductive dT where
 | val (v : DV)
 | new (o : eE) (mk : Nat -> DV)
def vl (v : Option DV) : Option dT := v.map .val
def nR (len : Nat) (i : DV) (k : Nat -> Option DV) : Option DV :=
 match i with
 | .int _ (.ofNat n) => bif Nat.blt n len then k n else none
 | _ => none
def dLo (lo : Option DV) (k : Nat -> Option DV) : Option DV :=
 match lo with
 | none => k 0
 | some (.int _ (.ofNat n)) => k n
 | _ => none
def dHi (dflt : Nat) (hi : Option DV) (k : Nat -> Option DV) : Option DV :=
 match hi with
 | none => k dflt
 | some (.int _ (.ofNat n)) => k n
 | _ => none
def dC (len cap : Nat) (lo hi : Option DV) (k : Nat -> Nat -> Option DV) : Option DV :=
 dHi len hi λ h => bif Nat.ble h cap then (dLo lo λ l => bif Nat.ble l h then k l h else none) else none
def yJ (v : DV) : Option Nat := match v with
 | .int .u8 (.ofNat n) => bif Nat.blt n 256 then some n else none
 | _ => none
def jG : List DV -> Option (Ln)
 | [] => some []
 | v :: vs => match yJ v, jG vs with
   | some b, some bs => some (b :: bs)
   | _, _ => none
def pW : List DV -> Nat -> List DV -> List DV
 | cs, _, [] => cs
 | cs, off, v :: vs => pW (cs.set off v) (off + 1) vs
def fG : List DV -> List (Nat × Nat × DV) -> Option (List DV)
 | cs, [] => some cs
 | cs, (off, n, v) :: ps => bif Nat.beq v.cells.length n && Nat.ble (off + n) cs.length then fG (pW cs off v.cells) ps else none
def iI {α : Type} (l : List α) : Nat -> List α
 | 0 => []
 | n + 1 => l ++ iI l n
def pD (rd : Rd) (x y : DV) : Option Bool := match x, y with
 | .nilp, .nilp => some true
 | .nilp, .ptr _ _ => some false
 | .ptr _ _, .nilp => some false
 | .ptr b o, .ptr b' o' => bif Nat.beq b b' then some (Nat.beq o o') else match rd b, rd b' with
   | some (.blk B), some (.blk B') => bif B.pl && B'.pl then some false else none
   | _, _ => none
 | _, _ => none
def jF (rd : Rd) (k : nW) (x y : DV) : Option Bool := match k, x, y with
 | .bool, .bool a, .bool b => some (bif a then b else !b)
 | .int, .int k a, .int k' b => bif decide (k = k') then some (iEq a b) else none
 | .str, .str a, .str b => some (sEq a b)
 | .ptr, a, b => pD rd a b
 | _, _, _ => none
def wT (rd : Rd) (k : nW) (xs : List DV) : List DV -> Option Bool :=
 List.rec (motive := λ _ => List DV -> Option Bool) (λ ys => List.rec (motive := λ _ => Option Bool) (some true) (λ _ _ _ => none) ys)
   (λ a _ ih ys => List.rec (motive := λ _ => Option Bool) none (λ b bs _ => match jF rd k a b with
     | some c => bif c then ih bs else some false
     | none => none) ys) xs
def jZ (rd : Rd) (s : EqS) : List DV -> List DV -> Option Bool :=
 EqS.rec (motive := λ _ => List DV -> List DV -> Option Bool) (λ _ _ => some true)
   (λ k off _ ih xs ys => match xs[off]?, ys[off]? with
     | some a, some b => match jF rd k a b with
       | some c => bif c then ih xs ys else some false
       | none => none
     | _, _ => none)
   (λ off n _ _ ihh iht xs ys => bif Nat.ble (off + n) xs.length && Nat.ble (off + n) ys.length then
     (match ihh ((xs.drop off).take n) ((ys.drop off).take n) with
       | some c => bif c then iht xs ys else some false
       | none => none) else none)
   (λ k off n _ ih xs ys => bif Nat.ble (off + n) xs.length && Nat.ble (off + n) ys.length then
     (match wT rd k ((xs.drop off).take n) ((ys.drop off).take n) with
       | some c => bif c then ih xs ys else some false
       | none => none) else none) s
def dEq (rd : Rd) (t : EqT) (x y : DV) : Option Bool := match t, x, y with
 | .bool, .bool a, .bool b => some (bif a then b else !b)
 | .nilI, .nili, .nili => some true
 | .nilI, .nili, .ifc _ _ => some false
 | .nilI, .ifc _ _, .nili => some false
 | .nilD, .nili, .ifc _ _ => some false
 | .nilD, .ifc _ _, .nili => some false
 | .nilL, .nils, .nils => some true
 | .nilL, .nils, .slc _ _ _ _ _ => some false
 | .nilL, .slc _ _ _ _ _, .nils => some false
 | .nilL, .nils, .slE _ _ _ => some false
 | .nilL, .slE _ _ _, .nils => some false
 | .nilM, .nilm, .nilm => some true
 | .nilM, .nilm, .mp _ => some false
 | .nilM, .mp _, .nilm => some false
 | .nilF, .nilf, .nilf => some true
 | .nilF, .nilf, .fn _ _ _ => some false
 | .nilF, .fn _ _ _, .nilf => some false
 | .ptr, a, b => pD rd a b
 | _, _, _ => none
def aFI (x : DV) : Option DV := match x with
 | .nils => some (.int .i64 0)
 | .slc _ _ _ cap op => bif op then none else some (.int .i64 (.ofNat cap))
 | _ => none
def aHe (rd : Rd) (x y : DV) : Option DV := match x, y with
 | .slc b _ _ _ _, .slc c _ _ _ _ => match rd b, rd c with
   | some (.blk B), some (.blk C) => bif !(Nat.beq b c) && B.pl && !(Nat.beq C.n 0) then some (.bool false) else none
   | _, _ => none
 | _, _ => none
def nQ (kt : nW) (x y : DV) : Option Bool := match kt, x, y with
 | .bool, .bool a, .bool b => some (bif a then b else !b)
 | .int, .int k a, .int k' b => bif decide (k = k') then some (iEq a b) else none
 | .str, .str a, .str b => some (sEq a b)
 | _, _, _ => none
def rH (kt : nW) (k : DV) (l : List dJ) : Option (Option DV) :=
 List.rec (motive := λ _ => Option (Option DV)) (some none) (λ d _ ih => match nQ kt k d.key with
   | some b => bif b then some (some d.val) else ih
   | none => none) l
def aJK (c : Nat) : Ln -> Int
 | [] => -1
 | b :: s => bif Nat.beq b c then 0 else match aJK c s with
   | .ofNat n => .ofNat (n + 1)
   | .negSucc n => .negSucc n
def aMn (c : Nat) : Ln -> Nat
 | [] => 0
 | b :: s => bif Nat.beq b c then aMn c s + 1 else aMn c s
def cG (d : vN) (ρ : Tr DV) (rd : Rd) : Option dT :=
 match d with
 | .bad => none
 | .prm k x y => match ev ρ x, ev ρ y with
   | .str s, .int .u8 (.ofNat c) => bif Nat.blt c 256 then (match k with
     | .idx => aGW (aJK c s) λ n => some (.val (.int .i64 n))
     | .cnt => cR (aMn c s) λ n => some (.val (.int .i64 (.ofNat n)))) else none
   | _, _ => none
 | .lkp kt z ok x k => (match ev ρ x with
   | .nilm => some none
   | .mp b => match rd b with
     | some (.map es _) => rH kt (ev ρ k) es
     | _ => none
   | _ => none).map λ r => match r with
     | some v => .val (bif ok then .tup [v, .bool true] else v)
     | none => .val (bif ok then .tup [z, .bool false] else z)
 | .slM es x lo hi mx => match ev ρ mx with
   | .int _ (.ofNat k) => (match ev ρ x with
     | .nils => bif Nat.beq k 0 then vl (dC 0 0 (lo.map (ev ρ)) (some (ev ρ hi)) λ l h => some .nils) else none
     | .slc b o len cap op => bif Nat.ble k cap then vl (dC len k (lo.map (ev ρ)) (some (ev ρ hi)) λ l h =>
         bif Nat.blt l k then (cR (o + l * es) λ o => cR (h - l) λ n => cR (k - l) λ c => some (.slc b o n c false)) else some (.slc b o 0 0 false)) else none
     | _ => none)
   | _ => none
 | .mv x => some (.val (ev ρ x))
 | .pick c a b => match ev ρ c with
   | .bool t => some (.val (bif t then ev ρ a else ev ρ b))
   | _ => none
 | .bin op x y => vl (aAc op (ev ρ x) (ev ρ y))
 | .eqv t neg x y => vl ((dEq rd t (ev ρ x) (ev ρ y)).bind λ b => eH (bif neg then !b else b))
 | .eqs neg s x y => match ev ρ x, ev ρ y with
   | .agg xs, .agg ys => vl ((jZ rd s xs ys).bind λ b => eH (bif neg then !b else b))
   | _, _ => none
 | .not x => match ev ρ x with
   | .bool b => vl (eH (!b))
   | _ => none
 | .neg x => match ev ρ x with
   | .int k n => vl (iO k (0 - n))
   | _ => none
 | .conv k x => match ev ρ x with
   | .int _ n => vl (iO k n)
   | _ => none
 | .same x => match ev ρ x with
   | .str s => some (.val (.str s))
   | _ => none
 | .b2s x => match ev ρ x with
   | .nils => some (.val (.str []))
   | .slE _ _ _ => some (.val (.str []))
   | .slc b o len _ _ => vl (((rdCells rd b o len).bind jG).bind tU)
   | _ => none
 | .mkI t x => some (.val (.ifc t (ev ρ x)))
 | .mkF f a c => some (.val (.fn f (a.map (ev ρ)) (c.map (ev ρ))))
 | .ld x => match ev ρ x with
   | .ptr b o => vl (rdCell rd b o)
   | _ => none
 | .ldN n x => match ev ρ x with
   | .ptr b o => vl ((rdCells rd b o n).map .agg)
   | _ => none
 | .nilchk x => match ev ρ x with
   | .ptr b o => some (.val (.ptr b o))
   | _ => none
 | .fa off x => match ev ρ x with
   | .ptr b o => some (cR (o + off) λ o => .val (.ptr b o))
   | _ => none
 | .fld off n agg x => match ev ρ x with
   | .agg cs => bif agg then (bif Nat.ble (off + n) cs.length then some (.val (.agg ((cs.drop off).take n))) else none) else vl cs[off]?
   | _ => none
 | .iaA len es x i => match ev ρ x with
   | .ptr b o => vl (nR len (ev ρ i) λ n => cR (o + n * es) λ o => some (.ptr b o))
   | _ => none
 | .iaS es x i => match ev ρ x with
   | .slc b o len _ _ => vl (nR len (ev ρ i) λ n => cR (o + n * es) λ o => some (.ptr b o))
   | _ => none
 | .ixA len es agg x i => match ev ρ x with
   | .agg cs => vl (nR len (ev ρ i) λ n => bif agg then (bif Nat.ble (n * es + es) cs.length then some (.agg ((cs.drop (n * es)).take es)) else none) else cs[n * es]?)
   | _ => none
 | .ixS x i => match ev ρ x with
   | .str s => vl (nR s.length (ev ρ i) λ n => (s[n]?).map λ b => .int .u8 (.ofNat b))
   | _ => none
 | .slS x lo hi => match ev ρ x with
   | .str s => vl (dC s.length s.length (lo.map (ev ρ)) (hi.map (ev ρ)) λ l h => tU ((s.take h).drop l))
   | _ => none
 | .slL es x lo hi => match ev ρ x with
   | .nils => vl (dC 0 0 (lo.map (ev ρ)) (hi.map (ev ρ)) λ l h => some .nils)
   | .slc b o len cap op => vl (dC len cap (lo.map (ev ρ)) (hi.map (ev ρ)) λ l h =>
       bif Nat.blt l cap then (cR (o + l * es) λ o => cR (h - l) λ n => cR (cap - l) λ c => some (.slc b o n c op))
       else bif op then (cR (o + l * es) λ o2 => some (.slE b o o2)) else some (.slc b o 0 0 false))
   | .slE b o o2 => vl (dC 0 0 (lo.map (ev ρ)) (hi.map (ev ρ)) λ l h => some (.slE b o o2))
   | _ => none
 | .slA n es x lo hi => match ev ρ x with
   | .ptr b o => vl (dC n n (lo.map (ev ρ)) (hi.map (ev ρ)) λ l h =>
       bif Nat.blt l n then (cR (o + l * es) λ o => cR (h - l) λ m => cR (n - l) λ c => some (.slc b o m c false))
       else some (.slc b o 0 0 false))
   | _ => none
 | .ext i x => match ev ρ x with
   | .tup vs => vl vs[i]?
   | _ => none
 | .lenS x => match ev ρ x with
   | .str s => cR s.length λ n => some (.val (.int .i64 (.ofNat n)))
   | _ => none
 | .lenL x => match ev ρ x with
   | .nils => some (.val (.int .i64 0))
   | .slc _ _ n _ _ => some (.val (.int .i64 (.ofNat n)))
   | .slE _ _ _ => some (.val (.int .i64 0))
   | _ => none
 | .lenM x => match ev ρ x with
   | .nilm => some (.val (.int .i64 0))
   | .mp b => match rd b with
     | some (.map es _) => cR es.length λ n => some (.val (.int .i64 (.ofNat n)))
     | _ => none
   | _ => none
 | .capL x => vl (aFI (ev ρ x))
 | .ovl x y => vl (aHe rd (ev ρ x) (ev ρ y))
 | .lenA n => some (.val (.int .i64 (.ofNat n)))
 | .mn a b => match ev ρ a, ev ρ b with
   | .int k x, .int k' y => some (.val (.int k (bif iLt y x then y else x)))
   | _, _ => none
 | .mx a b => match ev ρ a, ev ρ b with
   | .int k x, .int k' y => some (.val (.int k (bif iLt x y then y else x)))
   | _, _ => none
 | .bld zero parts => vl ((fG zero (parts.map λ p => (p.1, p.2.1, ev ρ p.2.2))).map .agg)
 | .tas t zero ok x => match ev ρ x with
   | .nili => bif ok then some (.val (.tup [zero, .bool false])) else none
   | .ifc u v => bif Nat.beq u t then some (.val (bif ok then .tup [v, .bool true] else v)) else bif ok then some (.val (.tup [zero, .bool false])) else none
   | _ => none
 | .alc n es z => some (.new (.blk ⟨n, es, false, true, z.tr⟩) λ k => .ptr k 0)
 | .box x => cR (ev ρ x).cells.length λ n => some (.new (.blk ⟨n, n, false, true, Tr.ofL (ev ρ x).cells⟩) λ k => .ptr k 0)
 | .bsl n es zero parts => (fG (iI zero n) (parts.map λ p => (p.1, p.2.1, ev ρ p.2.2))).map λ cs =>
     .new (.blk ⟨n * es, es, false, true, Tr.ofL cs⟩) λ k => .slc k 0 n n false
 | .mks es bytes zero l c => match ev ρ l, ev ρ c with
   | .int _ (.ofNat l), .int _ (.ofNat c) =>
     bif Nat.ble l c && Nat.blt (bytes * c) 140737488355328 && Nat.blt c 140737488355328 then
       some (.new (.blk ⟨c, 1, false, true, Tr.full zero 48⟩) λ k => .slc k 0 l c false)
     else none
   | _, _ => none
 | .mkm => some (.new (.map [] 0) λ k => .mp k)
 | .s2b x => match ev ρ x with
   | .str s => cR s.length λ n => some (.new (.blk ⟨n, 1, false, false, Tr.ofL (s.map λ b => .int .u8 (.ofNat b))⟩) λ k => .slc k 0 n n true)
   | _ => none
end Go.DI
namespace Go.DI
def kIdx (k : IntKind) : Nat := IntKind.rec (motive := λ _ => Nat) 0 1 2 3 4 5 6 7 k
def kEq (a b : IntKind) : Bool := Nat.beq (kIdx a) (kIdx b)
theorem aUX (a b : IntKind) : kEq a b = decide (a = b) := by cases a <;> cases b <;> rfl
def aVd (x y : Int) : Int := Int.rec (motive := λ _ => Int) (λ a => Int.rec (motive := λ _ => Int) (λ b => .ofNat (Nat.add a b)) (λ b => Int.add (.ofNat a) (.negSucc b)) y) (λ a => Int.add (.negSucc a) y) x
theorem aGR (x y : Int) : aVd x y = x + y := by cases x <;> cases y <;> rfl
def aPC (k : IntKind) (a b : Int) : Option DV := iO k (aVd a b)
def aPr (k : IntKind) (a b : Int) : Option DV := iO k (a - b)
def aPv (k : IntKind) (a b : Int) : Option DV := iO k (a * b)
def aPt (k : IntKind) (a b : Int) : Option DV := bif iEq b 0 then none else iO k (a.tdiv b)
def aPs (k : IntKind) (a b : Int) : Option DV := bif iEq b 0 then none else aGW (a.tmod b) λ n => some (.int k n)
def aPB (k : IntKind) (a b : Int) : Option DV := iO k (nV k (· &&& ·) a b)
def bDb (k : IntKind) (a b : Int) : Option DV := iO k (nV k (· ||| ·) a b)
def aPq (k : IntKind) (a b : Int) : Option DV := iO k (nV k (· ^^^ ·) a b)
def aDZ (k : IntKind) (a b : Int) : Option DV := iO k (nV k (λ x y => x &&& ~~~y) a b)
def aWB (k : IntKind) (a b : Int) : Option DV := none
def aPA (k : IntKind) (a b : Int) : Option DV := eH (iEq a b)
def aPu (k : IntKind) (a b : Int) : Option DV := eH (!iEq a b)
def aPw (k : IntKind) (a b : Int) : Option DV := eH (iLt a b)
def aPx (k : IntKind) (a b : Int) : Option DV := eH (iLe a b)
def aPy (k : IntKind) (a b : Int) : Option DV := eH (iLt b a)
def aPz (k : IntKind) (a b : Int) : Option DV := eH (iLe b a)
def aKf (op : BinOp) : IntKind -> Int -> Int -> Option DV := BinOp.rec (motive := λ _ => IntKind -> Int -> Int -> Option DV) aPC aPr aPv aPt aPs aPB bDb aPq aWB aWB aDZ aPA aPu aPw aPx aPy aPz op
theorem aKe (op : BinOp) (k : IntKind) (a b : Int) : aKf op k a b = qD op k a b := by
 cases op <;> first | rfl | (show iO k (aVd a b) = iO k (a + b); rw [aGR])
def aPh (op : BinOp) (x y : DV) : Option DV :=
 match x, y with
 | .int k a, .int k' b => bif mW op then mP op k a b else bif kEq k k' then aKf op k a b else none
 | .str s, .str t => qC op s t
 | _, _ => none
theorem aWl (op : BinOp) (x y : DV) : aPh op x y = aAc op x y := by
 cases x <;> cases y <;> first | rfl | (simp only [aPh, aAc, aUX, aKe])
def bQG  (ρ : Tr DV) (rd : Rd) : Option dT := none
def bQk (k : Prm) (x : aU) (y : aU) (ρ : Tr DV) (rd : Rd) : Option dT := match ev ρ x, ev ρ y with
   | .str s, .int .u8 (.ofNat c) => bif Nat.blt c 256 then (match k with
     | .idx => aGW (aJK c s) λ n => some (.val (.int .i64 n))
     | .cnt => cR (aMn c s) λ n => some (.val (.int .i64 (.ofNat n)))) else none
   | _, _ => none
def bQs (kt : nW) (z : DV) (ok : Bool) (x : aU) (k : aU) (ρ : Tr DV) (rd : Rd) : Option dT := (match ev ρ x with
   | .nilm => some none
   | .mp b => match rd b with
     | some (.map es _) => rH kt (ev ρ k) es
     | _ => none
   | _ => none).map λ r => match r with
     | some v => .val (bif ok then .tup [v, .bool true] else v)
     | none => .val (bif ok then .tup [z, .bool false] else z)
def bQg (es : Nat) (x : aU) (lo : Option aU) (hi : aU) (mx : aU) (ρ : Tr DV) (rd : Rd) : Option dT := match ev ρ mx with
   | .int _ (.ofNat k) => (match ev ρ x with
     | .nils => bif Nat.beq k 0 then vl (dC 0 0 (lo.map (ev ρ)) (some (ev ρ hi)) λ l h => some .nils) else none
     | .slc b o len cap op => bif Nat.ble k cap then vl (dC len k (lo.map (ev ρ)) (some (ev ρ hi)) λ l h =>
         bif Nat.blt l k then (cR (o + l * es) λ o => cR (h - l) λ n => cR (k - l) λ c => some (.slc b o n c false)) else some (.slc b o 0 0 false)) else none
     | _ => none)
   | _ => none
def e_mv (x : aU) (ρ : Tr DV) (rd : Rd) : Option dT := some (.val (ev ρ x))
def bHM (c : aU) (a : aU) (b : aU) (ρ : Tr DV) (rd : Rd) : Option dT := match ev ρ c with
   | .bool t => some (.val (bif t then ev ρ a else ev ρ b))
   | _ => none
def bQF (op : BinOp) (x : aU) (y : aU) (ρ : Tr DV) (rd : Rd) : Option dT := vl (aPh op (ev ρ x) (ev ρ y))
def bQA (t : EqT) (neg : Bool) (x : aU) (y : aU) (ρ : Tr DV) (rd : Rd) : Option dT := vl ((dEq rd t (ev ρ x) (ev ρ y)).bind λ b => eH (bif neg then !b else b))
def bQB (neg : Bool) (s : EqS) (x : aU) (y : aU) (ρ : Tr DV) (rd : Rd) : Option dT := match ev ρ x, ev ρ y with
   | .agg xs, .agg ys => vl ((jZ rd s xs ys).bind λ b => eH (bif neg then !b else b))
   | _, _ => none
def bQm (x : aU) (ρ : Tr DV) (rd : Rd) : Option dT := match ev ρ x with
   | .bool b => vl (eH (!b))
   | _ => none
def bQn (x : aU) (ρ : Tr DV) (rd : Rd) : Option dT := match ev ρ x with
   | .int k n => vl (iO k (0 - n))
   | _ => none
def bHR (k : IntKind) (x : aU) (ρ : Tr DV) (rd : Rd) : Option dT := match ev ρ x with
   | .int _ n => vl (iO k n)
   | _ => none
def bHL (x : aU) (ρ : Tr DV) (rd : Rd) : Option dT := match ev ρ x with
   | .str s => some (.val (.str s))
   | _ => none
def bQH (x : aU) (ρ : Tr DV) (rd : Rd) : Option dT := match ev ρ x with
   | .nils => some (.val (.str []))
   | .slE _ _ _ => some (.val (.str []))
   | .slc b o len _ _ => vl (((rdCells rd b o len).bind jG).bind tU)
   | _ => none
def bQq (t : Nat) (x : aU) (ρ : Tr DV) (rd : Rd) : Option dT := some (.val (.ifc t (ev ρ x)))
def bQr (f : Fn) (a : List aU) (c : List aU) (ρ : Tr DV) (rd : Rd) : Option dT := some (.val (.fn f (a.map (ev ρ)) (c.map (ev ρ))))
def e_ld (x : aU) (ρ : Tr DV) (rd : Rd) : Option dT := match ev ρ x with
   | .ptr b o => vl (rdCell rd b o)
   | _ => none
def bQt (n : Nat) (x : aU) (ρ : Tr DV) (rd : Rd) : Option dT := match ev ρ x with
   | .ptr b o => vl ((rdCells rd b o n).map .agg)
   | _ => none
def aVU (x : aU) (ρ : Tr DV) (rd : Rd) : Option dT := match ev ρ x with
   | .ptr b o => some (.val (.ptr b o))
   | _ => none
def e_fa (off : Nat) (x : aU) (ρ : Tr DV) (rd : Rd) : Option dT := match ev ρ x with
   | .ptr b o => some (cR (o + off) λ o => .val (.ptr b o))
   | _ => none
def bQy (off : Nat) (n : Nat) (agg : Bool) (x : aU) (ρ : Tr DV) (rd : Rd) : Option dT := match ev ρ x with
   | .agg cs => bif agg then (bif Nat.ble (off + n) cs.length then some (.val (.agg ((cs.drop off).take n))) else none) else vl cs[off]?
   | _ => none
def bQx (len : Nat) (es : Nat) (x : aU) (i : aU) (ρ : Tr DV) (rd : Rd) : Option dT := match ev ρ x with
   | .ptr b o => vl (nR len (ev ρ i) λ n => cR (o + n * es) λ o => some (.ptr b o))
   | _ => none
def bQw (es : Nat) (x : aU) (i : aU) (ρ : Tr DV) (rd : Rd) : Option dT := match ev ρ x with
   | .slc b o len _ _ => vl (nR len (ev ρ i) λ n => cR (o + n * es) λ o => some (.ptr b o))
   | _ => none
def bQv (len : Nat) (es : Nat) (agg : Bool) (x : aU) (i : aU) (ρ : Tr DV) (rd : Rd) : Option dT := match ev ρ x with
   | .agg cs => vl (nR len (ev ρ i) λ n => bif agg then (bif Nat.ble (n * es + es) cs.length then some (.agg ((cs.drop (n * es)).take es)) else none) else cs[n * es]?)
   | _ => none
def bQu (x : aU) (i : aU) (ρ : Tr DV) (rd : Rd) : Option dT := match ev ρ x with
   | .str s => vl (nR s.length (ev ρ i) λ n => (s[n]?).map λ b => .int .u8 (.ofNat b))
   | _ => none
def bQf (x : aU) (lo : Option aU) (hi : Option aU) (ρ : Tr DV) (rd : Rd) : Option dT := match ev ρ x with
   | .str s => vl (dC s.length s.length (lo.map (ev ρ)) (hi.map (ev ρ)) λ l h => tU ((s.take h).drop l))
   | _ => none
def bQh (es : Nat) (x : aU) (lo : Option aU) (hi : Option aU) (ρ : Tr DV) (rd : Rd) : Option dT := match ev ρ x with
   | .nils => vl (dC 0 0 (lo.map (ev ρ)) (hi.map (ev ρ)) λ l h => some .nils)
   | .slc b o len cap op => vl (dC len cap (lo.map (ev ρ)) (hi.map (ev ρ)) λ l h =>
       bif Nat.blt l cap then (cR (o + l * es) λ o => cR (h - l) λ n => cR (cap - l) λ c => some (.slc b o n c op))
       else bif op then (cR (o + l * es) λ o2 => some (.slE b o o2)) else some (.slc b o 0 0 false))
   | .slE b o o2 => vl (dC 0 0 (lo.map (ev ρ)) (hi.map (ev ρ)) λ l h => some (.slE b o o2))
   | _ => none
def bQi (n : Nat) (es : Nat) (x : aU) (lo : Option aU) (hi : Option aU) (ρ : Tr DV) (rd : Rd) : Option dT := match ev ρ x with
   | .ptr b o => vl (dC n n (lo.map (ev ρ)) (hi.map (ev ρ)) λ l h =>
       bif Nat.blt l n then (cR (o + l * es) λ o => cR (h - l) λ m => cR (n - l) λ c => some (.slc b o m c false))
       else some (.slc b o 0 0 false))
   | _ => none
def bQz (i : Nat) (x : aU) (ρ : Tr DV) (rd : Rd) : Option dT := match ev ρ x with
   | .tup vs => vl vs[i]?
   | _ => none
def bHN (x : aU) (ρ : Tr DV) (rd : Rd) : Option dT := match ev ρ x with
   | .str s => cR s.length λ n => some (.val (.int .i64 (.ofNat n)))
   | _ => none
def bHP (x : aU) (ρ : Tr DV) (rd : Rd) : Option dT := match ev ρ x with
   | .nils => some (.val (.int .i64 0))
   | .slc _ _ n _ _ => some (.val (.int .i64 (.ofNat n)))
   | .slE _ _ _ => some (.val (.int .i64 0))
   | _ => none
def bHO (x : aU) (ρ : Tr DV) (rd : Rd) : Option dT := match ev ρ x with
   | .nilm => some (.val (.int .i64 0))
   | .mp b => match rd b with
     | some (.map es _) => cR es.length λ n => some (.val (.int .i64 (.ofNat n)))
     | _ => none
   | _ => none
def bHS (x : aU) (ρ : Tr DV) (rd : Rd) : Option dT := vl (aFI (ev ρ x))
def bQl (x : aU) (y : aU) (ρ : Tr DV) (rd : Rd) : Option dT := vl (aHe rd (ev ρ x) (ev ρ y))
def bHQ (n : Nat) (ρ : Tr DV) (rd : Rd) : Option dT := some (.val (.int .i64 (.ofNat n)))
def e_mn (a : aU) (b : aU) (ρ : Tr DV) (rd : Rd) : Option dT := match ev ρ a, ev ρ b with
   | .int k x, .int k' y => some (.val (.int k (bif iLt y x then y else x)))
   | _, _ => none
def e_mx (a : aU) (b : aU) (ρ : Tr DV) (rd : Rd) : Option dT := match ev ρ a, ev ρ b with
   | .int k x, .int k' y => some (.val (.int k (bif iLt x y then y else x)))
   | _, _ => none
def bQE (zero : List DV) (parts : List (Nat × Nat × aU)) (ρ : Tr DV) (rd : Rd) : Option dT := vl ((fG zero (parts.map λ p => (p.1, p.2.1, ev ρ p.2.2))).map .agg)
def bQe (t : Nat) (zero : DV) (ok : Bool) (x : aU) (ρ : Tr DV) (rd : Rd) : Option dT := match ev ρ x with
   | .nili => bif ok then some (.val (.tup [zero, .bool false])) else none
   | .ifc u v => bif Nat.beq u t then some (.val (bif ok then .tup [v, .bool true] else v)) else bif ok then some (.val (.tup [zero, .bool false])) else none
   | _ => none
def bQI (n : Nat) (es : Nat) (z : Zs) (ρ : Tr DV) (rd : Rd) : Option dT := some (.new (.blk ⟨n, es, false, true, z.tr⟩) λ k => .ptr k 0)
def bQD (x : aU) (ρ : Tr DV) (rd : Rd) : Option dT := cR (ev ρ x).cells.length λ n => some (.new (.blk ⟨n, n, false, true, Tr.ofL (ev ρ x).cells⟩) λ k => .ptr k 0)
def bQC (n : Nat) (es : Nat) (zero : List DV) (parts : List (Nat × Nat × aU)) (ρ : Tr DV) (rd : Rd) : Option dT := (fG (iI zero n) (parts.map λ p => (p.1, p.2.1, ev ρ p.2.2))).map λ cs =>
     .new (.blk ⟨n * es, es, false, true, Tr.ofL cs⟩) λ k => .slc k 0 n n false
def bQo (es : Nat) (bytes : Nat) (zero : DV) (l : aU) (c : aU) (ρ : Tr DV) (rd : Rd) : Option dT := match ev ρ l, ev ρ c with
   | .int _ (.ofNat l), .int _ (.ofNat c) =>
     bif Nat.ble l c && Nat.blt (bytes * c) 140737488355328 && Nat.blt c 140737488355328 then
       some (.new (.blk ⟨c, 1, false, true, Tr.full zero 48⟩) λ k => .slc k 0 l c false)
     else none
   | _, _ => none
def bQp  (ρ : Tr DV) (rd : Rd) : Option dT := some (.new (.map [] 0) λ k => .mp k)
def bQj (x : aU) (ρ : Tr DV) (rd : Rd) : Option dT := match ev ρ x with
   | .str s => cR s.length λ n => some (.new (.blk ⟨n, 1, false, false, Tr.ofL (s.map λ b => .int .u8 (.ofNat b))⟩) λ k => .slc k 0 n n true)
   | _ => none
def edoF (d : vN) : Tr DV -> Rd -> Option dT :=
 vN.rec (motive := λ _ => Tr DV -> Rd -> Option dT) bQG bQk bQs bQg e_mv bHM bQF bQA bQB bQm bQn bHR bHL bQH bQq bQr e_ld bQt aVU e_fa bQy bQx bQw bQv bQu bQf bQh bQi bQz bHN bHP bHO bHS bQl bHQ e_mn e_mx bQE bQe bQI bQD bQC bQo bQp bQj d
theorem oA (d : vN) (ρ : Tr DV) (rd : Rd) : edoF d ρ rd = cG d ρ rd := by cases d <;> first | rfl | (simp only [cG]; show vl (aPh _ (ev ρ _) (ev ρ _)) = _; rw [aWl])
end Go.DI
namespace Go.DI
open Go.RowKit
def uF (P : Program) (t : TypeId) (p : TypeDesc -> Bool) : Bool := match P.underlying t with
 | some d => p d
 | none => false
def jS : Option Operand -> Option aU -> Bool
 | none, none => true
 | some x, some y => aD x y
 | _, _ => false
def wD (P : Program) (t : TypeId) (f : Nat) : Option Field := match P.underlying t with
 | some (.struct fs) => fs[f]?
 | _ => none
def aHa (P : Program) (es : Nat) : TypeDesc -> Bool
 | .slice e => gW P e es
 | _ => false
def aKy (P : Program) (n es : Nat) : TypeDesc -> Bool
 | .array m e => decide (m = n) && gW P e es
 | _ => false
def aCo (P : Program) (t : TypeId) : Bool := match P.underlying t with
 | some (.slice e) => uF P e (λ d => match d with | .int .u8 => true | _ => false)
 | _ => false
def mM : Operand -> Bool
 | .const _ => true
 | _ => false
def aFN (P : Program) (t : TypeId) (e : EqT) (x y : Operand) : Bool := match e with
 | .bool => uF P t λ d => match d with | .bool => true | _ => false
 | .ptr => match P.underlying t with
   | some (.pointer el) => match P.info? el with
     | some i => i.size != 0
     | none => false
   | _ => false
 | .nilI => (mM x || mM y) && uF P t λ d => match d with | .interface _ => true | _ => false
 | .nilD => uF P t λ d => match d with | .interface _ => true | _ => false
 | .nilL => uF P t λ d => match d with | .slice _ => true | _ => false
 | .nilM => uF P t λ d => match d with | .map _ _ => true | _ => false
 | .nilF => uF P t λ d => match d with | .func _ _ _ => true | _ => false
def oE (P : Program) (k : nW) (t : TypeId) : Bool := match k with
 | .bool => uF P t λ d => match d with | .bool => true | _ => false
 | .int => uF P t λ d => match d with | .int _ => true | _ => false
 | .str => uF P t λ d => match d with | .string => true | _ => false
 | .ptr => match P.underlying t with
   | some (.pointer el) => match P.info? el with
     | some i => i.size != 0
     | none => false
   | _ => false
def uQ (P : Program) (t : TypeId) : Option (Array Field) := match P.underlying t with
 | some (.struct fs) => bif P.stoodInHeld t then none else some fs
 | _ => none
def aHm (P : Program) : EqS -> List Field -> Bool
 | .nil, [] => true
 | .leaf k off tl, f :: fs => f.name != "_" && Nat.beq f.offset off && oE P k f.type && nG P f.type false && aHm P tl fs
 | .sub off n hd tl, f :: fs => f.name != "_" && Nat.beq f.offset off && nG P f.type true && gW P f.type n && (match uQ P f.type with
   | some gs => aHm P hd gs.toList
   | none => false) && aHm P tl fs
 | .arr k off n tl, f :: fs => f.name != "_" && Nat.beq f.offset off && nG P f.type true && gW P f.type n && (match P.underlying f.type with
   | some (.array len e) => Nat.beq len n && oE P k e && nG P e false && gW P e 1
   | _ => false) && aHm P tl fs
 | _, _ => false
def EqS.dep : EqS -> Nat
 | .nil => 0
 | .leaf _ _ tl => Nat.max 1 tl.dep
 | .sub _ _ hd tl => Nat.max (1 + hd.dep) tl.dep
 | .arr _ _ _ tl => Nat.max 2 tl.dep
def aDS (P : Program) (t : TypeId) (s : EqS) : Bool := !P.eqGuardType P.depth t && Nat.ble s.dep 9000 && match uQ P t with
 | some fs => aHm P s fs.toList
 | none => false
def lT (P : Program) (place : Nat -> Option (Nat × Nat)) : List (Nat × Operand) -> List (Nat × Nat × aU) -> Bool
 | [], [] => true
 | (i, x) :: ps, (off, n, y) :: qs => (match place i with | some (o, s) => Nat.beq o off && Nat.beq s n | none => false) && aD x y && lT P place ps qs
 | _, _ => false
def kH (P : Program) (t : TypeId) (zs : List DV) : Bool := match P.info? t with
 | some i => match i.zero with
   | some z => oF (aHl 3) z.cells.toList zs
   | none => false
 | none => false
def iP (P : Program) (fs : Array Field) (i : Nat) : Option (Nat × Nat) := match fs[i]? with
 | some f => match P.info? f.type with
   | some ti => some (f.offset, ti.size)
   | none => none
 | none => none
section
variable {P : Program} {N0 : Nat} {w0 : World} {m : Mp} {h : H} {w : World} {ρ : Tr DV} {ρ' : Operand -> Value}
def nJ (P : Program) (ρ' : Operand -> Value) (o : Oper) (m : Mp) (w : World) : dT -> Prop
 | .val v => ∃ v', (execOp ρ' o).run P w = .ok (.value v') w /\ tr m v = some v'
 | .new ob mk => ∀ k, m k = none -> ∃ v' w1 robj ex, (execOp ρ' o).run P w = .ok (.value v') (w1.alloc robj) /\ (w1 = w \/ w1 = w.drew) /\
     qO (m.ins k ⟨w.heap.size, ex, 0⟩) ⟨w.heap.size, ex, 0⟩ ob (w1.alloc robj) /\ tr (m.ins k ⟨w.heap.size, ex, 0⟩) (mk k) = some v'
theorem dA {v : Option DV} {r : dT} (h : vl v = some r) : ∃ x, v = some x /\ r = .val x := by
 cases v with
 | none => cases h
 | some x => cases h; exact ⟨x, rfl, rfl⟩
theorem aLO {m : Mp} {xs : Array Operand} (hρ : bQ m xs ρ ρ') {lo : Option Operand} {lo' : Option aU} (hm : ∀ x, lo = some x -> x ∈ xs) (hc : jS lo lo' = true) :
   (lo = none /\ lo' = none) \/ ∃ x y, lo = some x /\ lo' = some y /\ tr m (ev ρ y) = some (ρ' x) := by
 cases lo <;> cases lo' <;> simp only [jS] at hc
 · exact .inl ⟨rfl, rfl⟩
 · cases hc
 · cases hc
 · exact .inr ⟨_, _, rfl, rfl, hρ _ (hm _ rfl) _ hc⟩
theorem wG {len : Nat} {i : DV} {k : Nat -> Option DV} {v : DV} {i' : Value} (h : nR len i k = some v) (hi : tr m i = some i') :
   ∃ kd n, i' = .int kd (.ofNat n) /\ n < len /\ k n = some v := by
 unfold nR at h; split at h
 · rename_i kd n; obtain ⟨h1, h2⟩ := aI h; rw [Nat.blt_eq] at h1; exact ⟨kd, n, fN hi, h1, h2⟩
 · cases h
theorem lW {len cap cap' : Nat} {lo hi : Option DV} {k : Nat -> Nat -> Option DV} {v : DV} {lo' hi' : Option Value} {isSlice : Bool} (hcap : cap <= cap')
   (hb : dC len cap lo hi k = some v)
   (hlo : (lo = none /\ lo' = none) \/ ∃ x y, lo = some x /\ lo' = some y /\ tr m x = some y)
   (hhi : (hi = none /\ hi' = none) \/ ∃ x y, hi = some x /\ hi' = some y /\ tr m x = some y) :
   ∃ l h, l <= h /\ h <= cap /\ k l h = some v /\ (Instr.sliceBounds isSlice len cap' lo' hi' none).run P w = .ok (l, h, cap') w := by
 unfold dC at hb; have key : ∀ h : Nat, (bif Nat.ble h cap then (dLo lo λ l => bif Nat.ble l h then k l h else none) else none) = some v ->
     h <= cap /\ ∃ l, l <= h /\ k l h = some v /\ ((lo' = none /\ l = 0) \/ ∃ kd, lo' = some (.int kd (.ofNat l))) := by
   intro h hh; obtain ⟨h1, h2⟩ := aI hh; refine ⟨Nat.le_of_ble_eq_true h1, ?_⟩; rcases hlo with ⟨rfl, rfl⟩ | ⟨x, y, rfl, rfl, hxy⟩
   · simp only [dLo] at h2; obtain ⟨h3, h4⟩ := aI h2; exact ⟨0, Nat.zero_le _, h4, .inl ⟨rfl, rfl⟩⟩
   · unfold dLo at h2; split at h2
     · rename_i heq; cases heq
     · rename_i kd n heq; cases heq; obtain ⟨h3, h4⟩ := aI h2; exact ⟨n, Nat.le_of_ble_eq_true h3, h4, .inr ⟨kd, by rw [fN hxy]⟩⟩
     · cases h2
 have fin : ∀ h l : Nat, h <= cap -> l <= h -> ((hi' = none /\ h = len) \/ ∃ kd, hi' = some (.int kd (.ofNat h))) -> ((lo' = none /\ l = 0) \/ ∃ kd, lo' = some (.int kd (.ofNat l))) ->
     (Instr.sliceBounds isSlice len cap' lo' hi' none).run P w = .ok (l, h, cap') w := by
   intro h l h1 h2 h3 h4; have hbd : ∀ (kd : IntKind) (a y : Nat) (c : BoundsCode), a <= y -> (Instr.sliceBound (.int kd (Int.ofNat a)) y c).run P w = .ok a w := by
     intro kd a y c ha; unfold Instr.sliceBound; simp only [asIntOf, Sem.run_bind, Sem.run_pure, Result.andThen_ok]; rw [if_pos ⟨Int.natCast_nonneg a, by simpa using ha⟩]
     simp
   unfold Instr.sliceBounds; rcases h3 with ⟨rfl, rfl⟩ | ⟨kd, rfl⟩ <;> rcases h4 with ⟨rfl, rfl⟩ | ⟨kd', rfl⟩
   · simp
   · simp only [Sem.run_bind, Sem.run_pure, Result.andThen_ok]; rw [hbd _ _ _ _ h2]; simp
   · simp only [Sem.run_bind, Sem.run_pure, Result.andThen_ok]; rw [hbd _ _ _ _ (by omega)]; simp
   · simp only [Sem.run_bind, Sem.run_pure, Result.andThen_ok]; rw [hbd _ _ _ _ (by omega)]; simp only [Result.andThen_ok]
     rw [hbd _ _ _ _ h2]; simp
 unfold dHi at hb; rcases hhi with ⟨rfl, rfl⟩ | ⟨x, y, rfl, rfl, hxy⟩
 · simp only [] at hb; obtain ⟨h1, l, h2, h3, h4⟩ := key len hb; exact ⟨l, len, h2, h1, h3, fin len l h1 h2 (.inl ⟨rfl, rfl⟩) h4⟩
 · split at hb
   · rename_i heq; cases heq
   · rename_i kd n heq; cases heq; obtain ⟨h1, l, h2, h3, h4⟩ := key n hb; exact ⟨l, n, h2, h1, h3, fin n l h1 h2 (.inr ⟨kd, by rw [fN hxy]⟩) h4⟩
   · cases hb
end
end Go.DI
namespace Go.DI
open Go.RowKit
section
variable {P : Program} {N0 : Nat} {w0 : World} {m : Mp} {h : H} {w : World} {ρ : Tr DV} {ρ' : Operand -> Value} {o : Oper} {r : dT}
theorem bMa {x : Operand} {y : aU} (ho : o.op = .move x) (hρ : bQ m o.op.operands ρ ρ') (hx : aD x y = true) (he : cG (.mv y) ρ h.get = some r) : nJ P ρ' o m w r := by
 cases he; exact ⟨_, by unfold execOp; rw [ho]; rfl, hρ x (by simp [ho, Op.operands]) y hx⟩
theorem aZJ {x : Operand} {y : aU} (ho : o.op = .assign x) (hρ : bQ m o.op.operands ρ ρ') (hx : aD x y = true) (he : cG (.mv y) ρ h.get = some r) : nJ P ρ' o m w r := by
 cases he; exact ⟨_, by unfold execOp; rw [ho]; rfl, hρ x (by simp [ho, Op.operands]) y hx⟩
theorem bLZ {c a b : Operand} {c' a' b' : aU} (ho : o.op = .pick c a b) (hρ : bQ m o.op.operands ρ ρ') (hc : aD c c' = true) (ha : aD a a' = true) (hb : aD b b' = true)
   (he : cG (.pick c' a' b') ρ h.get = some r) : nJ P ρ' o m w r := by
 have h1 := hρ c (by simp [ho, Op.operands]) c' hc
 have h2 := hρ a (by simp [ho, Op.operands]) a' ha
 have h3 := hρ b (by simp [ho, Op.operands]) b' hb
 simp only [cG] at he; split at he
 · rename_i t ht; rw [ht] at h1; cases he; have e1 := iJ h1; cases t
   · exact ⟨_, by unfold execOp; rw [ho]; simp [e1, asBool], h3⟩
   · exact ⟨_, by unfold execOp; rw [ho]; simp [e1, asBool], h2⟩
 · cases he
theorem bVG {op : BinOp} {t t' : TypeId} {x y : Operand} {x' y' : aU} (ho : o.op = .binOp op t x y t') (hρ : bQ m o.op.operands ρ ρ') (hx : aD x x' = true) (hy : aD y y' = true)
   (he : cG (.bin op x' y') ρ h.get = some r) : nJ P ρ' o m w r := by
 have h1 := hρ x (by simp [ho, Op.operands]) x' hx
 have h2 := hρ y (by simp [ho, Op.operands]) y' hy
 simp only [cG] at he; obtain ⟨v, hv, rfl⟩ := dA he; unfold aAc at hv; have hex : execOp ρ' o = (do let v <- (do eqGuard op t x y (ρ' x) (ρ' y); binOp op t (ρ' x) (ρ' y)); pure (.value v)) := by unfold execOp; rw [ho]
 split at hv
 · rename_i k a k' b e1 e2; rw [e1] at h1; rw [e2] at h2; have i1 := fN h1; have i2 := fN h2; by_cases hs : mW op = true
   · rw [hs] at hv; obtain ⟨v', hr, ht⟩ := aMx (P := P) (w := w) (t := t) (k' := k') hv m; refine ⟨v', ?_, ht⟩; rw [hex, i1, i2]; simp only [Sem.run_bind, aBF, Result.andThen_ok, hr, Sem.run_pure]
   · have hs : mW op = false := by simpa using hs
     rw [hs] at hv; obtain ⟨hk, hv2⟩ := aI (b := decide (k = k')) hv; have hk := of_decide_eq_true hk; subst hk; obtain ⟨v', hr, ht⟩ := aKd (P := P) (w := w) (t := t) hs hv2 m; refine ⟨v', ?_, ht⟩; rw [hex, i1, i2]; simp only [Sem.run_bind, aBF, Result.andThen_ok, hr, Sem.run_pure]
 · rename_i s t' e1 e2; rw [e1] at h1; rw [e2] at h2; obtain ⟨o1, i1⟩ := jI h1; obtain ⟨o2, i2⟩ := jI h2; obtain ⟨v', hr, ht⟩ := aKc (P := P) (w := w) (t := t) o1 o2 hv m; refine ⟨v', ?_, ht⟩; rw [hex, i1, i2]; simp only [Sem.run_bind, aJL, Result.andThen_ok, hr, Sem.run_pure]
 · cases hv
theorem bVn {t : TypeId} {x : Operand} {x' : aU} (ho : o.op = .unOp .not t x) (hρ : bQ m o.op.operands ρ ρ') (hx : aD x x' = true)
   (he : cG (.not x') ρ h.get = some r) : nJ P ρ' o m w r := by
 have h1 := hρ x (by simp [ho, Op.operands]) x' hx
 simp only [cG] at he; split at he
 · rename_i b e1; rw [e1] at h1; obtain ⟨v, hv, rfl⟩ := dA he; rw [fR] at hv; cases hv; exact ⟨_, by unfold execOp; rw [ho]; simp [iJ h1, Op.unary], rfl⟩
 · cases he
theorem bVp {t : TypeId} {x : Operand} {x' : aU} (ho : o.op = .unOp .neg t x) (hρ : bQ m o.op.operands ρ ρ') (hx : aD x x' = true)
   (he : cG (.neg x') ρ h.get = some r) : nJ P ρ' o m w r := by
 have h1 := hρ x (by simp [ho, Op.operands]) x' hx
 simp only [cG] at he; split at he
 · rename_i k n e1; rw [e1] at h1; obtain ⟨v, hv, rfl⟩ := dA he; rw [gP] at hv; cases hv; exact ⟨_, by unfold execOp; rw [ho]; simp [fN h1, Op.unary, Op.intArith], rfl⟩
 · cases he
def bBs (k : IntKind) : Int := if k.signed then -1 else k.max
theorem bVD {t : TypeId} {x : Operand} {x' : aU} {k : IntKind} {a : Int} (ho : o.op = .unOp .xor t x) (ha : a = bBs k) (hρ : bQ m o.op.operands ρ ρ') (hx : aD x x' = true)
   (he : cG (.bin .xor (.c (.int k a)) x') ρ h.get = some r) : nJ P ρ' o m w r := by
 have h1 := hρ x (by simp [ho, Op.operands]) x' hx
 simp only [cG] at he; obtain ⟨v, hv, rfl⟩ := dA he
 replace hv : aAc .xor (.int k a) (ev ρ x') = some v := hv
 unfold aAc at hv; split at hv
 · rename_i k1 a1 k' n e0 e1; cases e0; rw [e1] at h1; simp only [mW, cond_false] at hv; obtain ⟨hk, hv⟩ := aI hv; have hk := of_decide_eq_true hk; subst hk; simp only [qD] at hv; rw [gP] at hv; cases hv; subst ha; exact ⟨_, by unfold execOp; rw [ho]; simp [fN h1, Op.unary, Op.intBits, nV, bBs], rfl⟩
 · rename_i e0 e1; cases e0
 · cases hv
theorem bMg {s t : TypeId} {k : IntKind} {x : Operand} {x' : aU} (ho : o.op = .convert s t x) (hs : uF P s (λ _ => true) = true) (ht : P.underlying t = some (.int k)) (hρ : bQ m o.op.operands ρ ρ') (hx : aD x x' = true)
   (he : cG (.conv k x') ρ h.get = some r) : nJ P ρ' o m w r := by
 have h1 := hρ x (by simp [ho, Op.operands]) x' hx
 simp only [cG] at he; split at he
 · rename_i k n e1; rw [e1] at h1; obtain ⟨v, hv, rfl⟩ := dA he; rw [gP] at hv; cases hv; unfold uF at hs; cases hsd : P.underlying s with
   | none => rw [hsd] at hs; cases hs
   | some ds =>
     exact ⟨_, by unfold execOp; rw [ho]; simp [fN h1, convert, run_underlying hsd, run_underlying ht, Conv.intToInt], rfl⟩
 · cases he
theorem bLY {s t : TypeId} {x : Operand} {x' : aU} (ho : o.op = .convert s t x) (hs : P.underlying s = some .string) (ht : P.underlying t = some .string) (hρ : bQ m o.op.operands ρ ρ') (hx : aD x x' = true)
   (he : cG (.same x') ρ h.get = some r) : nJ P ρ' o m w r := by
 have h1 := hρ x (by simp [ho, Op.operands]) x' hx
 simp only [cG] at he; split at he
 · rename_i s1 e1; rw [e1] at h1; cases he; obtain ⟨o1, i1⟩ := jI h1; exact ⟨_, by unfold execOp; rw [ho]; simp [i1, convert, run_underlying hs, run_underlying ht], qX o1⟩
 · cases he
theorem bVs {t : TypeId} {x : Operand} {x' : aU} (ho : o.op = .makeInterface t x) (ht : uF P t (λ d => match d with | .interface _ => false | _ => true) = true) (hρ : bQ m o.op.operands ρ ρ') (hx : aD x x' = true)
   (he : cG (.mkI t x') ρ h.get = some r) : nJ P ρ' o m w r := by
 have h1 := hρ x (by simp [ho, Op.operands]) x' hx
 simp only [cG] at he; cases he; unfold uF at ht; cases hd : P.underlying t with
 | none => rw [hd] at ht; cases ht
 | some d =>
   rw [hd] at ht; refine ⟨.iface t (ρ' x), ?_, by simp only [tr, h1]⟩
   unfold execOp; rw [ho]; cases d <;> simp_all [Instr.makeInterface, run_underlying hd]
theorem tH {m : Mp} {ys : Array Operand} (hρ : bQ m ys ρ ρ') : ∀ {xs : List Operand} {xs' : List aU}, (∀ x ∈ xs, x ∈ ys) -> oF aD xs xs' = true -> trs m (xs'.map (ev ρ)) = some (xs.map ρ')
 | [], [], _, _ => rfl
 | x :: xs, x' :: xs', hm, k => by
   simp only [oF, Bool.and_eq_true] at k; exact dB.2 ⟨_, _, hρ x (hm x (by simp)) x' k.1, tH hρ (λ z hz => hm z (by simp [hz])) k.2, rfl⟩
 | [], _ :: _, _, k => by cases k
 | _ :: _, [], _, k => by cases k
theorem bVt {f : Fn} {a c : Array Operand} {a' c' : List aU} (ho : o.op = .makeFunc f a c) (hρ : bQ m o.op.operands ρ ρ') (ha : oF aD a.toList a' = true) (hc : oF aD c.toList c' = true)
   (he : cG (.mkF f a' c') ρ h.get = some r) : nJ P ρ' o m w r := by
 have h1 := tH hρ (λ x hx => by simp [ho, Op.operands]; exact .inl (by simpa using hx)) ha
 have h2 := tH hρ (λ x hx => by simp [ho, Op.operands]; exact .inr (by simpa using hx)) hc
 simp only [cG] at he; cases he; refine ⟨.func f (a.map ρ') (c.map ρ'), by unfold execOp; rw [ho]; simp [Instr.makeFunc], ?_⟩
 simp only [tr, h1, h2]; simp only [Option.some.injEq, Value.func.injEq, true_and]; exact ⟨Array.ext' (by simp), Array.ext' (by simp)⟩
theorem fP {b o' : Nat} {v : Value} (h : tr m (.ptr b o') = some v) : ∃ i, m b = some i /\ v = .pointer (some ⟨i.r, i.sh + o', none⟩) := by
 simp only [tr] at h; cases e : m b with
 | none => rw [e] at h; cases h
 | some i => rw [e] at h; cases h; exact ⟨i, rfl, rfl⟩
theorem E_ld {t : TypeId} {x : Operand} {x' : aU} (ho : o.op = .load t x) (ht : nG P t false = true) (hw : bH N0 w0 m h w) (hρ : bQ m o.op.operands ρ ρ') (hx : aD x x' = true)
   (he : cG (.ld x') ρ h.get = some r) : nJ P ρ' o m w r := by
 have h1 := hρ x (by simp [ho, Op.operands]) x' hx
 simp only [cG] at he; split at he
 · rename_i b off e1; rw [e1] at h1; obtain ⟨i, hi, e2⟩ := fP h1; obtain ⟨v, hv, rfl⟩ := dA he; obtain ⟨v', hc, ht'⟩ := hw.rdCell hi hv; refine ⟨v', ?_, ht'⟩; unfold execOp; rw [ho]; simp [e2, Instr.loadAt, Instr.sureAddr, loadVar, dL ht, hc]
 · cases he
theorem bVv {t : TypeId} {n : Nat} {x : Operand} {x' : aU} (ho : o.op = .load t x) (ht : nG P t true = true) (hn : gW P t n = true) (hw : bH N0 w0 m h w) (hρ : bQ m o.op.operands ρ ρ') (hx : aD x x' = true)
   (he : cG (.ldN n x') ρ h.get = some r) : nJ P ρ' o m w r := by
 have h1 := hρ x (by simp [ho, Op.operands]) x' hx
 simp only [cG] at he; split at he
 · rename_i b off e1; rw [e1] at h1; obtain ⟨i, hi, e2⟩ := fP h1; obtain ⟨v, hv, rfl⟩ := dA he; cases hvs : rdCells h.get b off n with
   | none => rw [hvs] at hv; cases hv
   | some vs =>
     rw [hvs] at hv; cases hv; obtain ⟨vs', ht', hl, hc⟩ := hw.rdCells hi hvs; refine ⟨.agg vs'.toArray, ?_, by simp only [tr, ht']⟩
     unfold execOp; rw [ho]; simp [e2, Instr.loadAt, Instr.sureAddr, loadVar, dL ht, cE hn, eT hl hc]
 · cases he
theorem aZI {x : Operand} {x' : aU} (ho : o.op = .nilCheck x) (hρ : bQ m o.op.operands ρ ρ') (hx : aD x x' = true)
   (he : cG (.nilchk x') ρ h.get = some r) : nJ P ρ' o m w r := by
 have h1 := hρ x (by simp [ho, Op.operands]) x' hx
 simp only [cG] at he; split at he
 · rename_i b off e1; rw [e1] at h1; obtain ⟨i, hi, e2⟩ := fP h1; cases he; refine ⟨_, ?_, h1⟩; unfold execOp; rw [ho]; simp [e2]
 · cases he
theorem E_fa {s : TypeId} {f off : Nat} {x : Operand} {x' : aU} {fs : Array Field} {fd : Field} {n : Nat} (ho : o.op = .fieldAddr s x f) (hs : P.underlying s = some (.struct fs)) (hf : fs[f]? = some fd) (hoff : fd.offset = off)
   (hn : gW P fd.type n = true) (hn0 : n ≠ 0) (hρ : bQ m o.op.operands ρ ρ') (hx : aD x x' = true)
   (he : cG (.fa off x') ρ h.get = some r) : nJ P ρ' o m w r := by
 have h1 := hρ x (by simp [ho, Op.operands]) x' hx
 simp only [cG] at he; split at he
 · rename_i b o1 e1; rw [e1] at h1; obtain ⟨i, hi, e2⟩ := fP h1; rw [aM] at he; cases he; refine ⟨.pointer (some ⟨i.r, i.sh + (o1 + off), none⟩), ?_, by simp only [tr, hi]⟩
   unfold execOp; rw [ho]; simp [e2, Instr.fieldAt, run_underlying hs, hf, Instr.sureAddr, fieldPlace, cE hn, hn0, iE, hoff, Nat.add_assoc]
 · cases he
theorem bVA {s : TypeId} {f off n : Nat} {agg : Bool} {x : Operand} {x' : aU} {fs : Array Field} {fd : Field} (ho : o.op = .field s x f) (hs : P.underlying s = some (.struct fs)) (hf : fs[f]? = some fd) (hoff : fd.offset = off)
   (hn : gW P fd.type n = true) (ha : nG P fd.type agg = true) (hρ : bQ m o.op.operands ρ ρ') (hx : aD x x' = true)
   (he : cG (.fld off n agg x') ρ h.get = some r) : nJ P ρ' o m w r := by
 have h1 := hρ x (by simp [ho, Op.operands]) x' hx
 simp only [cG] at he; split at he
 · rename_i cs e1; rw [e1] at h1; simp only [tr] at h1; cases hcs : trs m cs with
   | none => rw [hcs] at h1; cases h1
   | some cs' =>
     rw [hcs] at h1; simp only [Option.some.injEq] at h1; have e2 : ρ' x = .agg cs'.toArray := h1.symm; cases agg
     · simp only [cond_false] at he; obtain ⟨v, hv, rfl⟩ := dA he; obtain ⟨v', h3, h4⟩ := iU hcs off v hv; refine ⟨v', ?_, h4⟩; unfold execOp; rw [ho]; simp [e2, Instr.field, run_underlying hs, hf, part, dL ha, hoff, asAgg, h3]
     · simp only [cond_true] at he; obtain ⟨hle, he⟩ := aI he; cases he; have hle := Nat.le_of_ble_eq_true hle; refine ⟨.agg ((cs'.drop off).take n).toArray, ?_, ?_⟩
       · unfold execOp; rw [ho]; simp [e2, Instr.field, run_underlying hs, hf, part, dL ha, hoff, asAgg, cE hn]
       · simp only [tr]; rw [oQ (oR hcs off) n]
 · cases he
end
end Go.DI
namespace Go.DI
open Go.RowKit
section
variable {P : Program} {N0 : Nat} {w0 : World} {m : Mp} {h : H} {w : World} {ρ : Tr DV} {ρ' : Operand -> Value} {o : Oper} {r : dT}
theorem eR {b o' len cap : Nat} {op : Bool} {v : Value} (h : tr m (.slc b o' len cap op) = some v) : ∃ i, m b = some i /\ v = .slice (some ⟨i.r, i.sh + o', none⟩) len (if op then cap + i.ex else cap) := by
 simp only [tr] at h; cases e : m b with
 | none => rw [e] at h; cases h
 | some i => rw [e] at h; cases h; exact ⟨i, rfl, rfl⟩
theorem iY {b o' o2 : Nat} {v : Value} (h : tr m (.slE b o' o2) = some v) : ∃ i, m b = some i /\ v = .slice (some ⟨i.r, i.sh + if i.ex = 0 then o' else o2, none⟩) 0 i.ex := by
 simp only [tr] at h; cases e : m b with
 | none => rw [e] at h; cases h
 | some i => rw [e] at h; cases h; exact ⟨i, rfl, rfl⟩
theorem aKq {v : DV} {b : Nat} {v' : Value} (h : yJ v = some b) (ht : tr m v = some v') : b < 256 /\ v' = .int .u8 (b : Int) := by
 unfold yJ at h; split at h
 · rename_i n; obtain ⟨h1, h2⟩ := aI h; cases h2; rw [Nat.blt_eq] at h1; exact ⟨h1, fN ht⟩
 · cases h
theorem aAf : ∀ {vs : List DV} {bs : Ln} {vs' : List Value}, jG vs = some bs -> trs m vs = some vs' -> aP bs = true /\ vs' = bs.map λ b => Value.int .u8 ((b : Nat) : Int)
 | [], bs, vs', h, k => by simp only [jG] at h; cases h; simp only [trs] at k; cases k; exact ⟨rfl, rfl⟩
 | v :: vs, bs, vs', h, k => by
   simp only [jG] at h; obtain ⟨u, us, h1, h2, rfl⟩ := dB.1 k; split at h
   · rename_i b bs' e1 e2; cases h; obtain ⟨hb, rfl⟩ := aKq e1 h1; obtain ⟨ho, rfl⟩ := aAf e2 h2; exact ⟨by simp [aP, Nat.blt_eq, hb, ho], rfl⟩
   · cases h
theorem aDp : ∀ (bs : Ln) (acc : ByteArray), (bs.map λ b : Nat => (b : Int)).foldl (λ r n => r.push (UInt8.ofNat n.toNat)) acc = acc ++ gG bs
 | [], acc => by apply ByteArray.ext; simp [gG]
 | b :: bs, acc => by
   rw [List.map_cons, List.foldl_cons, aDp bs]; apply ByteArray.ext; simp [gG]
theorem aOn {r' off n c : Nat} {bs : Ln} (hl : bs.length = n)
   (hc : ∀ q v, (bs.map λ b => Value.int .u8 ((b : Nat) : Int))[q]? = some v -> w.cell? ⟨r', off + q, none⟩ = some v) :
   (Conv.bytesToString (.slice (some ⟨r', off, none⟩) n c)).run P w = .ok (.string (gG bs)) w := by
 have hlc := eT (P := P) (w := w) (r := r') (o := off) (n := n) (vs := bs.map λ b => Value.int .u8 ((b : Nat) : Int)) (by simpa using hl) hc
 have := Go.run_bytesToString (P := P) w ⟨r', off, none⟩ n c (bs.map λ b : Nat => (b : Int)) (by rw [hlc]; congr 2; rw [List.map_map]; rfl)
 rw [this, aDp]
 congr 2
theorem bVH {s t : TypeId} {x : Operand} {x' : aU} {e : TypeId} (ho : o.op = .convert s t x) (hs : P.underlying s = some (.slice e)) (he8 : P.underlying e = some (.int .u8)) (ht : P.underlying t = some .string) (hw : bH N0 w0 m h w) (hρ : bQ m o.op.operands ρ ρ') (hx : aD x x' = true)
   (he : cG (.b2s x') ρ h.get = some r) : nJ P ρ' o m w r := by
 have h1 := hρ x (by simp [ho, Op.operands]) x' hx
 have hex : ∀ a l c, ρ' x = .slice a l c -> (execOp ρ' o).run P w = ((Conv.bytesToString (.slice a l c)).run P w).andThen λ v w' => .ok (.value v) w' := by
   intro a l c e2; unfold execOp; rw [ho]; simp only [Sem.run_bind, e2, run_convert_bytes_string w s t e a l c hs he8 ht, Sem.run_pure]
 simp only [cG] at he; split at he
 · rename_i e1; rw [e1] at h1; simp only [tr] at h1; cases he; refine ⟨.string (gG []), ?_, rfl⟩; rw [hex _ _ _ (Option.some.inj h1).symm]; simp [Conv.bytesToString]
   rfl
 · rename_i b o1 o2 e1; rw [e1] at h1; obtain ⟨i, hi, e2⟩ := iY h1; cases he; refine ⟨.string (gG []), ?_, rfl⟩; rw [hex _ _ _ e2, aOn (n := 0) (bs := []) rfl (by simp)]
   rfl
 · rename_i b off len cap op e1; rw [e1] at h1; obtain ⟨i, hi, e2⟩ := eR h1; obtain ⟨v, hv, rfl⟩ := dA he; cases hvs : rdCells h.get b off len with
   | none => rw [hvs] at hv; cases hv
   | some vs =>
     rw [hvs] at hv; simp only [Option.bind_some] at hv; cases hbs : jG vs with
     | none => rw [hbs] at hv; cases hv
     | some bs =>
       rw [hbs] at hv; simp only [Option.bind_some] at hv; rw [fI] at hv; cases hv; obtain ⟨vs', ht', hl, hc⟩ := hw.rdCells hi hvs; obtain ⟨hok, rfl⟩ := aAf hbs ht'; refine ⟨.string (gG bs), ?_, qX hok⟩; rw [hex _ _ _ e2, aOn (by simpa using hl) hc]
       rfl
 · cases he
theorem zF {t e : TypeId} {es : Nat} {a : Addr} {len cap n : Nat} {k : IntKind} (ht : P.underlying t = some (.slice e)) (hs : gW P e es = true) (hn : n < len) :
   (Instr.indexAt t (.slice (some a) len cap) (.int k (.ofNat n))).run P w = .ok (.pointer (some (a.add (n * es)))) w := by
 unfold Instr.indexAt; simp only [asIntOf, Sem.run_bind, Sem.run_pure, Result.andThen_ok, run_underlying ht]; simp [hn, cE hs]
theorem zG {t e : TypeId} {es : Nat} {a : Addr} {len n : Nat} {k : IntKind} (ht : P.underlying t = some (.array len e)) (hs : gW P e es = true) (hn : n < len) :
   (Instr.indexAt t (.pointer (some a)) (.int k (.ofNat n))).run P w = .ok (.pointer (some (a.add (n * es)))) w := by
 unfold Instr.indexAt; simp only [asIntOf, Sem.run_bind, Sem.run_pure, Result.andThen_ok, run_underlying ht, Instr.sureAddr]; simp [hn, cE hs]
theorem bVy {t e : TypeId} {es : Nat} {x i : Operand} {x' i' : aU} (ho : o.op = .indexAddr t x i) (ht : P.underlying t = some (.slice e)) (hs : gW P e es = true) (hρ : bQ m o.op.operands ρ ρ') (hx : aD x x' = true) (hi : aD i i' = true)
   (he : cG (.iaS es x' i') ρ h.get = some r) : nJ P ρ' o m w r := by
 have h1 := hρ x (by simp [ho, Op.operands]) x' hx
 have h2 := hρ i (by simp [ho, Op.operands]) i' hi
 simp only [cG] at he; split at he
 · rename_i b off len cap op e1; rw [e1] at h1; obtain ⟨j, hj, e2⟩ := eR h1; obtain ⟨v, hv, rfl⟩ := dA he; obtain ⟨kd, n, e3, hn, hv⟩ := wG hv h2; rw [aM] at hv; cases hv; refine ⟨.pointer (some ⟨j.r, j.sh + (off + n * es), none⟩), ?_, by simp only [tr, hj]⟩
   unfold execOp; rw [ho]; simp only [Sem.run_bind, e2, e3, zF ht hs hn, Result.andThen_ok, Sem.run_pure, iE, Nat.add_assoc]
 · cases he
theorem bVz {t e : TypeId} {len es : Nat} {x i : Operand} {x' i' : aU} (ho : o.op = .indexAddr t x i) (ht : P.underlying t = some (.array len e)) (hs : gW P e es = true) (hρ : bQ m o.op.operands ρ ρ') (hx : aD x x' = true) (hi : aD i i' = true)
   (he : cG (.iaA len es x' i') ρ h.get = some r) : nJ P ρ' o m w r := by
 have h1 := hρ x (by simp [ho, Op.operands]) x' hx
 have h2 := hρ i (by simp [ho, Op.operands]) i' hi
 simp only [cG] at he; split at he
 · rename_i b off e1; rw [e1] at h1; obtain ⟨j, hj, e2⟩ := fP h1; obtain ⟨v, hv, rfl⟩ := dA he; obtain ⟨kd, n, e3, hn, hv⟩ := wG hv h2; rw [aM] at hv; cases hv; refine ⟨.pointer (some ⟨j.r, j.sh + (off + n * es), none⟩), ?_, by simp only [tr, hj]⟩
   unfold execOp; rw [ho]; simp only [Sem.run_bind, e2, e3, zG ht hs hn, Result.andThen_ok, Sem.run_pure, iE, Nat.add_assoc]
 · cases he
theorem bGy {cs : List DV} {v : Value} (h : tr m (.agg cs) = some v) : ∃ cs', trs m cs = some cs' /\ v = .agg cs'.toArray := by
 simp only [tr] at h; cases e : trs m cs with
 | none => rw [e] at h; cases h
 | some cs' => rw [e] at h; cases h; exact ⟨cs', rfl, rfl⟩
theorem bGx {cs : List DV} {v : Value} (h : tr m (.tup cs) = some v) : ∃ cs', trs m cs = some cs' /\ v = .tuple cs'.toArray := by
 simp only [tr] at h; cases e : trs m cs with
 | none => rw [e] at h; cases h
 | some cs' => rw [e] at h; cases h; exact ⟨cs', rfl, rfl⟩
theorem bVx {t e : TypeId} {len es : Nat} {agg : Bool} {x i : Operand} {x' i' : aU} (ho : o.op = .index t x i) (ht : P.underlying t = some (.array len e)) (hs : gW P e es = true) (ha : nG P e agg = true) (hρ : bQ m o.op.operands ρ ρ') (hx : aD x x' = true) (hi : aD i i' = true)
   (he : cG (.ixA len es agg x' i') ρ h.get = some r) : nJ P ρ' o m w r := by
 have h1 := hρ x (by simp [ho, Op.operands]) x' hx
 have h2 := hρ i (by simp [ho, Op.operands]) i' hi
 simp only [cG] at he; split at he
 · rename_i cs e1; rw [e1] at h1; obtain ⟨cs', hcs, e2⟩ := bGy h1; obtain ⟨v, hv, rfl⟩ := dA he; obtain ⟨kd, n, e3, hn, hv⟩ := wG hv h2; have hin : (execOp ρ' o).run P w = ((part e cs'.toArray (n * es)).run P w).andThen λ v w' => .ok (.value v) w' := by
     unfold execOp; rw [ho]; simp only [e2, e3, Instr.index, asIntOf, Sem.run_bind, Sem.run_pure, Result.andThen_ok, run_underlying ht]; rw [if_pos ⟨Int.natCast_nonneg n, by simpa using hn⟩]
     simp only [Sem.run_bind, cE hs, Result.andThen_ok]
     rfl
   rw [show (nJ P ρ' o m w (.val v)) = (∃ v', (execOp ρ' o).run P w = .ok (.value v') w /\ tr m v = some v') from rfl, hin]
   cases agg
   · simp only [cond_false] at hv; obtain ⟨v', h3, h4⟩ := iU hcs _ v hv; exact ⟨v', by simp [part, dL ha, h3], h4⟩
   · simp only [cond_true] at hv; obtain ⟨hle, hv⟩ := aI hv; cases hv; refine ⟨.agg ((cs'.drop (n * es)).take es).toArray, by simp [part, dL ha, cE hs], ?_⟩
     simp only [tr]; rw [oQ (oR hcs _) es]
 · cases he
theorem bVw {t : TypeId} {x i : Operand} {x' i' : aU} (ho : o.op = .index t x i) (ht : P.underlying t = some .string) (hρ : bQ m o.op.operands ρ ρ') (hx : aD x x' = true) (hi : aD i i' = true)
   (he : cG (.ixS x' i') ρ h.get = some r) : nJ P ρ' o m w r := by
 have h1 := hρ x (by simp [ho, Op.operands]) x' hx
 have h2 := hρ i (by simp [ho, Op.operands]) i' hi
 simp only [cG] at he; split at he
 · rename_i s e1; rw [e1] at h1; obtain ⟨hok, e2⟩ := jI h1; obtain ⟨v, hv, rfl⟩ := dA he; obtain ⟨kd, n, e3, hn, hv⟩ := wG hv h2; rw [List.getElem?_eq_getElem hn] at hv; cases hv; have hb : s[n] < 256 := (gT s).1 hok _ (List.getElem_mem hn); refine ⟨.int .u8 (s[n] : Int), ?_, rfl⟩; have hget : (gG s)[n]? = some (UInt8.ofNat s[n]) := by
     have hsz : n < (gG s).size := by rw [jX]; exact hn
     rw [getElem?_pos (gG s) n hsz]
     congr 1
     show (gG s).data[n] = _; simp [gG]
   unfold execOp; rw [ho]; simp only [e2, e3, Instr.index, asIntOf, Sem.run_bind, Sem.run_pure, Result.andThen_ok, run_underlying ht]; have hpos : 0 <= Int.ofNat n := Int.natCast_nonneg n; rw [if_pos hpos]; simp only [show (Int.ofNat n).toNat = n from rfl, hget, Int.ofNat_eq_natCast, Int.toNat_natCast, Sem.run_pure, Result.andThen_ok]
   simp [UInt8.toNat_ofNat', Nat.mod_eq_of_lt hb]
 · cases he
end
end Go.DI
namespace Go.DI
open Go.RowKit
section
variable {P : Program} {N0 : Nat} {w0 : World} {m : Mp} {h : H} {w : World} {ρ : Tr DV} {ρ' : Operand -> Value} {o : Oper} {r : dT}
theorem xY {xs : Array Operand} (hρ : bQ m xs ρ ρ') {lo : Option Operand} {lo' : Option aU} (hm : ∀ x, lo = some x -> x ∈ xs) (hc : jS lo lo' = true) :
   (lo'.map (ev ρ) = none /\ lo.map ρ' = none) \/ ∃ x y, lo'.map (ev ρ) = some x /\ lo.map ρ' = some y /\ tr m x = some y := by
 rcases aLO hρ hm hc with ⟨rfl, rfl⟩ | ⟨x, y, rfl, rfl, ht⟩
 · exact .inl ⟨rfl, rfl⟩
 · exact .inr ⟨_, _, rfl, rfl, ht⟩
theorem rU (s : Ln) (l k : Nat) : (gG s).extract l k = gG ((s.take k).drop l) := by
 apply ByteArray.ext; apply Array.ext'; simp [gG, List.map_take, List.map_drop, List.drop_take]
theorem bVg {t : TypeId} {x : Operand} {lo hi : Option Operand} {x' : aU} {lo' hi' : Option aU} (ho : o.op = .slice t x lo hi none) (ht : P.underlying t = some .string) (hρ : bQ m o.op.operands ρ ρ')
   (hx : aD x x' = true) (hl : jS lo lo' = true) (hh : jS hi hi' = true) (he : cG (.slS x' lo' hi') ρ h.get = some r) : nJ P ρ' o m w r := by
 have h1 := hρ x (by simp [ho, Op.operands]) x' hx
 have h2 := xY hρ (lo := lo) (λ y hy => by subst hy; simp [ho, Op.operands]) hl
 have h3 := xY hρ (lo := hi) (λ y hy => by subst hy; simp [ho, Op.operands]) hh
 simp only [cG] at he; split at he
 · rename_i s e1; rw [e1] at h1; obtain ⟨hok, e2⟩ := jI h1; obtain ⟨v, hv, rfl⟩ := dA he; obtain ⟨l, k, hlk, hk, hv, hrun⟩ := lW (P := P) (w := w) (isSlice := false) (Nat.le_refl _) hv h2 h3; rw [fI] at hv; cases hv; refine ⟨.string (gG ((s.take k).drop l)), ?_, qX (rD hok λ b hb => List.mem_of_mem_take (List.mem_of_mem_drop hb))⟩
   unfold execOp; rw [ho]; have hul : ∀ v, underlying t = v -> True := λ _ _ => trivial
   simp only [Instr.sliceAt, Sem.run_bind, run_underlying ht, Result.andThen_ok, e2, Instr.slice, jX, Option.map_none, Option.isSome_none]; rw [if_neg (by simp)]
   simp only [Sem.run_bind, hrun, Result.andThen_ok, Sem.run_pure, rU]
 · cases he
theorem gY {t e : TypeId} {es : Nat} {a : Option Addr} {len cap l k : Nat} {lo hi : Option Value} (ht : P.underlying t = some (.slice e)) (hs : gW P e es = true)
   (hb : (Instr.sliceBounds true len cap lo hi none).run P w = .ok (l, k, cap) w) :
   (Instr.sliceAt t (.slice a len cap) lo hi none).run P w = .ok (.slice (if cap = l then a else a.map (·.add (l * es))) (k - l) (cap - l)) w := by
 simp only [Instr.sliceAt, Sem.run_bind, run_underlying ht, Result.andThen_ok, Instr.slice, hb, cE hs, Sem.run_pure]
theorem pX {t e : TypeId} {n es : Nat} {a : Addr} {l k : Nat} {lo hi : Option Value} (ht : P.underlying t = some (.array n e)) (hs : gW P e es = true)
   (hb : (Instr.sliceBounds false n n lo hi none).run P w = .ok (l, k, n) w) :
   (Instr.sliceAt t (.pointer (some a)) lo hi none).run P w = .ok (.slice (some (if n = l then a else a.add (l * es))) (k - l) (n - l)) w := by
 simp only [Instr.sliceAt, Sem.run_bind, run_underlying ht, Result.andThen_ok, Instr.sureAddr, hb, cE hs, Sem.run_pure]
theorem bVi {t e : TypeId} {es : Nat} {x : Operand} {lo hi : Option Operand} {x' : aU} {lo' hi' : Option aU} (ho : o.op = .slice t x lo hi none) (ht : P.underlying t = some (.slice e)) (hs : gW P e es = true) (hρ : bQ m o.op.operands ρ ρ')
   (hx : aD x x' = true) (hl : jS lo lo' = true) (hh : jS hi hi' = true) (he : cG (.slL es x' lo' hi') ρ h.get = some r) : nJ P ρ' o m w r := by
 have h1 := hρ x (by simp [ho, Op.operands]) x' hx
 have h2 := xY hρ (lo := lo) (λ y hy => by subst hy; simp [ho, Op.operands]) hl
 have h3 := xY hρ (lo := hi) (λ y hy => by subst hy; simp [ho, Op.operands]) hh
 have hex : ∀ v, (Instr.sliceAt t (ρ' x) (lo.map ρ') (hi.map ρ') none).run P w = .ok v w -> (execOp ρ' o).run P w = .ok (.value v) w := by
   intro v hv; unfold execOp; rw [ho]; simp only [Sem.run_bind, Option.map_none, hv, Result.andThen_ok, Sem.run_pure]
 simp only [cG] at he; split at he
 · rename_i e1; rw [e1] at h1; simp only [tr, Option.some.injEq] at h1; obtain ⟨v, hv, rfl⟩ := dA he; obtain ⟨l, k, hlk, hk, hv, hrun⟩ := lW (P := P) (w := w) (isSlice := true) (Nat.le_refl _) hv h2 h3; cases hv; refine ⟨.slice none 0 0, hex _ ?_, rfl⟩; rw [<- h1, gY ht hs hrun]; have : l = 0 := by omega
   subst this; have : k = 0 := by omega
   subst this
   rfl
 · rename_i b off len cap op e1; rw [e1] at h1; obtain ⟨j, hj, e2⟩ := eR h1; obtain ⟨v, hv, rfl⟩ := dA he; obtain ⟨l, k, hlk, hk, hv, hrun⟩ := lW (P := P) (w := w) (isSlice := true) (cap' := if op then cap + j.ex else cap) (by split <;> omega) hv h2 h3
   by_cases hlt : l < cap
   · rw [show Nat.blt l cap = true from by rw [Nat.blt_eq]; exact hlt] at hv
     simp only [cond_true, aM, Option.some.injEq] at hv; subst hv; refine ⟨.slice (some ⟨j.r, j.sh + (off + l * es), none⟩) (k - l) (if op then (cap - l) + j.ex else cap - l), hex _ ?_, by simp only [tr, hj]⟩
     rw [e2, gY ht hs hrun, if_neg (by split <;> omega)]
     simp only [Option.map_some, iE]; rw [Nat.add_assoc]
     congr 2
     split <;> omega
   · have hlc : l = cap := by omega
     have hkl : k = l := by omega
     rw [show Nat.blt l cap = false from by rw [Bool.eq_false_iff]; intro hh'; rw [Nat.blt_eq] at hh'; omega] at hv
     simp only [cond_false] at hv; cases op
     · simp only [cond_false, Option.some.injEq] at hv; subst hv; refine ⟨.slice (some ⟨j.r, j.sh + off, none⟩) 0 0, hex _ ?_, by simp [tr, hj]⟩
       rw [e2, gY ht hs hrun]; simp [hlc, hkl]
     · simp only [cond_true, aM, Option.some.injEq] at hv; subst hv; refine ⟨.slice (some ⟨j.r, j.sh + if j.ex = 0 then off else off + l * es, none⟩) 0 j.ex, hex _ ?_, by simp [tr, hj]⟩
       rw [e2, gY ht hs hrun]; simp only [if_true]; by_cases hz : j.ex = 0
       · rw [if_pos (by omega), if_pos hz]; congr 2 <;> omega
       · rw [if_neg (by omega), if_neg hz]
         simp only [Option.map_some, iE]; rw [Nat.add_assoc]
         congr 2 <;> omega
 · rename_i b o1 o2 e1; rw [e1] at h1; obtain ⟨j, hj, e2⟩ := iY h1; obtain ⟨v, hv, rfl⟩ := dA he; obtain ⟨l, k, hlk, hk, hv, hrun⟩ := lW (P := P) (w := w) (isSlice := true) (cap' := j.ex) (Nat.zero_le _) hv h2 h3; cases hv; refine ⟨_, hex _ ?_, by simp only [tr, hj]; rfl⟩
   rw [e2, gY ht hs hrun]; have : l = 0 := by omega
   subst this; have : k = 0 := by omega
   subst this; simp only [Nat.zero_mul, Nat.sub_zero, Nat.sub_self, Option.map_some, iE, Nat.add_zero, ite_self]
 · cases he
theorem bVj {t e : TypeId} {n es : Nat} {x : Operand} {lo hi : Option Operand} {x' : aU} {lo' hi' : Option aU} (ho : o.op = .slice t x lo hi none) (ht : P.underlying t = some (.array n e)) (hs : gW P e es = true) (hρ : bQ m o.op.operands ρ ρ')
   (hx : aD x x' = true) (hl : jS lo lo' = true) (hh : jS hi hi' = true) (he : cG (.slA n es x' lo' hi') ρ h.get = some r) : nJ P ρ' o m w r := by
 have h1 := hρ x (by simp [ho, Op.operands]) x' hx
 have h2 := xY hρ (lo := lo) (λ y hy => by subst hy; simp [ho, Op.operands]) hl
 have h3 := xY hρ (lo := hi) (λ y hy => by subst hy; simp [ho, Op.operands]) hh
 have hex : ∀ v, (Instr.sliceAt t (ρ' x) (lo.map ρ') (hi.map ρ') none).run P w = .ok v w -> (execOp ρ' o).run P w = .ok (.value v) w := by
   intro v hv; unfold execOp; rw [ho]; simp only [Sem.run_bind, Option.map_none, hv, Result.andThen_ok, Sem.run_pure]
 simp only [cG] at he; split at he
 · rename_i b off e1; rw [e1] at h1; obtain ⟨j, hj, e2⟩ := fP h1; obtain ⟨v, hv, rfl⟩ := dA he; obtain ⟨l, k, hlk, hk, hv, hrun⟩ := lW (P := P) (w := w) (isSlice := false) (Nat.le_refl _) hv h2 h3; by_cases hlt : l < n
   · rw [show Nat.blt l n = true from by rw [Nat.blt_eq]; exact hlt] at hv
     simp only [cond_true, aM, Option.some.injEq] at hv; subst hv; refine ⟨.slice (some ⟨j.r, j.sh + (off + l * es), none⟩) (k - l) (n - l), hex _ ?_, by simp [tr, hj]⟩
     rw [e2, pX ht hs hrun, if_neg (by omega)]
     simp only [iE, Nat.add_assoc]
   · have hlc : l = n := by omega
     have hkl : k = l := by omega
     rw [show Nat.blt l n = false from by rw [Bool.eq_false_iff]; intro hh'; rw [Nat.blt_eq] at hh'; omega] at hv
     simp only [cond_false, Option.some.injEq] at hv; subst hv; refine ⟨.slice (some ⟨j.r, j.sh + off, none⟩) 0 0, hex _ ?_, by simp [tr, hj]⟩
     rw [e2, pX ht hs hrun]; simp [hlc, hkl]
 · cases he
theorem bVB {i : Nat} {x : Operand} {x' : aU} (ho : o.op = .extract x i) (hρ : bQ m o.op.operands ρ ρ') (hx : aD x x' = true)
   (he : cG (.ext i x') ρ h.get = some r) : nJ P ρ' o m w r := by
 have h1 := hρ x (by simp [ho, Op.operands]) x' hx
 simp only [cG] at he; split at he
 · rename_i vs e1; rw [e1] at h1; obtain ⟨vs', hvs, e2⟩ := bGx h1; obtain ⟨v, hv, rfl⟩ := dA he; obtain ⟨v', h3, h4⟩ := iU hvs i v hv; exact ⟨v', by unfold execOp; rw [ho]; simp [e2, Instr.extract, h3], h4⟩
 · cases he
theorem dX {b : Builtin} {args : Array Operand} {ats : Array TypeId} (ho : o.op = .call { callee := .builtin b, args := args, argTypes := ats }) :
   execOp ρ' o = Go.builtin b ats o.type (args.map λ | .const _ => true | _ => false) (args.map ρ') := by
 unfold execOp; rw [ho]; simp only [resolve, invoke]
 rfl
theorem pY {x : Operand} {t : TypeId} (ho : o.op = .call { callee := .builtin .len, args := #[x], argTypes := #[t] }) :
   (execOp ρ' o).run P w = ((Builtin.len_ #[t] o.type #[ρ' x]).run P w).andThen λ v w' => .ok (.value v) w' := by
 rw [dX ho]; simp [Go.builtin]
theorem bMb {x : Operand} {x' : aU} {t : TypeId} (ho : o.op = .call { callee := .builtin .len, args := #[x], argTypes := #[t] }) (ht : P.underlying t = some .string)
   (hρ : bQ m o.op.operands ρ ρ') (hx : aD x x' = true) (he : cG (.lenS x') ρ h.get = some r) : nJ P ρ' o m w r := by
 have h1 := hρ x (by simp [ho, Op.operands, Call.operands]) x' hx
 simp only [cG] at he; split at he
 · rename_i s e1; rw [e1] at h1; obtain ⟨hok, e2⟩ := jI h1; rw [aM] at he; cases he; exact ⟨_, by rw [pY ho, e2]; simp [Builtin.len_, run_underlying ht, jX, goInt], rfl⟩
 · cases he
theorem bMe {x : Operand} {x' : aU} {t e : TypeId} (ho : o.op = .call { callee := .builtin .len, args := #[x], argTypes := #[t] }) (ht : P.underlying t = some (.slice e))
   (hρ : bQ m o.op.operands ρ ρ') (hx : aD x x' = true) (he : cG (.lenL x') ρ h.get = some r) : nJ P ρ' o m w r := by
 have h1 := hρ x (by simp [ho, Op.operands, Call.operands]) x' hx
 simp only [cG] at he; split at he
 · rename_i e1; rw [e1] at h1; simp only [tr, Option.some.injEq] at h1; cases he; exact ⟨_, by rw [pY ho, <- h1]; simp [Builtin.len_, run_underlying ht, goInt], rfl⟩
 · rename_i b off n cap op e1; rw [e1] at h1; obtain ⟨j, hj, e2⟩ := eR h1; cases he; exact ⟨_, by rw [pY ho, e2]; simp [Builtin.len_, run_underlying ht, goInt], rfl⟩
 · rename_i b o1 o2 e1; rw [e1] at h1; obtain ⟨j, hj, e2⟩ := iY h1; cases he; exact ⟨_, by rw [pY ho, e2]; simp [Builtin.len_, run_underlying ht, goInt], rfl⟩
 · cases he
theorem aOm {x : Operand} {t : TypeId} (ho : o.op = .call { callee := .builtin .cap, args := #[x], argTypes := #[t] }) :
   (execOp ρ' o).run P w = ((Builtin.cap_ #[t] o.type #[ρ' x]).run P w).andThen λ v w' => .ok (.value v) w' := by
 rw [dX ho]; simp [Go.builtin]
theorem bMh {x : Operand} {x' : aU} {t e : TypeId} (ho : o.op = .call { callee := .builtin .cap, args := #[x], argTypes := #[t] }) (ht : P.underlying t = some (.slice e))
   (hρ : bQ m o.op.operands ρ ρ') (hx : aD x x' = true) (he : cG (.capL x') ρ h.get = some r) : nJ P ρ' o m w r := by
 have h1 := hρ x (by simp [ho, Op.operands, Call.operands]) x' hx
 simp only [cG] at he; obtain ⟨v, hv, rfl⟩ := dA he; unfold aFI at hv; split at hv
 · rename_i e1; rw [e1] at h1; simp only [tr, Option.some.injEq] at h1; cases hv; exact ⟨_, by rw [aOm ho, <- h1]; simp [Builtin.cap_, run_underlying ht, goInt], rfl⟩
 · rename_i b off n cap op e1; rw [e1] at h1; obtain ⟨j, hj, e2⟩ := eR h1; cases op with
   | true => cases hv
   | false =>
     cases hv; exact ⟨_, by rw [aOm ho, e2]; simp [Builtin.cap_, run_underlying ht, goInt], rfl⟩
 · cases hv
theorem dG.length {m : Mp} : ∀ {ds : List dJ} {es : List MapEntry}, dG m ds es -> es.length = ds.length
 | [], [], _ => rfl
 | d :: ds, e :: es, k => by simp [dG.length k.2]
 | [], _ :: _, k => k.elim
 | _ :: _, [], k => k.elim
theorem mR {b : Nat} {v : Value} (h : tr m (.mp b) = some v) : ∃ i, m b = some i /\ v = .map (some i.r) := by
 simp only [tr] at h; cases e : m b with
 | none => rw [e] at h; cases h
 | some i => rw [e] at h; cases h; exact ⟨i, rfl, rfl⟩
theorem bH.mapAt (hw : bH N0 w0 m h w) {b : Nat} {i : pP} {ds : List dJ} {clock : Nat} (hm : m b = some i) (hg : h.get b = some (.map ds clock)) :
   ∃ es : Array MapEntry, w.heap[i.r]? = some (.map es clock) /\ dG m ds es.toList := by
 obtain ⟨o, ho, hr, _⟩ := hw.has b i hm; rw [hg] at ho; cases ho; exact hr
theorem run_getObj_map {r' : Nat} {es : Array MapEntry} {clock : Nat} (hg : w.heap[r']? = some (.map es clock)) : (getObj r').run P w = .ok (.map es clock) w := by
 simp only [getObj, Sem.run, hg]
theorem bMd {x : Operand} {x' : aU} {t k e : TypeId} (ho : o.op = .call { callee := .builtin .len, args := #[x], argTypes := #[t] }) (ht : P.underlying t = some (.map k e)) (hw : bH N0 w0 m h w)
   (hρ : bQ m o.op.operands ρ ρ') (hx : aD x x' = true) (he : cG (.lenM x') ρ h.get = some r) : nJ P ρ' o m w r := by
 have h1 := hρ x (by simp [ho, Op.operands, Call.operands]) x' hx
 simp only [cG] at he; split at he
 · rename_i e1; rw [e1] at h1; simp only [tr, Option.some.injEq] at h1; cases he; exact ⟨_, by rw [pY ho, <- h1]; simp [Builtin.len_, run_underlying ht, goInt], rfl⟩
 · rename_i b e1; rw [e1] at h1; obtain ⟨j, hj, e2⟩ := mR h1; split at he
   · rename_i ds clock hg; rw [aM] at he; cases he; obtain ⟨es, hes, hr⟩ := hw.mapAt hj hg; refine ⟨_, ?_, rfl⟩; rw [pY ho, e2]; simp [Builtin.len_, run_underlying ht, run_getObj_map hes, goInt]; have h5 : es.size = ds.length := by simpa using hr.length
     rw [h5]
   · cases he
 · cases he
theorem bMf {x : Operand} {t n : Nat} {e : TypeId} (ho : o.op = .call { callee := .builtin .len, args := #[x], argTypes := #[t] }) (ht : P.underlying t = some (.array n e))
   (he : cG (.lenA n) ρ h.get = some r) : nJ P ρ' o m w r := by
 cases he; exact ⟨_, by rw [pY ho]; simp [Builtin.len_, run_underlying ht, goInt], rfl⟩
theorem bMc {x : Operand} {t n : Nat} {e ar : TypeId} (ho : o.op = .call { callee := .builtin .len, args := #[x], argTypes := #[t] }) (ht : P.underlying t = some (.pointer ar)) (ha : P.underlying ar = some (.array n e))
   (he : cG (.lenA n) ρ h.get = some r) : nJ P ρ' o m w r := by
 cases he; exact ⟨_, by rw [pY ho]; simp [Builtin.len_, run_underlying ht, run_underlying ha, goInt], rfl⟩
theorem E_mn {x y : Operand} {x' y' : aU} {ts : Array TypeId} (ho : o.op = .call { callee := .builtin .min, args := #[x, y], argTypes := ts })
   (hρ : bQ m o.op.operands ρ ρ') (hx : aD x x' = true) (hy : aD y y' = true) (he : cG (.mn x' y') ρ h.get = some r) : nJ P ρ' o m w r := by
 have h1 := hρ x (by simp [ho, Op.operands, Call.operands]) x' hx
 have h2 := hρ y (by simp [ho, Op.operands, Call.operands]) y' hy
 simp only [cG] at he; split at he
 · rename_i k a k' b e1 e2; rw [e1] at h1; rw [e2] at h2; cases he; refine ⟨.int k (if b < a then b else a), ?_, ?_⟩
   · rw [dX ho]; simp [Go.builtin, Builtin.min_, Builtin.min2, fN h1, fN h2]
   · rw [mN]; by_cases hab : b < a <;> simp [tr, hab]
 · cases he
theorem E_mx {x y : Operand} {x' y' : aU} {ts : Array TypeId} (ho : o.op = .call { callee := .builtin .max, args := #[x, y], argTypes := ts })
   (hρ : bQ m o.op.operands ρ ρ') (hx : aD x x' = true) (hy : aD y y' = true) (he : cG (.mx x' y') ρ h.get = some r) : nJ P ρ' o m w r := by
 have h1 := hρ x (by simp [ho, Op.operands, Call.operands]) x' hx
 have h2 := hρ y (by simp [ho, Op.operands, Call.operands]) y' hy
 simp only [cG] at he; split at he
 · rename_i k a k' b e1 e2; rw [e1] at h1; rw [e2] at h2; cases he; refine ⟨.int k (if b > a then b else a), ?_, ?_⟩
   · rw [dX ho]; simp [Go.builtin, Builtin.max_, Builtin.max2, fN h1, fN h2]
   · rw [mN]; by_cases hab : a < b <;> simp [tr, hab]
 · cases he
end
end Go.DI
namespace Go.DI
open Go.RowKit
section
variable {P : Program} {N0 : Nat} {w0 : World} {m : Mp} {h : H} {w : World} {ρ : Tr DV} {ρ' : Operand -> Value} {o : Oper} {r : dT}
theorem aTZ {f : Fn} {a c : List DV} {v : Value} (h : tr m (.fn f a c) = some v) : ∃ a' c', trs m a = some a' /\ trs m c = some c' /\ v = .func f a'.toArray c'.toArray := by
 simp only [tr] at h; cases e1 : trs m a with
 | none => rw [e1] at h; cases h
 | some a' =>
   cases e2 : trs m c with
   | none => rw [e1, e2] at h; cases h
   | some c' => rw [e1, e2] at h; cases h; exact ⟨a', c', rfl, rfl, rfl⟩
theorem aAy {t : Nat} {v : DV} {v' : Value} (h : tr m (.ifc t v) = some v') : ∃ u, tr m v = some u /\ v' = .iface t u := by
 simp only [tr] at h; cases e1 : tr m v with
 | none => rw [e1] at h; cases h
 | some u => rw [e1] at h; cases h; exact ⟨u, rfl, rfl⟩
theorem cI {t : TypeId} {p : TypeDesc -> Bool} (h : uF P t p = true) : ∃ d, P.underlying t = some d /\ p d = true := by
 unfold uF at h; cases e : P.underlying t with
 | none => rw [e] at h; cases h
 | some d => rw [e] at h; exact ⟨d, rfl, h⟩
theorem dQ (t : TypeId) (x y : Value) : Op.equal t x y = Op.equalIn (9999 + 1) t x y := rfl
theorem aOA {t : TypeId} (hc : (match P.underlying t with
   | some (.pointer el) => match P.info? el with
     | some i => i.size != 0
     | none => false
   | _ => false) = true) : ∃ el n, P.underlying t = some (.pointer el) /\ gW P el n = true /\ n ≠ 0 := by
 split at hc
 · rename_i el h1; split at hc
   · rename_i i h2; exact ⟨el, i.size, h1, by unfold gW; rw [h2]; simp, by simpa using hc⟩
   · cases hc
 · cases hc
theorem aFc {i : pP} {c : Array Value} {el : TypeId} {fr : Nat × Nat} (h : w.heap[i.r]? = some (.cells c el fr)) : ∃ t k, w.shape? i.r = some (t, k) := by
 simp [World.shape?, h]
theorem aOz {d : Nat} {t el : TypeId} {n : Nat} {a b : DV} {a' b' : Value} {c : Bool} (hw : bH N0 w0 m h w) (hd1 : P.underlying t = some (.pointer el)) (hi : gW P el n = true) (hz : n ≠ 0) (ha : tr m a = some a') (hb : tr m b = some b') (hd : pD h.get a b = some c) :
   (Op.equalIn (d + 1) t a' b').run P w = .ok c w /\ ∃ p q, a' = .pointer p /\ b' = .pointer q := by
 unfold pD at hd; split at hd
 · simp only [tr, Option.some.injEq] at ha hb; subst ha; subst hb; cases hd; refine ⟨?_, _, _, rfl, rfl⟩; rw [Op.equalIn]; simp only [Sem.run_bind, run_underlying hd1, Result.andThen_ok]; rfl
 · simp only [tr, Option.some.injEq] at ha; subst ha; obtain ⟨jhb, _, rfl⟩ := fP hb; cases hd; refine ⟨?_, _, _, rfl, rfl⟩; rw [Op.equalIn]; simp only [Sem.run_bind, run_underlying hd1, Result.andThen_ok]; rfl
 · simp only [tr, Option.some.injEq] at hb; subst hb; obtain ⟨jha, _, rfl⟩ := fP ha; cases hd; refine ⟨?_, _, _, rfl, rfl⟩; rw [Op.equalIn]; simp only [Sem.run_bind, run_underlying hd1, Result.andThen_ok]; rfl
 · rename_i b1 o1 b2 o2; obtain ⟨j1, hj1, rfl⟩ := fP ha; obtain ⟨j2, hj2, rfl⟩ := fP hb; refine ⟨?_, _, _, rfl, rfl⟩; rw [Op.equalIn]; simp only [Sem.run_bind, run_underlying hd1, Result.andThen_ok, cE hi]; rw [if_pos hz]; cases hbb : Nat.beq b1 b2 with
   | true =>
     rw [hbb] at hd; cases hd; have hbb := Nat.eq_of_beq_eq_true hbb; subst hbb; rw [hj1] at hj2; cases hj2; simp only [sameAddr, beq_self_eq_true, if_true, Sem.run_pure]
     congr 1
     rw [Bool.eq_iff_iff, beq_iff_eq, Nat.beq_eq]; simp
   | false =>
     rw [hbb] at hd; simp only [cond_false] at hd; split at hd
     · rename_i B1 B2 e1 e2; obtain ⟨hp, hd⟩ := aI hd; cases hd; rw [Bool.and_eq_true] at hp; obtain ⟨O1, g1, r1, _⟩ := hw.has _ _ hj1; obtain ⟨O2, g2, r2, _⟩ := hw.has _ _ hj2; rw [e1] at g1; cases g1; rw [e2] at g2; cases g2; have hne : j1.r ≠ j2.r := λ e => by
         have := hw.inj _ _ _ _ _ _ hj1 hj2 e e1 e2 rfl rfl; rw [this, Nat.beq_refl] at hbb; cases hbb
       obtain ⟨c1, l1, f1, q1, _⟩ := r1.obj; obtain ⟨c2, l2, f2, q2, _⟩ := r2.obj; have fz1 := r1.plain hp.1; have fz2 := r2.plain hp.2; obtain ⟨t1, k1, s1⟩ := aFc q1; obtain ⟨t2, k2, s2⟩ := aFc q2; simp [sameAddr, hne, noView, viewAt, mayBeOne, stringish, s1, s2, fz1, fz2]
     · cases hd
 · cases hd
theorem aJp {d : Nat} {t : TypeId} {k : nW} {a b : DV} {a' b' : Value} {c : Bool} (hw : bH N0 w0 m h w) (hc : oE P k t = true) (ha : tr m a = some a') (hb : tr m b = some b') (hd : jF h.get k a b = some c) :
   (Op.equalIn (d + 1) t a' b').run P w = .ok c w := by
 unfold jF at hd; split at hd <;> simp only [oE] at hc
 · obtain ⟨d, hd1, hd2⟩ := cI hc; cases d <;> (try (cases hd2; done))
   rename_i p q; have e1 := iJ ha; have e2 := iJ hb; subst e1; subst e2; have hc' : c = (p == q) := by cases hd; cases p <;> cases q <;> rfl
   subst hc'; rw [Op.equalIn]; simp only [Sem.run_bind, run_underlying hd1, Result.andThen_ok]; simp
 · obtain ⟨d, hd1, hd2⟩ := cI hc; cases d <;> (try (cases hd2; done))
   have e1 := fN ha; have e2 := fN hb; subst e1; subst e2; obtain ⟨hk, hdd⟩ := aI hd
   clear hd
   have hk := of_decide_eq_true hk; subst hk; cases hdd; rw [Op.equalIn]; simp only [Sem.run_bind, run_underlying hd1, Result.andThen_ok]; simp [oZ]
 · obtain ⟨d, hd1, hd2⟩ := cI hc; cases d <;> (try (cases hd2; done))
   obtain ⟨k1, e1⟩ := jI ha; obtain ⟨k2, e2⟩ := jI hb; subst e1; subst e2; cases hd; rw [Op.equalIn]; simp only [Sem.run_bind, run_underlying hd1, Result.andThen_ok]; simp only [Sem.run_pure]
   congr 1
   rw [xQ, <- aCa k1 k2, beq_toListBytes]
 · obtain ⟨el, n, h1, h2, h3⟩ := aOA hc; exact (aOz hw h1 h2 h3 ha hb hd).1
 · cases hd
def nO (d : Nat) (xs ys : Array Value) (f : Field) (s : Option Bool × Unit) : Sem (ForInStep (Option Bool × Unit)) :=
 if f.name ≠ "_" then do
   let a <- part f.type xs f.offset
   let b <- part f.type ys f.offset
   let c <- Op.equalIn d f.type a b
   if (!c) = true then pure (ForInStep.done (some false, ())) else pure (ForInStep.yield (none, ()))
 else pure (ForInStep.yield (none, ()))
theorem aJE {t : TypeId} {fs : Array Field} (h : uQ P t = some fs) : P.underlying t = some (.struct fs) /\ P.stoodInHeld t = false := by
 unfold uQ at h; split at h
 · rename_i e; cases hh : P.stoodInHeld t with
   | true => rw [hh] at h; cases h
   | false => rw [hh] at h; cases h; exact ⟨e, rfl⟩
 · cases h
theorem aBl {d : Nat} {t : TypeId} {fs : Array Field} {xs ys : Array Value} {c : Bool} (hf : uQ P t = some fs) (h : (forIn fs.toList ((none : Option Bool), ()) (nO d xs ys)).run P w = .ok (if c then none else some false, ()) w) :
   (Op.equalIn (d + 1) t (.agg xs) (.agg ys)).run P w = .ok c w := by
 obtain ⟨h1, h2⟩ := aJE hf; rw [Op.equalIn]; simp only [Sem.run_bind, run_underlying h1, Result.andThen_ok, run_program, h2, Bool.false_eq_true, if_false, <- Array.forIn_toList]; have := h; unfold nO at this; rw [this]; cases c <;> rfl
theorem aPD {d : Nat} {e : TypeId} {k : nW} (hw : bH N0 w0 m h w) (hl : oE P k e = true) (hag : nG P e false = true) {xa ya : Array Value} : ∀ (n j : Nat) {xs ys : List DV} {xs' ys' : List Value} {c : Bool}, trs m xs = some xs' -> trs m ys = some ys' -> xs.length = n -> (∀ q, q < n -> xa[j + q]? = xs'[q]?) -> (∀ q, q < n -> ya[j + q]? = ys'[q]?) -> wT h.get k xs ys = some c ->
   (forIn (List.range' j n) ((none : Option Bool), ()) (λ i (s : Option Bool × Unit) => do
     let a <- part e xa (i * 1)
     let b <- part e ya (i * 1)
     let c <- Op.equalIn (d + 1) e a b
     if (!c) = true then pure (ForInStep.done (some false, ())) else pure (ForInStep.yield (none, ())))).run P w = .ok (if c then none else some false, ()) w
 | 0, j, xs, ys, xs', ys', c, hx, hy, hn, h1, h2, hd => by
   cases xs with
   | cons _ _ => cases hn
   | nil =>
     cases ys with
     | cons _ _ => cases hd
     | nil => cases hd; rfl
 | n + 1, j, xs, ys, xs', ys', c, hx, hy, hn, h1, h2, hd => by
   cases xs with
   | nil => cases hn
   | cons a as =>
     cases ys with
     | nil => cases hd
     | cons b bs =>
       obtain ⟨a', as', a1, a2, rfl⟩ := dB.1 hx; obtain ⟨b', bs', b1, b2, rfl⟩ := dB.1 hy
       replace hd : (match jF h.get k a b with
         | some c => bif c then wT h.get k as bs else some false
         | none => none) = some c := hd
       have e1 : xa[j]? = some a' := by have := h1 0 (by omega); simpa using this
       have e2 : ya[j]? = some b' := by have := h2 0 (by omega); simpa using this
       rw [List.range'_succ, List.forIn_cons]; split at hd
       · rename_i c1 hc1; have hrun := aJp (d := d) hw hl a1 b1 hc1; cases c1 with
         | true =>
           simp only [cond_true] at hd; have := aPD (d := d) hw hl hag (xa := xa) (ya := ya) n (j + 1) a2 b2 (by simpa using hn) (λ q hq => by have := h1 (q + 1) (by omega); rw [show j + 1 + q = j + (q + 1) from by omega]; simpa using this) (λ q hq => by have := h2 (q + 1) (by omega); rw [show j + 1 + q = j + (q + 1) from by omega]; simpa using this) hd
           simp [part, dL hag, e1, e2, hrun]
           simpa [part] using this
         | false =>
           simp only [cond_false] at hd; cases hd; simp [part, dL hag, e1, e2, hrun]
       · cases hd
theorem bBO (hw : bH N0 w0 m h w) : ∀ {s : EqS} {fs : List Field} {d : Nat} {xs ys : List DV} {xs' ys' : List Value} {c : Bool}, aHm P s fs = true -> s.dep <= d -> trs m xs = some xs' -> trs m ys = some ys' -> jZ h.get s xs ys = some c ->
   (forIn fs ((none : Option Bool), ()) (nO d xs'.toArray ys'.toArray)).run P w = .ok (if c then none else some false, ()) w := by
 intro s
 induction s with
 | nil =>
   intro fs d xs ys xs' ys' c hc hdep hx hy hd; cases fs with
   | nil => cases hd; rfl
   | cons f fs => cases hc
 | leaf k off tl ih =>
   intro fs d xs ys xs' ys' c hc hdep hx hy hd; cases fs with
   | nil => cases hc
   | cons f fs =>
     simp only [aHm, Bool.and_eq_true, bne_iff_ne, ne_eq] at hc; obtain ⟨⟨⟨⟨hn, ho⟩, hl⟩, hag⟩, htl⟩ := hc; have ho := Nat.eq_of_beq_eq_true ho; simp only [EqS.dep] at hdep; have hdep1 : 1 <= d := Nat.le_trans (Nat.le_max_left _ _) hdep; have hdep2 : tl.dep <= d := Nat.le_trans (Nat.le_max_right _ _) hdep; obtain ⟨d', rfl⟩ : ∃ d', d = d' + 1 := ⟨d - 1, by omega⟩
     replace hd : (match xs[off]?, ys[off]? with
       | some a, some b => match jF h.get k a b with
         | some c => bif c then jZ h.get tl xs ys else some false
         | none => none
       | _, _ => none) = some c := hd
     split at hd
     · rename_i a b ha hb; split at hd
       · rename_i c1 hc1; obtain ⟨a', e1, t1⟩ := iU hx off a ha; obtain ⟨b', e2, t2⟩ := iU hy off b hb; have hrun := aJp (d := d') hw hl t1 t2 hc1; rw [List.forIn_cons]; cases c1 with
         | true =>
           simp only [cond_true] at hd; have := ih htl hdep2 hx hy hd; simp [nO, hn, part, dL hag, ho, e1, e2, hrun]
           simpa [nO] using this
         | false =>
           simp only [cond_false] at hd; cases hd; simp [nO, hn, part, dL hag, ho, e1, e2, hrun]
       · cases hd
     · cases hd
 | sub off n hd tl ihh iht =>
   intro fs d xs ys xs' ys' c hc hdep hx hy hde; cases fs with
   | nil => cases hc
   | cons f fs =>
     simp only [aHm, Bool.and_eq_true, bne_iff_ne, ne_eq] at hc; obtain ⟨⟨⟨⟨⟨hn, ho⟩, hag⟩, hsz⟩, hgs⟩, htl⟩ := hc; have ho := Nat.eq_of_beq_eq_true ho; simp only [EqS.dep] at hdep; have hdep1 : 1 + hd.dep <= d := Nat.le_trans (Nat.le_max_left _ _) hdep; have hdep2 : tl.dep <= d := Nat.le_trans (Nat.le_max_right _ _) hdep; obtain ⟨d', rfl⟩ : ∃ d', d = d' + 1 := ⟨d - 1, by omega⟩
     replace hde : (bif Nat.ble (off + n) xs.length && Nat.ble (off + n) ys.length then
       (match jZ h.get hd ((xs.drop off).take n) ((ys.drop off).take n) with
         | some c => bif c then jZ h.get tl xs ys else some false
         | none => none) else none) = some c := hde
     obtain ⟨hlen, hde⟩ := aI hde; split at hgs
     · rename_i gs hf; split at hde
       · rename_i c1 hc1; have i1 := ihh (d := d') hgs (by omega) (oQ (oR hx off) n) (oQ (oR hy off) n) hc1
         have hrun := aBl hf i1; rw [List.forIn_cons]; cases c1 with
         | true =>
           simp only [cond_true] at hde; have := iht htl hdep2 hx hy hde; simp [nO, hn, part, dL hag, cE hsz, ho, hrun]
           simpa [nO] using this
         | false =>
           simp only [cond_false] at hde; cases hde; simp [nO, hn, part, dL hag, cE hsz, ho, hrun]
       · cases hde
     · cases hgs
 | arr k off n tl ih =>
   intro fs d xs ys xs' ys' c hc hdep hx hy hde; cases fs with
   | nil => cases hc
   | cons f fs =>
     simp only [aHm, Bool.and_eq_true, bne_iff_ne, ne_eq] at hc; obtain ⟨⟨⟨⟨⟨hn, ho⟩, hag⟩, hsz⟩, hgs⟩, htl⟩ := hc; have ho := Nat.eq_of_beq_eq_true ho; simp only [EqS.dep] at hdep; have hdep1 : 2 <= d := Nat.le_trans (Nat.le_max_left _ _) hdep; have hdep2 : tl.dep <= d := Nat.le_trans (Nat.le_max_right _ _) hdep; obtain ⟨d', rfl⟩ : ∃ d', d = d' + 2 := ⟨d - 2, by omega⟩
     replace hde : (bif Nat.ble (off + n) xs.length && Nat.ble (off + n) ys.length then
       (match wT h.get k ((xs.drop off).take n) ((ys.drop off).take n) with
         | some c => bif c then jZ h.get tl xs ys else some false
         | none => none) else none) = some c := hde
     obtain ⟨hlen, hde⟩ := aI hde; rw [Bool.and_eq_true] at hlen; have l1 := Nat.le_of_ble_eq_true hlen.1; have l2 := Nat.le_of_ble_eq_true hlen.2; split at hgs
     · rename_i len e hf; simp only [Bool.and_eq_true] at hgs; obtain ⟨⟨⟨hq, hl⟩, hag2⟩, hsz2⟩ := hgs; have hq := Nat.eq_of_beq_eq_true hq; subst hq; split at hde
       · rename_i c1 hc1; have i1 := aPD (P := P) (d := d') (e := e) (xa := ((xs'.drop off).take len).toArray) (ya := ((ys'.drop off).take len).toArray) hw hl hag2 len 0 (oQ (oR hx off) len) (oQ (oR hy off) len) (by rw [List.length_take, List.length_drop]; omega) (λ q _ => by simp) (λ q _ => by simp) hc1
         have hrun : (Op.equalIn (d' + 2) f.type (.agg ((xs'.drop off).take len).toArray) (.agg ((ys'.drop off).take len).toArray)).run P w = .ok c1 w := by
           rw [Op.equalIn]; simp only [Sem.run_bind, run_underlying hf, Result.andThen_ok, cE hsz2, Std.Legacy.Range.forIn_eq_forIn_range', Std.Legacy.Range.size]; simp only [Nat.sub_zero, Nat.add_sub_cancel, Nat.div_one]; rw [i1]; cases c1 <;> rfl
         rw [List.forIn_cons]; cases c1 with
         | true =>
           simp only [cond_true] at hde; have := ih htl hdep2 hx hy hde; simp [nO, hn, part, dL hag, cE hsz, ho, hrun]
           simpa [nO] using this
         | false =>
           simp only [cond_false] at hde; cases hde; simp [nO, hn, part, dL hag, cE hsz, ho, hrun]
       · cases hde
     · cases hgs
theorem aPf {t : TypeId} {e : EqT} {x y : Operand} {a b : DV} {a' b' : Value} {c : Bool} (hw : bH N0 w0 m h w) (hc : aFN P t e x y = true) (ha : tr m a = some a') (hb : tr m b = some b') (hd : dEq h.get e a b = some c) :
   (do eqGuard .eql t x y a' b'; binOp .eql t a' b' : Sem Value).run P w = .ok (.bool c) w /\ (do eqGuard .neq t x y a' b'; binOp .neq t a' b' : Sem Value).run P w = .ok (.bool (!c)) w := by
 have fin : ∀ c : Bool, (eqGuard .eql t x y a' b').run P w = .ok () w -> (eqGuard .neq t x y a' b').run P w = .ok () w -> binOp .eql t a' b' = (do pure (.bool (<- Op.equal t a' b'))) -> binOp .neq t a' b' = (do pure (.bool (!(<- Op.equal t a' b')))) -> (Op.equal t a' b').run P w = .ok c w ->
     (do eqGuard .eql t x y a' b'; binOp .eql t a' b' : Sem Value).run P w = .ok (.bool c) w /\ (do eqGuard .neq t x y a' b'; binOp .neq t a' b' : Sem Value).run P w = .ok (.bool (!c)) w := by
   intro c g1 g2 b1 b2 hq; constructor
   · simp only [Sem.run_bind, g1, Result.andThen_ok, b1, hq, Sem.run_pure]
   · simp only [Sem.run_bind, g2, Result.andThen_ok, b2, hq, Sem.run_pure]
 unfold dEq at hd; split at hd <;> (try (cases hd; done)) <;> simp only [aFN] at hc
 ·
   rename_i p q; obtain ⟨d, hd1, hd2⟩ := cI hc; have e1 := iJ ha; have e2 := iJ hb; subst e1; subst e2; have hc' : c = (p == q) := by cases hd; cases p <;> cases q <;> rfl
   subst hc'; refine fin _ (by unfold eqGuard; rfl) (by unfold eqGuard; rfl) rfl rfl ?_
   cases d <;> (try (cases hd2; done))
   rw [dQ, Op.equalIn]; simp only [Sem.run_bind, run_underlying hd1, Result.andThen_ok]; simp
 ·
   rw [Bool.and_eq_true] at hc; obtain ⟨hx, hc⟩ := hc; obtain ⟨d, hd1, hd2⟩ := cI hc; simp only [tr, Option.some.injEq] at ha hb; subst ha; subst hb; cases hd; refine fin _ ?_ ?_ rfl rfl ?_
   · unfold eqGuard; cases x <;> cases y <;> simp_all [mM]
   · unfold eqGuard; cases x <;> cases y <;> simp_all [mM]
   · cases d <;> (try (cases hd2; done))
     rw [dQ, Op.equalIn]; simp only [Sem.run_bind, run_underlying hd1, Result.andThen_ok]; rfl
 · rw [Bool.and_eq_true] at hc; obtain ⟨d, hd1, hd2⟩ := cI hc.2; simp only [tr, Option.some.injEq] at ha; obtain ⟨u, hu, rfl⟩ := aAy hb; subst ha; cases hd; refine fin _ (by unfold eqGuard; rfl) (by unfold eqGuard; rfl) rfl rfl ?_
   cases d <;> (try (cases hd2; done))
   rw [dQ, Op.equalIn]; simp only [Sem.run_bind, run_underlying hd1, Result.andThen_ok]; rfl
 · rw [Bool.and_eq_true] at hc; obtain ⟨d, hd1, hd2⟩ := cI hc.2; simp only [tr, Option.some.injEq] at hb; obtain ⟨u, hu, rfl⟩ := aAy ha; subst hb; cases hd; refine fin _ (by unfold eqGuard; rfl) (by unfold eqGuard; rfl) rfl rfl ?_
   cases d <;> (try (cases hd2; done))
   rw [dQ, Op.equalIn]; simp only [Sem.run_bind, run_underlying hd1, Result.andThen_ok]; rfl
 · obtain ⟨d, hd1, hd2⟩ := cI hc; simp only [tr, Option.some.injEq] at ha; obtain ⟨u, hu, rfl⟩ := aAy hb; subst ha; cases hd; refine fin _ (by unfold eqGuard; rfl) (by unfold eqGuard; rfl) rfl rfl ?_
   cases d <;> (try (cases hd2; done))
   rw [dQ, Op.equalIn]; simp only [Sem.run_bind, run_underlying hd1, Result.andThen_ok]; rfl
 · obtain ⟨d, hd1, hd2⟩ := cI hc; simp only [tr, Option.some.injEq] at hb; obtain ⟨u, hu, rfl⟩ := aAy ha; subst hb; cases hd; refine fin _ (by unfold eqGuard; rfl) (by unfold eqGuard; rfl) rfl rfl ?_
   cases d <;> (try (cases hd2; done))
   rw [dQ, Op.equalIn]; simp only [Sem.run_bind, run_underlying hd1, Result.andThen_ok]; rfl
 · obtain ⟨d, hd1, hd2⟩ := cI hc; simp only [tr, Option.some.injEq] at ha; subst ha; simp only [tr, Option.some.injEq] at hb; subst hb; cases hd; refine fin _ (by unfold eqGuard; rfl) (by unfold eqGuard; rfl) rfl rfl ?_
   cases d <;> (try (cases hd2; done))
   rw [dQ, Op.equalIn]; simp only [Sem.run_bind, run_underlying hd1, Result.andThen_ok]; rfl
 · obtain ⟨d, hd1, hd2⟩ := cI hc; simp only [tr, Option.some.injEq] at ha; subst ha; obtain ⟨jhb, _, rfl⟩ := eR hb; cases hd; refine fin _ (by unfold eqGuard; rfl) (by unfold eqGuard; rfl) rfl rfl ?_
   cases d <;> (try (cases hd2; done))
   rw [dQ, Op.equalIn]; simp only [Sem.run_bind, run_underlying hd1, Result.andThen_ok]; rfl
 · obtain ⟨d, hd1, hd2⟩ := cI hc; obtain ⟨jha, _, rfl⟩ := eR ha; simp only [tr, Option.some.injEq] at hb; subst hb; cases hd; refine fin _ (by unfold eqGuard; rfl) (by unfold eqGuard; rfl) rfl rfl ?_
   cases d <;> (try (cases hd2; done))
   rw [dQ, Op.equalIn]; simp only [Sem.run_bind, run_underlying hd1, Result.andThen_ok]; rfl
 · obtain ⟨d, hd1, hd2⟩ := cI hc; simp only [tr, Option.some.injEq] at ha; subst ha; obtain ⟨jhb, _, rfl⟩ := iY hb; cases hd; refine fin _ (by unfold eqGuard; rfl) (by unfold eqGuard; rfl) rfl rfl ?_
   cases d <;> (try (cases hd2; done))
   rw [dQ, Op.equalIn]; simp only [Sem.run_bind, run_underlying hd1, Result.andThen_ok]; rfl
 · obtain ⟨d, hd1, hd2⟩ := cI hc; obtain ⟨jha, _, rfl⟩ := iY ha; simp only [tr, Option.some.injEq] at hb; subst hb; cases hd; refine fin _ (by unfold eqGuard; rfl) (by unfold eqGuard; rfl) rfl rfl ?_
   cases d <;> (try (cases hd2; done))
   rw [dQ, Op.equalIn]; simp only [Sem.run_bind, run_underlying hd1, Result.andThen_ok]; rfl
 · obtain ⟨d, hd1, hd2⟩ := cI hc; simp only [tr, Option.some.injEq] at ha; subst ha; simp only [tr, Option.some.injEq] at hb; subst hb; cases hd; refine fin _ (by unfold eqGuard; rfl) (by unfold eqGuard; rfl) rfl rfl ?_
   cases d <;> (try (cases hd2; done))
   rw [dQ, Op.equalIn]; simp only [Sem.run_bind, run_underlying hd1, Result.andThen_ok]; rfl
 · obtain ⟨d, hd1, hd2⟩ := cI hc; simp only [tr, Option.some.injEq] at ha; subst ha; obtain ⟨jhb, _, rfl⟩ := mR hb; cases hd; refine fin _ (by unfold eqGuard; rfl) (by unfold eqGuard; rfl) rfl rfl ?_
   cases d <;> (try (cases hd2; done))
   rw [dQ, Op.equalIn]; simp only [Sem.run_bind, run_underlying hd1, Result.andThen_ok]; rfl
 · obtain ⟨d, hd1, hd2⟩ := cI hc; obtain ⟨jha, _, rfl⟩ := mR ha; simp only [tr, Option.some.injEq] at hb; subst hb; cases hd; refine fin _ (by unfold eqGuard; rfl) (by unfold eqGuard; rfl) rfl rfl ?_
   cases d <;> (try (cases hd2; done))
   rw [dQ, Op.equalIn]; simp only [Sem.run_bind, run_underlying hd1, Result.andThen_ok]; rfl
 · obtain ⟨d, hd1, hd2⟩ := cI hc; simp only [tr, Option.some.injEq] at ha; subst ha; simp only [tr, Option.some.injEq] at hb; subst hb; cases hd; refine fin _ (by unfold eqGuard; rfl) (by unfold eqGuard; rfl) rfl rfl ?_
   cases d <;> (try (cases hd2; done))
   rw [dQ, Op.equalIn]; simp only [Sem.run_bind, run_underlying hd1, Result.andThen_ok]; rfl
 · obtain ⟨d, hd1, hd2⟩ := cI hc; simp only [tr, Option.some.injEq] at ha; subst ha; obtain ⟨_, _, _, _, rfl⟩ := aTZ hb; cases hd; refine fin _ (by unfold eqGuard; rfl) (by unfold eqGuard; rfl) rfl rfl ?_
   cases d <;> (try (cases hd2; done))
   rw [dQ, Op.equalIn]; simp only [Sem.run_bind, run_underlying hd1, Result.andThen_ok]; rfl
 · obtain ⟨d, hd1, hd2⟩ := cI hc; obtain ⟨_, _, _, _, rfl⟩ := aTZ ha; simp only [tr, Option.some.injEq] at hb; subst hb; cases hd; refine fin _ (by unfold eqGuard; rfl) (by unfold eqGuard; rfl) rfl rfl ?_
   cases d <;> (try (cases hd2; done))
   rw [dQ, Op.equalIn]; simp only [Sem.run_bind, run_underlying hd1, Result.andThen_ok]; rfl
 · obtain ⟨el, ti, hd1, hi, hz⟩ := aOA hc; obtain ⟨hq, p, q, rfl, rfl⟩ := aOz (d := 9999) hw hd1 hi hz ha hb hd; exact fin _ (by unfold eqGuard; rfl) (by unfold eqGuard; rfl) rfl rfl hq
theorem bVC {t t' : TypeId} {e : EqT} {x y : Operand} {x' y' : aU} (hw : bH N0 w0 m h w) (ho : o.op = .binOp .eql t x y t') (hc : aFN P t e x y = true) (hρ : bQ m o.op.operands ρ ρ') (hx : aD x x' = true) (hy : aD y y' = true)
   (he : cG (.eqv e false x' y') ρ h.get = some r) : nJ P ρ' o m w r := by
 have h1 := hρ x (by simp [ho, Op.operands]) x' hx
 have h2 := hρ y (by simp [ho, Op.operands]) y' hy
 simp only [cG] at he; obtain ⟨v, hv, rfl⟩ := dA he; cases hq : dEq h.get e (ev ρ x') (ev ρ y') with
 | none => rw [hq] at hv; cases hv
 | some c =>
   rw [hq] at hv; simp only [Option.bind_some, cond_false, fR, Option.some.injEq] at hv; subst hv; refine ⟨.bool c, ?_, rfl⟩; unfold execOp; rw [ho]; simp only []; rw [Sem.run_bind, (aPf hw hc h1 h2 hq).1]
   rfl
theorem bVo {t t' : TypeId} {e : EqT} {x y : Operand} {x' y' : aU} (hw : bH N0 w0 m h w) (ho : o.op = .binOp .neq t x y t') (hc : aFN P t e x y = true) (hρ : bQ m o.op.operands ρ ρ') (hx : aD x x' = true) (hy : aD y y' = true)
   (he : cG (.eqv e true x' y') ρ h.get = some r) : nJ P ρ' o m w r := by
 have h1 := hρ x (by simp [ho, Op.operands]) x' hx
 have h2 := hρ y (by simp [ho, Op.operands]) y' hy
 simp only [cG] at he; obtain ⟨v, hv, rfl⟩ := dA he; cases hq : dEq h.get e (ev ρ x') (ev ρ y') with
 | none => rw [hq] at hv; cases hv
 | some c =>
   rw [hq] at hv; simp only [Option.bind_some, cond_true, fR, Option.some.injEq] at hv; subst hv; refine ⟨.bool (!c), ?_, rfl⟩; unfold execOp; rw [ho]; simp only []; rw [Sem.run_bind, (aPf hw hc h1 h2 hq).2]
   rfl
theorem aVA {t : TypeId} {s : EqS} {x y : Operand} {xs ys : List DV} {xs' ys' : List Value} {c : Bool} (hw : bH N0 w0 m h w) (hc : aDS P t s = true) (hx : trs m xs = some xs') (hy : trs m ys = some ys') (hd : jZ h.get s xs ys = some c) :
   (do eqGuard .eql t x y (.agg xs'.toArray) (.agg ys'.toArray); binOp .eql t (.agg xs'.toArray) (.agg ys'.toArray) : Sem Value).run P w = .ok (.bool c) w /\ (do eqGuard .neq t x y (.agg xs'.toArray) (.agg ys'.toArray); binOp .neq t (.agg xs'.toArray) (.agg ys'.toArray) : Sem Value).run P w = .ok (.bool (!c)) w := by
 unfold aDS at hc; rw [Bool.and_eq_true, Bool.and_eq_true, Bool.not_eq_true'] at hc; obtain ⟨⟨hg, hdep⟩, hf⟩ := hc; split at hf
 · rename_i fs hfs; have hrun := aBl hfs (bBO hw hf (d := 9999) (Nat.le_trans (Nat.le_of_ble_eq_true hdep) (by decide)) hx hy hd)
   have hq : (Op.equal t (.agg xs'.toArray) (.agg ys'.toArray)).run P w = .ok c w := hrun; have g1 : (eqGuard .eql t x y (.agg xs'.toArray) (.agg ys'.toArray)).run P w = .ok () w := by unfold eqGuard; simp [hg]
   have g2 : (eqGuard .neq t x y (.agg xs'.toArray) (.agg ys'.toArray)).run P w = .ok () w := by unfold eqGuard; simp [hg]
   constructor
   · simp only [Sem.run_bind, g1, Result.andThen_ok, show binOp .eql t (.agg xs'.toArray) (.agg ys'.toArray) = (do pure (.bool (<- Op.equal t (.agg xs'.toArray) (.agg ys'.toArray)))) from rfl, hq, Sem.run_pure]
   · simp only [Sem.run_bind, g2, Result.andThen_ok, show binOp .neq t (.agg xs'.toArray) (.agg ys'.toArray) = (do pure (.bool (!(<- Op.equal t (.agg xs'.toArray) (.agg ys'.toArray))))) from rfl, hq, Sem.run_pure]
 · cases hf
theorem bGe {t t' : TypeId} {s : EqS} {neg : Bool} {x y : Operand} {x' y' : aU} (hw : bH N0 w0 m h w) (ho : o.op = .binOp (if neg then .neq else .eql) t x y t') (hc : aDS P t s = true) (hρ : bQ m o.op.operands ρ ρ') (hx : aD x x' = true) (hy : aD y y' = true)
   (he : cG (.eqs neg s x' y') ρ h.get = some r) : nJ P ρ' o m w r := by
 have h1 := hρ x (by simp [ho, Op.operands]) x' hx
 have h2 := hρ y (by simp [ho, Op.operands]) y' hy
 simp only [cG] at he; split at he
 · rename_i xs ys e1 e2; rw [e1] at h1; rw [e2] at h2; obtain ⟨v, hv, rfl⟩ := dA he; cases hq : jZ h.get s xs ys with
   | none => rw [hq] at hv; cases hv
   | some c =>
     rw [hq] at hv; simp only [tr] at h1 h2; cases hxs : trs m xs with
     | none => rw [hxs] at h1; cases h1
     | some xs' =>
       cases hys : trs m ys with
       | none => rw [hys] at h2; cases h2
       | some ys' =>
         rw [hxs] at h1; rw [hys] at h2; simp only [Option.some.injEq] at h1 h2; have hb := aVA (x := x) (y := y) hw hc hxs hys hq; simp only [Option.bind_some, fR, Option.some.injEq] at hv; subst hv; cases neg
         · refine ⟨.bool c, ?_, rfl⟩; unfold execOp; rw [ho]; simp only [Bool.false_eq_true, if_false]; rw [<- h1, <- h2, Sem.run_bind, hb.1]
           rfl
         · refine ⟨.bool (!c), ?_, rfl⟩; unfold execOp; rw [ho]; simp only [if_true]; rw [<- h1, <- h2, Sem.run_bind, hb.2]
           rfl
 · cases he
end
end Go.DI
namespace Go.DI
open Go.RowKit
section
variable {P : Program} {N0 : Nat} {w0 : World} {m : Mp} {h : H} {w : World} {ρ : Tr DV} {ρ' : Operand -> Value} {o : Oper} {r : dT}
theorem aGU (a : Array Value) (f : Array Value -> Value × Nat -> Array Value) (init : Array Value) :
   a.zipIdx.foldl f init = (a.toList.zipIdx).foldl f init := by
 rw [<- Array.foldl_toList]; simp
theorem aFe {m : Mp} (off : Nat) : ∀ (vs : List DV) (vs' : List Value) (k : Nat) (cs : List DV) (cells : Array Value), trs m vs = some vs' -> trs m cs = some cells.toList ->
   trs m (pW cs (off + k) vs) = some ((vs'.zipIdx k).foldl (λ (cs : Array Value) (x : Value × Nat) => cs.setIfInBounds (off + x.2) x.1) cells).toList
 | [], vs', k, cs, cells, h1, h2 => by simp only [trs, Option.some.injEq] at h1; subst h1; simpa [pW] using h2
 | v :: vs, vs', k, cs, cells, h1, h2 => by
   obtain ⟨u, us, h3, h4, rfl⟩ := dB.1 h1; simp only [pW, List.zipIdx_cons, List.foldl_cons]; have := aFe off vs us (k + 1) (cs.set (off + k) v) (cells.setIfInBounds (off + k) u) h4 (by simpa using aNZ h2 (off + k) v u h3)
   rwa [Nat.add_assoc]
theorem yX : ∀ (vs : List DV) (off : Nat) (cs : List DV), (pW cs off vs).length = cs.length
 | [], _, _ => rfl
 | v :: vs, off, cs => by simp [pW, yX vs]
theorem zQ {m : Mp} {xs : Array Operand} (hρ : bQ m xs ρ ρ') {place : Nat -> Option (Nat × Nat)} : ∀ {ps : List (Nat × Operand)} {qs : List (Nat × Nat × aU)} {cs cs' : List DV} {cells : Array Value},
   (∀ x ∈ ps, x.2 ∈ xs) -> lT P place ps qs = true -> trs m cs = some cells.toList -> fG cs (qs.map λ p => (p.1, p.2.1, ev ρ p.2.2)) = some cs' ->
   ∃ cells', Instr.fill place cells (ps.map λ p => (p.1, ρ' p.2)) = some cells' /\ trs m cs' = some cells'.toList
 | [], [], cs, cs', cells, _, _, h1, h2 => by
   simp only [List.map_nil, fG, Option.some.injEq] at h2; subst h2; exact ⟨cells, rfl, h1⟩
 | (i, x) :: ps, (off, n, y) :: qs, cs, cs', cells, hm, hp, h1, h2 => by
   simp only [lT, Bool.and_eq_true] at hp; obtain ⟨⟨hpl, hxy⟩, hp⟩ := hp; have hx := hρ x (hm (i, x) (by simp)) y hxy
   have hxc := aCB hx; simp only [List.map_cons, fG] at h2; obtain ⟨hcond, h5⟩ := aI h2; rw [Bool.and_eq_true] at hcond; have hlen := Nat.eq_of_beq_eq_true hcond.1; have hle := Nat.le_of_ble_eq_true hcond.2; have hl1 := cU hxc; have hl2 := cU h1; cases hpi : place i with
   | none => rw [hpi] at hpl; cases hpl
   | some os =>
     obtain ⟨o', s'⟩ := os; rw [hpi] at hpl; simp only [Bool.and_eq_true] at hpl; have ho := Nat.eq_of_beq_eq_true hpl.1; have hs := Nat.eq_of_beq_eq_true hpl.2; subst ho; subst hs; have hstep := aFe o' _ _ 0 _ _ hxc h1; rw [Nat.add_zero] at hstep; obtain ⟨cells', hf, ht⟩ := zQ hρ (λ x hx => hm x (by simp [hx])) hp hstep h5
     refine ⟨cells', ?_, ht⟩; simp only [List.map_cons, Instr.fill, hpi]; have e1 : (ρ' x).cells.size = s' := by
       have : (ρ' x).cells.toList.length = (ev ρ y).cells.length := hl1
       simpa [hlen] using this
     have e2 : cells.size = cs.length := by simpa using hl2
     rw [if_neg (by simp only [Bool.or_eq_true, bne_iff_ne, decide_eq_true_eq, ne_eq, gt_iff_lt]; omega)]
     rw [aGU]; exact hf
 | [], _ :: _, _, _, _, _, hp, _, _ => by simp [lT] at hp
 | _ :: _, [], _, _, _, _, hp, _, _ => by simp [lT] at hp
theorem kX {t : TypeId} {zs : List DV} (hz : kH P t zs = true) : ∃ z, (zeroValue t).run P w = .ok z w /\ trs m zs = some z.cells.toList := by
 unfold kH at hz; cases hi : P.info? t with
 | none => rw [hi] at hz; cases hz
 | some i =>
   rw [hi] at hz; simp only [] at hz; cases hzz : i.zero with
   | none => rw [hzz] at hz; cases hz
   | some z =>
     rw [hzz] at hz; refine ⟨z, ?_, vE (λ v d => tG m 3 v d) hz⟩
     unfold zeroValue typeInfo; simp [hi, hzz]
theorem aCN {w : World} : ∀ (fs : List Field) (g : Field -> Nat × Nat), (∀ f ∈ fs, ∃ i, P.info? f.type = some i /\ g f = (f.offset, i.size)) ->
   (fs.mapM (λ f => do pure (f.offset, <- sizeOf f.type)) : Sem (List (Nat × Nat))).run P w = .ok (fs.map g) w
 | [], g, _ => by simp
 | f :: fs, g, hf => by
   obtain ⟨i, hi, hg⟩ := hf f (by simp)
   have h1 : (sizeOf f.type).run P w = .ok i.size w := cE (by unfold gW; rw [hi]; simp)
   simp only [List.mapM_cons, Sem.run_bind, h1, Result.andThen_ok, Sem.run_pure]; rw [aCN fs g (λ f' hf' => hf f' (by simp [hf']))]
   simp [hg]
def aOg (P : Program) (fs : Array Field) : Bool := fs.toList.all λ f => (P.info? f.type).isSome
theorem bMi {t : TypeId} {fs : Array Field} {ps : Array (Nat × Operand)} {zs : List DV} {qs : List (Nat × Nat × aU)} (ho : o.op = .build t ps) (ht : P.underlying t = some (.struct fs)) (hsz : aOg P fs = true) (hz : kH P t zs = true)
   (hp : lT P (iP P fs) ps.toList qs = true) (hρ : bQ m o.op.operands ρ ρ') (he : cG (.bld zs qs) ρ h.get = some r) : nJ P ρ' o m w r := by
 simp only [cG] at he; obtain ⟨v, hv, rfl⟩ := dA he; cases hf : fG zs (qs.map λ p => (p.1, p.2.1, ev ρ p.2.2)) with
 | none => rw [hf] at hv; cases hv
 | some cs =>
   rw [hf] at hv; cases hv; obtain ⟨z, hzr, hzt⟩ := kX (m := m) (w := w) hz; obtain ⟨cells', hfl, htr⟩ := zQ (P := P) hρ (place := iP P fs) (λ x hx => by simp only [ho, Op.operands]; simp only [List.mem_toArray, List.mem_map]; exact ⟨x, hx, rfl⟩) hp hzt hf
   let g : Field -> Nat × Nat := λ f => (f.offset, ((P.info? f.type).map (·.size)).getD 0)
   have hpl : (fs.mapM (λ f => do pure (f.offset, <- sizeOf f.type)) : Sem (Array (Nat × Nat))).run P w = .ok (fs.map g) w := by
     rw [Array.mapM_eq_mapM_toList]; have := aCN (P := P) (w := w) fs.toList g (λ f hf => by
       have := List.all_eq_true.1 hsz f hf; obtain ⟨i, hi⟩ := Option.isSome_iff_exists.1 this; exact ⟨i, hi, by simp [g, hi]⟩)
     simp only [Sem.run_map, this, Result.andThen_ok]
     congr 1
     apply Array.ext'; simp
   have hplace : (λ i => (fs.map g)[i]?) = iP P fs := by
     funext i
     unfold iP; simp only [Array.getElem?_map]; cases hfi : fs[i]? with
     | none => rfl
     | some f =>
       have hmem : f ∈ fs.toList := by
         have := Array.getElem?_eq_some_iff.1 hfi; obtain ⟨h1, h2⟩ := this; rw [<- h2]; simp
       have := List.all_eq_true.1 hsz f hmem; obtain ⟨i, hi⟩ := Option.isSome_iff_exists.1 this; simp [g, hi]
   refine ⟨.agg cells', ?_, by simp only [tr, htr]⟩
   unfold execOp; rw [ho]; simp only [Sem.run_bind, Instr.build, hzr, Result.andThen_ok, run_underlying ht, hpl, hplace]; rw [show (ps.map λ x => (x.1, ρ' x.2)).toList = ps.toList.map λ p => (p.1, ρ' p.2) from by simp]
   rw [show (λ x => iP P fs x) = iP P fs from rfl, hfl]
   simp
def jT (es : Nat) (i : Nat) : Option (Nat × Nat) := some (i * es, es)
theorem bMj {t e : TypeId} {n es : Nat} {ps : Array (Nat × Operand)} {zs : List DV} {qs : List (Nat × Nat × aU)} (ho : o.op = .build t ps) (ht : P.underlying t = some (.array n e)) (hs : gW P e es = true) (hz : kH P t zs = true)
   (hp : lT P (jT es) ps.toList qs = true) (hρ : bQ m o.op.operands ρ ρ') (he : cG (.bld zs qs) ρ h.get = some r) : nJ P ρ' o m w r := by
 simp only [cG] at he; obtain ⟨v, hv, rfl⟩ := dA he; cases hf : fG zs (qs.map λ p => (p.1, p.2.1, ev ρ p.2.2)) with
 | none => rw [hf] at hv; cases hv
 | some cs =>
   rw [hf] at hv; cases hv; obtain ⟨z, hzr, hzt⟩ := kX (m := m) (w := w) hz; obtain ⟨cells', hfl, htr⟩ := zQ (P := P) hρ (place := jT es) (λ x hx => by simp only [ho, Op.operands]; simp only [List.mem_toArray, List.mem_map]; exact ⟨x, hx, rfl⟩) hp hzt hf
   refine ⟨.agg cells', ?_, by simp only [tr, htr]⟩
   unfold execOp; rw [ho]; simp only [Sem.run_bind, Instr.build, hzr, Result.andThen_ok, run_underlying ht, cE hs]; rw [show (ps.map λ x => (x.1, ρ' x.2)).toList = ps.toList.map λ p => (p.1, ρ' p.2) from by simp]
   rw [show (λ i => some (i * es, es)) = jT es from rfl, hfl]
   simp
theorem bVI {t : TypeId} {n es : Nat} {zs : Zs} (ho : o.op = .alloc t) (hz : kH P t zs.cells = true) (hn : zs.cells.length = n) (hsm : zs.small = true)
   (he : cG (.alc n es zs) ρ h.get = some r) : nJ P ρ' o m w r := by
 simp only [cG] at he; cases he; intro k hk; obtain ⟨z, hzr, hzt⟩ := kX (P := P) (m := m) (w := w) hz; refine ⟨.pointer (some ⟨w.heap.size, 0, none⟩), w, .cells z.cells t, 0, ?_, .inl rfl, ?_, by simp [tr, Mp.ins]⟩
 · unfold execOp; rw [ho]; simp only [Sem.run_bind, Instr.alloc, hzr, Result.andThen_ok, newVar, newRow, run_newObj, Sem.run_pure]
   rfl
 · have hl := cU hzt; refine lF.new (by simp only [Nat.zero_mul, Nat.add_zero]; rw [<- hn]; simpa using hl) λ j hj => ?_
   have hj' : j < zs.cells.length := by rw [hn]; exact hj
   obtain ⟨v', h1, h2⟩ := iU hzt j _ (List.getElem?_eq_getElem hj'); exact ⟨_, v', (Zs.at_tr hsm hj').trans (List.getElem?_eq_getElem hj'), fH (Mp.ins_le hk) _ _ h2, by simpa using h1⟩
theorem bVF {t : TypeId} {x : Operand} {x' : aU} (ho : o.op = .box t x) (hρ : bQ m o.op.operands ρ ρ') (hx : aD x x' = true)
   (he : cG (.box x') ρ h.get = some r) : nJ P ρ' o m w r := by
 have h1 := hρ x (by simp [ho, Op.operands]) x' hx
 simp only [cG, aM] at he; cases he; intro k hk; refine ⟨.pointer (some ⟨w.heap.size, 0, none⟩), w, .cells (ρ' x).cells t, 0, ?_, .inl rfl, ?_, by simp [tr, Mp.ins]⟩
 · unfold execOp; rw [ho]; simp only [Sem.run_bind, Instr.box, Result.andThen_ok, newVar, newRow, run_newObj, Sem.run_pure]
   rfl
 · exact lF.newL (lQ (Mp.ins_le hk) _ _ (aCB h1))
theorem jJ {α : Type} (l : List α) : ∀ n, (iI l n).length = n * l.length
 | 0 => by simp [iI]
 | n + 1 => by simp [iI, jJ l n, Nat.add_mul]; omega
theorem aCS {α : Type} (l : List α) : ∀ (n j : Nat), j < n * l.length -> (iI l n)[j]? = l[j % l.length]?
 | 0, j, h => by omega
 | n + 1, j, h => by
   simp only [iI]; by_cases hj : j < l.length
   · rw [List.getElem?_append_left hj, Nat.mod_eq_of_lt hj]
   · have h2 : j - l.length < n * l.length := by
       rw [Nat.add_mul] at h; omega
     rw [List.getElem?_append_right (by omega), aCS l n _ h2]
     congr 1
     rw [<- Nat.mod_eq_sub_mod (by omega)]
theorem xN {m : Mp} : ∀ {vs : List DV} {us : List Value}, vs.length = us.length -> (∀ (j : Nat) (v : DV), vs[j]? = some v -> ∃ u, us[j]? = some u /\ tr m v = some u) -> trs m vs = some us
 | [], [], _, _ => rfl
 | v :: vs, u :: us, hl, h => by
   obtain ⟨u', h1, h2⟩ := h 0 v rfl; simp at h1; subst h1; exact dB.2 ⟨u, us, h2, xN (by simpa using hl) (λ j x hj => by
     obtain ⟨y, h3, h4⟩ := h (j + 1) x (by simpa using hj)
     exact ⟨y, by simpa using h3, h4⟩), rfl⟩
 | [], _ :: _, hl, _ => by simp at hl
 | _ :: _, [], hl, _ => by simp at hl
theorem aSs {m : Mp} {zs : List DV} {z : Array Value} (hz : trs m zs = some z.toList) (n : Nat) : trs m (iI zs n) = some (madeCells z (n * z.size)).toList := by
 have hl : z.size = zs.length := by simpa using cU hz
 refine xN (by rw [jJ]; simp [size_madeCells, hl]) λ j v hj => ?_
 have hlt : j < n * zs.length := by
   have := List.getElem?_eq_some_iff.1 hj; obtain ⟨h1, _⟩ := this
   rwa [jJ] at h1
 rw [aCS zs n j hlt] at hj; obtain ⟨u, h1, h2⟩ := iU hz _ v hj; refine ⟨u, ?_, h2⟩; rw [<- hl] at h1 hlt; unfold madeCells; have hm : j % z.size < z.size := Nat.mod_lt _ (Nat.pos_of_ne_zero λ h0 => by rw [h0] at hlt; omega)
 simp only [Array.getElem?_toList, Array.getElem?_map, Array.getElem?_range]; simp only [hlt, if_true, Option.map_some]; rw [Array.getElem?_toList, Array.getElem?_eq_getElem hm] at h1; rw [<- h1, getElem!_pos z _ hm]
theorem bVE {t e : TypeId} {n es : Nat} {ps : Array (Nat × Operand)} {zs : List DV} {qs : List (Nat × Nat × aU)} (ho : o.op = .buildSlice t n ps) (ht : P.underlying t = some (.slice e)) (hs : gW P e es = true) (hlim : n * es <= 16777216) (hz : kH P e zs = true) (hze : zs.length = es)
   (hp : lT P (jT es) ps.toList qs = true) (hρ : bQ m o.op.operands ρ ρ') (he : cG (.bsl n es zs qs) ρ h.get = some r) : nJ P ρ' o m w r := by
 simp only [cG] at he; cases hf : fG (iI zs n) (qs.map λ p => (p.1, p.2.1, ev ρ p.2.2)) with
 | none => rw [hf] at he; cases he
 | some cs =>
   rw [hf] at he; cases he; intro k hk; obtain ⟨z, hzr, hzt⟩ := kX (P := P) (m := m) (w := w) hz; have hzs : z.cells.size = es := by rw [<- hze]; simpa using cU hzt
   have hmade := aSs hzt n; rw [hzs] at hmade; obtain ⟨cells', hfl, htr⟩ := zQ (P := P) hρ (place := jT es) (λ x hx => by simp only [ho, Op.operands]; simp only [List.mem_toArray, List.mem_map]; exact ⟨x, hx, rfl⟩) hp hmade hf
   have hcl : cs.length = n * es := by
     have : ∀ {a : List DV} {l : List (Nat × Nat × DV)} {b : List DV}, fG a l = some b -> b.length = a.length := by
       intro a l
       induction l generalizing a with
       | nil => intro b hb; simp only [fG, Option.some.injEq] at hb; rw [hb]
       | cons q l ih =>
         intro b hb; obtain ⟨off, n, v⟩ := q; simp only [fG] at hb; obtain ⟨_, hb2⟩ := aI hb; rw [ih hb2, yX]
     rw [this hf, jJ, hze]
   refine ⟨.slice (some ⟨w.heap.size, 0, none⟩) n n, w, .cells cells' e, 0, ?_, .inl rfl, ?_, by simp [tr, Mp.ins]⟩
   · unfold execOp; rw [ho]; simp only [Sem.run_bind, Instr.buildSlice, run_underlying ht, Result.andThen_ok, cE hs]; rw [if_neg (by omega)]
     have hps : (ps.map λ x => (x.1, ρ' x.2)).toList = ps.toList.map λ p => (p.1, ρ' p.2) := by simp
     by_cases h0 : n * es = 0
     · rw [if_pos h0]; have hmc : (Array.range (n * es)).map (λ x => (#[] : Array Value)[x % (#[] : Array Value).size]!) = madeCells z.cells (n * es) := by rw [h0]; simp [madeCells]
       simp only [Sem.run_bind, Sem.run_pure, Result.andThen_ok]; rw [hmc, hps, show (λ i => some (i * es, es)) = jT es from rfl, hfl]
       simp only [Sem.run_bind, newRow, run_newObj, Result.andThen_ok, Sem.run_pure]
       rfl
     · rw [if_neg h0]; simp only [Sem.run_bind, Sem.run_pure, Result.andThen_ok, hzr]; rw [show ((Array.range (n * es)).map λ x => z.cells[x % z.cells.size]!) = madeCells z.cells (n * es) from rfl, hps, show (λ i => some (i * es, es)) = jT es from rfl, hfl]
       simp only [Sem.run_bind, newRow, run_newObj, Result.andThen_ok, Sem.run_pure]
       rfl
   · rw [<- hcl]; exact lF.newL (lQ (Mp.ins_le hk) _ _ htr)
theorem bVq {t e : TypeId} {es bytes : Nat} {zero : DV} {l c : Operand} {l' c' : aU} {i : TypeInfo} (ho : o.op = .makeSlice t l c) (ht : P.underlying t = some (.slice e)) (hi : P.info? e = some i) (h1 : i.size = 1) (hb : i.bytes = bytes) (hz : kH P e [zero] = true)
   (hρ : bQ m o.op.operands ρ ρ') (hl : aD l l' = true) (hc : aD c c' = true) (he : cG (.mks es bytes zero l' c') ρ h.get = some r) : nJ P ρ' o m w r := by
 have t1 := hρ l (by simp [ho, Op.operands]) l' hl
 have t2 := hρ c (by simp [ho, Op.operands]) c' hc
 simp only [cG] at he; split at he
 · rename_i k1 a k2 b e1 e2; rw [e1] at t1; rw [e2] at t2; obtain ⟨hcond, he⟩ := aI he; rw [Bool.and_eq_true, Bool.and_eq_true, Nat.blt_eq, Nat.blt_eq] at hcond; obtain ⟨⟨hab, hby⟩, hbb⟩ := hcond; have hab := Nat.le_of_ble_eq_true hab; cases he; intro k hk; obtain ⟨z, hzr, hzt⟩ := kX (P := P) (m := m) (w := w) hz; unfold kH at hz; rw [hi] at hz; simp only [] at hz; cases hzz : i.zero with
   | none => rw [hzz] at hz; cases hz
   | some z' =>
     rw [hzz] at hz; have hzt' := vE (λ v d => tG m 3 v d) hz
     have hzs : z'.cells.size = 1 := by have := cU hzt'; simpa using this
     have hrun := run_make (P := P) w t e i z' ht hi hzz k1 k2 (Int.ofNat a) (Int.ofNat b) (Int.natCast_nonneg a) (by simp only [Int.ofNat_eq_natCast]; omega)
       (by rw [hb]; simp only [Int.ofNat_eq_natCast]; rw [<- Int.natCast_mul]; omega) (by simp only [Int.ofNat_eq_natCast]; omega)
     refine ⟨.slice (some ⟨w.heap.size, 0, none⟩) a b, w, .cells (madeCells z'.cells (b * i.size)) e, 0, ?_, .inl rfl, ?_, by simp [tr, Mp.ins]⟩
     · unfold execOp; rw [ho]; simp only [Sem.run_bind, fN t1, fN t2, hrun, Result.andThen_ok, Sem.run_pure]
       rfl
     · refine lF.new (by simp [size_madeCells, h1]) λ j hj => ?_
       obtain ⟨u, hu1, hu2⟩ := iU hzt' 0 zero rfl; refine ⟨zero, u, Tr.at_full _ (by show j + 1 < 2 ^ 48; simp only [] at hj; omega), fH (Mp.ins_le hk) _ _ hu2, ?_⟩
       simp only [] at hj; unfold madeCells; rw [h1, Nat.mul_one]; simp only [Array.getElem?_map, Array.getElem?_range, hj, if_true, Option.map_some, hzs, Nat.mod_one]; rw [Array.getElem?_toList, Array.getElem?_eq_getElem (by omega)] at hu1
       rw [<- hu1, getElem!_pos z'.cells 0 (by omega)]
 · cases he
theorem bVr {t : TypeId} (ho : o.op = .makeMap t none) (he : cG .mkm ρ h.get = some r) : nJ P ρ' o m w r := by
 cases he; intro k hk; refine ⟨.map (some w.heap.size), w, .map #[] 0, 0, ?_, .inl rfl, ⟨#[], jC _ _, trivial⟩, by simp [tr, Mp.ins]⟩
 unfold execOp; rw [ho]; simp [Instr.makeMap]
end
end Go.DI
namespace Go.DI
open Go.RowKit
section
variable {P : Program} {N0 : Nat} {w0 : World} {m : Mp} {h : H} {w : World} {ρ : Tr DV} {ρ' : Operand -> Value} {o : Oper} {r : dT}
theorem aMh (w : World) (c : Array Value) (el : TypeId) (off : Nat) : (w.alloc (.cells c el)).freeze ⟨w.heap.size, off, none⟩ 1 = w.alloc (.cells c el (off, off + 1)) := by
 unfold World.freeze; rw [if_neg (by omega)]
 unfold World.alloc
 congr 1
 apply Array.ext
 · simp
 · intro i h1 h2; simp only [Array.size_modify, Array.size_push] at h1; rw [Array.getElem_modify]; by_cases hi : i = w.heap.size
   · subst hi; simp
   · rw [if_neg (by simp only []; omega)]
     rw [Array.getElem_push_lt (by omega), Array.getElem_push_lt (by omega)]
theorem xO (s : Ln) (hok : aP s = true) : ((gG s).data.map λ b => Value.int .u8 ((b.toNat : Nat) : Int)).toList = s.map λ b => Value.int .u8 ((b : Nat) : Int) := by
 simp only [gG, Array.toList_map, List.map_map]; apply List.map_congr_left; intro b hb; have := (gT s).1 hok b hb; simp only [Function.comp]; rw [UInt8.toNat_ofNat', Nat.mod_eq_of_lt this]
theorem bVk {s t : TypeId} {x : Operand} {x' : aU} {e : TypeId} (ho : o.op = .convert s t x) (hs : P.underlying s = some .string) (ht : P.underlying t = some (.slice e)) (he8 : P.underlying e = some (.int .u8)) (hρ : bQ m o.op.operands ρ ρ') (hx : aD x x' = true)
   (he : cG (.s2b x') ρ h.get = some r) : nJ P ρ' o m w r := by
 have h1 := hρ x (by simp [ho, Op.operands]) x' hx
 simp only [cG] at he; split at he
 · rename_i str e1; rw [e1] at h1; obtain ⟨hok, e2⟩ := jI h1; rw [aM] at he; cases he; intro k hk; obtain ⟨cap, hcap, hrun⟩ : ∃ cap, str.length <= cap /\ (choose (.appendCap str.length 0 e)).run P w = .ok cap w.drew := by
     refine ⟨_, ?_, by rw [run_choose]; rfl⟩
     simp [Question.cut]
   let cs : Array Value := ((gG str).data.map λ b => Value.int .u8 ((b.toNat : Nat) : Int)) ++ Array.replicate (cap - str.length) (.int .u8 0)
   have hcs : cs.size = cap := by
     have : (gG str).data.size = str.length := jX str; simp [cs, this]; omega
   refine ⟨.slice (some ⟨w.heap.size, 0, none⟩) str.length cap, w.drew, .cells cs e (cap, cap + 1), cap - str.length, ?_, .inr rfl, ?_, ?_⟩
   · unfold execOp; rw [ho]; simp only [Sem.run_bind, convert, run_underlying hs, run_underlying ht, Result.andThen_ok, e2, run_underlying he8, Conv.stringToBytes, jX, hrun, newRow, run_newObj]; rw [show ({ w.drew with heap := w.drew.heap.push (.cells cs e) } : World) = w.drew.alloc (.cells cs e) from rfl]
     simp only [markStringish, Sem.run_bind, run_shape, Result.andThen_ok, Sem.run_pure]; have hsh : (w.drew.alloc (.cells cs e)).shape? w.drew.heap.size = some (e, cap) := by
       unfold World.shape?; rw [jC]; simp [hcs]
     rw [hsh]; simp only [run_freeze, Result.andThen_ok, Sem.run_pure]; rw [aMh]
     rfl
   · refine ⟨⟨cs, e, (cap, cap + 1), jC _ _, by simp only [Nat.mul_one]; rw [hcs]; omega, λ j hj => ?_⟩, λ _ j hj => ?_, λ hp => by cases hp⟩
     · simp only [] at hj; have hb := (gT str).1 hok; refine .inl ⟨.int .u8 (str[j] : Int), .int .u8 (str[j] : Int), by rw [Tr.at_ofL]; simp [List.getElem?_eq_getElem hj], rfl, ?_⟩
       have h3 := xO str hok; have hlt : j < ((gG str).data.map λ b => Value.int .u8 ((b.toNat : Nat) : Int)).size := by
         have : (gG str).data.size = str.length := jX str
         simpa [this] using hj
       simp only [cs, Nat.zero_add]; rw [Array.getElem?_append_left hlt, <- Array.getElem?_toList, h3]; simp [List.getElem?_eq_getElem hj]
     · simp only [Nat.mul_one] at hj; unfold World.frozen?; simp only []; rw [show (w.drew.alloc (.cells cs e (cap, cap + 1))).heap[w.heap.size]? = some (.cells cs e (cap, cap + 1)) from jC w.drew _]
       simp; omega
   · simp only [tr, Mp.ins, if_true]
     congr 2
     omega
 · cases he
theorem bVf {t xt : TypeId} {ok : Bool} {zero : DV} {x : Operand} {x' : aU} (ho : o.op = .typeAssert x xt t ok) (hu : uF P t (λ d => match d with | .interface _ => false | _ => true) = true)
   (hzz : ok = true -> ∃ i, P.info? t = some i /\ ∃ z, i.zero = some z /\ aHl 3 z zero = true) (hρ : bQ m o.op.operands ρ ρ') (hx : aD x x' = true) (he : cG (.tas t zero ok x') ρ h.get = some r) : nJ P ρ' o m w r := by
 obtain ⟨d, hd, hni⟩ := cI hu; have h1 := hρ x (by simp [ho, Op.operands]) x' hx
 have hzr : ok = true -> ∃ z, (zeroValue t).run P w = .ok z w /\ tr m zero = some z := λ hok => by
   obtain ⟨i, hi, z, hz1, hz2⟩ := hzz hok; exact ⟨z, by unfold zeroValue typeInfo; simp [hi, hz1], tG m 3 z zero hz2⟩
 have hfail : ok = true -> (ρ' x = .nilIface \/ ∃ u v, ρ' x = .iface u v /\ u ≠ t) -> ∃ v', (execOp ρ' o).run P w = .ok (.value v') w /\ tr m (.tup [zero, .bool false]) = some v' := by
   intro hok hx; obtain ⟨z, hz1, hz2⟩ := hzr hok; refine ⟨.tuple #[z, .bool false], ?_, by simp [tr, trs, hz2]⟩
   unfold execOp; rw [ho]; subst hok; rcases hx with hx | ⟨u, v, hx, hne⟩
   · simp only [Sem.run_bind, Instr.typeAssert, run_underlying hd, Result.andThen_ok, hx]; cases d <;> simp_all
   · simp only [Sem.run_bind, Instr.typeAssert, run_underlying hd, Result.andThen_ok, hx]; cases d <;> simp_all
 simp only [cG] at he; split at he
 · rename_i e1; rw [e1] at h1; simp only [tr, Option.some.injEq] at h1; obtain ⟨hok, he⟩ := aI he; cases he; exact hfail hok (.inl h1.symm)
 · rename_i u v e1; rw [e1] at h1; obtain ⟨v', hv, e2⟩ := aAy h1; by_cases hu : u = t
   · subst hu; rw [show Nat.beq u u = true from Nat.beq_refl u] at he
     cases he; cases ok
     · refine ⟨v', ?_, hv⟩; unfold execOp; rw [ho]; simp only [Sem.run_bind, Instr.typeAssert, run_underlying hd, Result.andThen_ok, e2]; cases d <;> simp_all
     · refine ⟨.tuple #[v', .bool true], ?_, by simp [tr, trs, hv]⟩
       unfold execOp; rw [ho]; simp only [Sem.run_bind, Instr.typeAssert, run_underlying hd, Result.andThen_ok, e2]; cases d <;> simp_all
   · rw [show Nat.beq u t = false from by rw [Bool.eq_false_iff]; intro hh; exact hu (Nat.eq_of_beq_eq_true hh)] at he
     obtain ⟨hok, he⟩ := aI (b := ok) he; cases he; exact hfail hok (.inr ⟨u, v', e2, hu⟩)
 · cases he
end
end Go.DI
namespace Go.DI
open Go.RowKit
def rB : Prm -> String
 | .idx => "internal/bytealg.IndexByteString"
 | .cnt => "internal/bytealg.CountString"
def vU : Prm -> Array Value -> Sem Value
 | .idx => Extern.BytealgIndexByte.indexByte
 | .cnt => Extern.BytealgCount.count
def aCn (P : Program) (f : FuncId) (k : Prm) : Bool := match P.funcs[f]? with
 | some fn => fn.body.isNone && (fn.name == rB k) && (fn.origin == "" || fn.origin == rB k)
 | none => false
section
variable {P : Program} {N0 : Nat} {w0 : World} {m : Mp} {h : H} {w : World} {ρ : Tr DV} {ρ' : Operand -> Value} {o : Oper} {r : dT}
theorem aEI {g : FuncId} {k : Prm} (hc : aCn P g k = true) (args : Array Value) (w : World) :
   (callFunc g args).run P w = ((vU k args).run P w).andThen λ v w => .ok (.value v) w := by
 unfold aCn at hc; cases hf : P.funcs[g]? with
 | none => rw [hf] at hc; cases hc
 | some fn =>
   rw [hf] at hc; simp only [Bool.and_eq_true, Bool.or_eq_true, beq_iff_eq] at hc; obtain ⟨⟨h1, h2⟩, h3⟩ := hc; have hne : (fn.name == "runtime.NumGoroutine") = false := by rw [h2]; cases k <;> decide
   have l1 : ∀ k : Prm, Extern.allNextRows.lookup (rB k) = none := by intro k; cases k <;> kernel_rfl
   have l2 : Extern.allNextRows.lookup "" = none := by kernel_rfl
   have hn : Extern.findNext fn = none := by
     unfold Extern.findNext; rw [h2]; rcases h3 with h3 | h3 <;> rw [h3] <;> simp [l1, l2]
   have g1 : ∀ k : Prm, Extern.allGenericRows.lookup (rB k) = none := by intro k; cases k <;> kernel_rfl
   have g2 : ∀ k : Prm, Extern.allTypedRows.lookup (rB k) = none := by intro k; cases k <;> kernel_rfl
   have g3 : ∀ k : Prm, Extern.allRows.lookup (rB k) = some (vU k) := by intro k; cases k <;> kernel_rfl
   have hx : Extern.find fn = some (vU k) := by
     unfold Extern.find; rw [h2]; simp [g1, g2, g3]
   unfold callFunc; simp only [Sem.run_bind, run_program, Result.andThen_ok, hf, hne, Bool.false_eq_true, if_false, h1, if_true, run_mark, hn, hx]; simp
theorem aOP {c : Nat} (hc : c < 256) : ∀ {s : Ln}, aP s = true -> Lib.indexByte (s.map UInt8.ofNat) (UInt8.ofNat c) = aJK c s /\ -1 <= aJK c s
 | [], _ => ⟨rfl, by show (-1 : Int) <= -1; omega⟩
 | b :: s, h => by
   simp only [aP, Bool.and_eq_true, Nat.blt_eq] at h; obtain ⟨h1, h2⟩ := aOP hc h.2; simp only [List.map_cons, Lib.indexByte, aJK]; by_cases e : b = c
   · subst e; simp [Nat.beq_refl]
   · have e1 : (UInt8.ofNat b == UInt8.ofNat c) = false := by
       rw [beq_eq_false_iff_ne]; exact λ hh => e (vV h.1 hc hh)
     have e2 : Nat.beq b c = false := by rw [Bool.eq_false_iff]; intro hh; exact e (Nat.eq_of_beq_eq_true hh)
     rw [e1, e2, h1]; simp only [Bool.false_eq_true, if_false, cond_false]; cases hf : aJK c s with
     | ofNat n =>
       have : ((Int.ofNat n) == -1) = false := by rw [beq_eq_false_iff_ne]; intro hh; cases hh
       rw [this]; simp; omega
     | negSucc n =>
       rw [hf] at h2; have : n = 0 := by omega
       subst this; simp
theorem aOQ {c : Nat} (hc : c < 256) : ∀ {s : Ln}, aP s = true -> Lib.countByte (s.map UInt8.ofNat) (UInt8.ofNat c) = aMn c s
 | [], _ => rfl
 | b :: s, h => by
   simp only [aP, Bool.and_eq_true, Nat.blt_eq] at h; have ih := aOQ hc h.2; unfold Lib.countByte at ih ⊢; simp only [List.map_cons, List.count_cons, aMn]; rw [ih]; by_cases e : b = c
   · subst e; simp [Nat.beq_refl]
   · have e1 : (UInt8.ofNat b == UInt8.ofNat c) = false := by
       rw [beq_eq_false_iff_ne]; exact λ hh => e (vV h.1 hc hh)
     have e2 : Nat.beq b c = false := by rw [Bool.eq_false_iff]; intro hh; exact e (Nat.eq_of_beq_eq_true hh)
     rw [e1, e2]; simp
theorem yU (c : Nat) : (Int.ofNat c).toNat.toUInt8 = UInt8.ofNat c := rfl
theorem bVl {k : Prm} {c : Call} {g : FuncId} {x y : Operand} {x' y' : aU} (ho : o.op = .call c) (hcal : c.callee = .value (.func g)) (ha : c.args = #[x, y]) (hp : aCn P g k = true) (hρ : bQ m o.op.operands ρ ρ')
   (hx : aD x x' = true) (hy : aD y y' = true) (he : cG (.prm k x' y') ρ h.get = some r) : nJ P ρ' o m w r := by
 have hf : ρ' (.func g) = .func (.func g) #[] #[] := by
   have := hρ (.func g) (by simp [ho, Op.operands, Call.operands, hcal]) (.c (.fn (.func g) [] [])) (by unfold aD; simp)
   simpa [ev, tr, trs] using this.symm
 have h1 := hρ x (by simp [ho, Op.operands, Call.operands, ha]) x' hx
 have h2 := hρ y (by simp [ho, Op.operands, Call.operands, ha]) y' hy
 simp only [cG] at he; split at he
 · rename_i s n e1 e2; rw [e1] at h1; rw [e2] at h2; obtain ⟨hok, hs⟩ := jI h1; have hi := fN h2; obtain ⟨hn, he⟩ := aI he; rw [Nat.blt_eq] at hn; have hrun : (execOp ρ' o).run P w = ((vU k #[ρ' x, ρ' y]).run P w).andThen λ v w => .ok (.value v) w := by
     unfold execOp; rw [ho]; have hof : ∀ (args : Array Value) (w : World), (Deferred.ofValue (.func (.func g) #[] #[]) args).run P w = .ok { target := .fn (.func g) #[], args := #[] ++ args } w := λ _ _ => rfl
     simp only [Sem.run_bind, resolve, hcal]; rw [show ρ' (.func g) = .func (.func g) #[] #[] from hf, hof]
     simp only [Result.andThen_ok, invoke, ha]; rw [aEI hp]; simp
   cases k
   · simp only [lU] at he; cases he; refine ⟨_, by rw [hrun, hs, hi]; simp only [vU]; rw [Lib.run_indexByteString]; rfl, ?_⟩
     rw [yU]; simp only [tr]; rw [show (gG s).data.toList = s.map UInt8.ofNat from by simp [gG], (aOP hn hok).1]
   · simp only [aM] at he; cases he; refine ⟨_, by rw [hrun, hs, hi]; simp only [vU]; rw [Lib.run_countString]; rfl, ?_⟩
     rw [yU]; simp only [tr]; rw [show (gG s).data.toList = s.map UInt8.ofNat from by simp [gG], aOQ hn hok]
     rfl
 · cases he
theorem aKb {len k cap' : Nat} {lo : Option DV} {hi : DV} {K : Nat -> Nat -> Option DV} {v : DV} {lo' : Option Value} {hv : Value} {kd : IntKind} (hk : k <= cap') (hb : dC len k lo (some hi) K = some v)
   (hlo : (lo = none /\ lo' = none) \/ ∃ x y, lo = some x /\ lo' = some y /\ tr m x = some y) (hhi : tr m hi = some hv) :
   ∃ l h, l <= h /\ h <= k /\ K l h = some v /\ (Instr.sliceBounds true len cap' lo' (some hv) (some (.int kd (.ofNat k)))).run P w = .ok (l, h, k) w := by
 have hbd : ∀ (kd : IntKind) (a y : Nat) (c : BoundsCode), a <= y -> (Instr.sliceBound (.int kd (Int.ofNat a)) y c).run P w = .ok a w := by
   intro kd a y c ha; unfold Instr.sliceBound; simp only [asIntOf, Sem.run_bind, Sem.run_pure, Result.andThen_ok]; rw [if_pos ⟨Int.natCast_nonneg a, by simpa using ha⟩]
   simp
 unfold dC at hb; simp only [dHi] at hb; split at hb
 · rename_i heq; cases heq
 · rename_i kh h heq; cases heq; have e1 := fN hhi; subst e1; obtain ⟨h1, h2⟩ := aI hb; have h1 := Nat.le_of_ble_eq_true h1; unfold Instr.sliceBounds; rcases hlo with ⟨rfl, rfl⟩ | ⟨x, y, rfl, rfl, hxy⟩
   · simp only [dLo] at h2; obtain ⟨h3, h4⟩ := aI h2; refine ⟨0, h, Nat.zero_le _, h1, h4, ?_⟩; simp only [Sem.run_bind, hbd _ _ _ _ hk, Result.andThen_ok, hbd _ _ _ _ h1, Sem.run_pure]
   · unfold dLo at h2; split at h2
     · rename_i heq; cases heq
     · rename_i kl l heq; cases heq; have e2 := fN hxy; subst e2; obtain ⟨h3, h4⟩ := aI h2; have h3 := Nat.le_of_ble_eq_true h3; refine ⟨l, h, h3, h1, h4, ?_⟩; simp only [Sem.run_bind, hbd _ _ _ _ hk, Result.andThen_ok, hbd _ _ _ _ h1, hbd _ _ _ _ h3, Sem.run_pure]
     · cases h2
 · cases hb
theorem kY {t e : TypeId} {es : Nat} {a : Option Addr} {len cap l k c : Nat} {lo hi mx : Option Value} (ht : P.underlying t = some (.slice e)) (hs : gW P e es = true)
   (hb : (Instr.sliceBounds true len cap lo hi mx).run P w = .ok (l, k, c) w) :
   (Instr.sliceAt t (.slice a len cap) lo hi mx).run P w = .ok (.slice (if c = l then a else a.map (·.add (l * es))) (k - l) (c - l)) w := by
 simp only [Instr.sliceAt, Sem.run_bind, run_underlying ht, Result.andThen_ok, Instr.slice, hb, cE hs, Sem.run_pure]
theorem bVh {t e : TypeId} {es : Nat} {x hi mx : Operand} {lo : Option Operand} {x' hi' mx' : aU} {lo' : Option aU} (ho : o.op = .slice t x lo (some hi) (some mx)) (ht : P.underlying t = some (.slice e)) (hs : gW P e es = true) (hρ : bQ m o.op.operands ρ ρ')
   (hx : aD x x' = true) (hl : jS lo lo' = true) (hh : aD hi hi' = true) (hm : aD mx mx' = true) (he : cG (.slM es x' lo' hi' mx') ρ h.get = some r) : nJ P ρ' o m w r := by
 have h1 := hρ x (by simp [ho, Op.operands]) x' hx
 have h2 := xY hρ (lo := lo) (λ y hy => by subst hy; simp [ho, Op.operands]) hl
 have h3 := hρ hi (by simp [ho, Op.operands]) hi' hh
 have h4 := hρ mx (by simp [ho, Op.operands]) mx' hm
 have hex : ∀ v, (Instr.sliceAt t (ρ' x) (lo.map ρ') (some (ρ' hi)) (some (ρ' mx))).run P w = .ok v w -> (execOp ρ' o).run P w = .ok (.value v) w := by
   intro v hv; unfold execOp; rw [ho]; simp only [Sem.run_bind, Option.map_some, hv, Result.andThen_ok, Sem.run_pure]
 simp only [cG] at he; split at he
 · rename_i kd k e0; rw [e0] at h4; have e5 := fN h4; split at he
   · rename_i e1; rw [e1] at h1; simp only [tr, Option.some.injEq] at h1; obtain ⟨hk0, he⟩ := aI he; have hk0 := Nat.eq_of_beq_eq_true hk0; subst hk0; obtain ⟨v, hv, rfl⟩ := dA he; obtain ⟨l, k, hlk, hk, hv, hrun⟩ := aKb (P := P) (w := w) (kd := kd) (Nat.le_refl 0) hv h2 h3; cases hv; refine ⟨.slice none 0 0, hex _ ?_, rfl⟩; rw [<- h1, e5, kY ht hs hrun]; have : l = 0 := by omega
     subst this; have : k = 0 := by omega
     subst this
     rfl
   · rename_i b off len cap op e1; rw [e1] at h1; obtain ⟨j, hj, e2⟩ := eR h1; obtain ⟨hkc, he⟩ := aI he; have hkc := Nat.le_of_ble_eq_true hkc; obtain ⟨v, hv, rfl⟩ := dA he; obtain ⟨l, q, hlk, hk, hv, hrun⟩ := aKb (P := P) (w := w) (kd := kd) (cap' := if op then cap + j.ex else cap) (by split <;> omega) hv h2 h3
     by_cases hlt : l < k
     · rw [show Nat.blt l k = true from by rw [Nat.blt_eq]; exact hlt] at hv
       simp only [cond_true, aM, Option.some.injEq] at hv; subst hv; refine ⟨.slice (some ⟨j.r, j.sh + (off + l * es), none⟩) (q - l) (k - l), hex _ ?_, by simp [tr, hj]⟩
       rw [e2, e5, kY ht hs hrun, if_neg (by omega)]
       simp only [Option.map_some, iE, Nat.add_assoc]
     · have hlc : l = k := by omega
       have hkl : q = l := by omega
       rw [show Nat.blt l k = false from by rw [Bool.eq_false_iff]; intro hh'; rw [Nat.blt_eq] at hh'; omega] at hv
       simp only [cond_false, Option.some.injEq] at hv; subst hv; refine ⟨.slice (some ⟨j.r, j.sh + off, none⟩) 0 0, hex _ ?_, by simp [tr, hj]⟩
       rw [e2, e5, kY ht hs hrun]; simp [hlc, hkl]
   · cases he
 · cases he
def qM (P : Program) (kt : nW) (t : TypeId) : Bool := match kt with
 | .ptr => false
 | .bool => oE P .bool t
 | .int => oE P .int t
 | .str => oE P .str t
def mV (kt : nW) (d : TypeDesc) : Prop := match kt with
 | .bool => d = .bool
 | .int => ∃ k, d = .int k
 | .str => d = .string
 | .ptr => False
theorem qE {kt : nW} {t : TypeId} (h : qM P kt t = true) : ∃ d, P.underlying t = some d /\ mV kt d := by
 cases kt <;> simp only [qM, oE] at h
 · obtain ⟨d, h1, h2⟩ := cI h; cases d <;> first | exact ⟨_, h1, rfl⟩ | cases h2
 · obtain ⟨d, h1, h2⟩ := cI h; cases d <;> first | exact ⟨_, h1, _, rfl⟩ | cases h2
 · obtain ⟨d, h1, h2⟩ := cI h; cases d <;> first | exact ⟨_, h1, rfl⟩ | cases h2
 · cases h
theorem zZ {kt : nW} {d : TypeDesc} {a b : DV} {a' b' : Value} {c : Bool} (hd : mV kt d) (h : nQ kt a b = some c) (ha : tr m a = some a') (hb : tr m b = some b') :
   Instr.sameNow d a' b' = some c /\ (c = true -> Instr.sameBits 10000 b' a' = true) := by
 unfold nQ at h; split at h
 · simp only [mV] at hd; subst hd; have e1 := iJ ha; have e2 := iJ hb; subst e1; subst e2; rename_i x y; cases h; refine ⟨?_, λ hc => ?_⟩
   · cases x <;> cases y <;> rfl
   · cases x <;> cases y <;> first | rfl | cases hc
 · obtain ⟨k0, rfl⟩ := hd; have e1 := fN ha; have e2 := fN hb; subst e1; subst e2; obtain ⟨hk, h2⟩ := aI h
   clear h
   have hk := of_decide_eq_true hk; subst hk; cases h2; rename_i x y; refine ⟨by simp [Instr.sameNow, oZ], λ hc => ?_⟩
   rw [oZ, beq_iff_eq] at hc; subst hc; simp [Instr.sameBits]
 · simp only [mV] at hd; subst hd; obtain ⟨k1, e1⟩ := jI ha; obtain ⟨k2, e2⟩ := jI hb; subst e1; subst e2; cases h; refine ⟨?_, λ hc => ?_⟩
   · simp only [Instr.sameNow, Option.some.injEq]; rw [xQ, <- aCa k1 k2, beq_toListBytes]
   · rw [xQ, beq_iff_eq] at hc; subst hc; simp only [Instr.sameBits]; rw [beq_toListBytes]; simp
 · cases h
theorem aFG {kt : nW} {d : TypeDesc} {k : DV} {k' : Value} (hd : mV kt d) (hk : tr m k = some k') : ∀ {ds : List dJ} {es : List MapEntry} {i : Nat} {r : Option DV}, dG m ds es -> rH kt k ds = some r ->
   (r = none /\ Instr.findNow d k' es i = some none) \/ (∃ v v' j, r = some v /\ tr m v = some v' /\ Instr.findNow d k' es i = some (some (j, v')))
 | [], es, i, r, hr, h => by
   cases es with
   | nil => cases h; exact .inl ⟨rfl, rfl⟩
   | cons e es => cases hr
 | x :: ds, es, i, r, hr, h => by
   cases es with
   | nil => cases hr
   | cons e es =>
     obtain ⟨⟨h1, h2, h3⟩, h4⟩ := hr
     replace h : (match nQ kt k x.key with
       | some b => bif b then some (some x.val) else rH kt k ds
       | none => none) = some r := h
     split at h
     · rename_i b hb; have hs := (zZ hd hb hk h1).1; cases b with
       | true =>
         cases h; exact .inr ⟨x.val, e.val, i, rfl, h2, by simp [Instr.findNow, hs]⟩
       | false =>
         simp only [Instr.findNow, hs]; exact aFG hd hk h4 h
     · cases h
theorem fU {kt : nW} {key : TypeId} {d : TypeDesc} (hu : P.underlying key = some d) (hd : mV kt d) (b : Bool) (v : Value) : (Instr.checkKey b 10000 key v).run P w = .ok () w := by
 rw [show (10000 : Nat) = 9999 + 1 from rfl, Instr.checkKey]
 simp only [Sem.run_bind, run_underlying hu, Result.andThen_ok]; cases kt <;> simp only [mV] at hd
 · subst hd; rfl
 · obtain ⟨k, rfl⟩ := hd; rfl
 · subst hd; rfl
theorem bVu {t key elem : TypeId} {kt : nW} {z : DV} {ok : Bool} {x k : Operand} {x' k' : aU} (ho : o.op = .lookup t x k ok) (ht : P.underlying t = some (.map key elem)) (hkey : qM P kt key = true) (hw : bH N0 w0 m h w)
   (hz : ∃ zv, (zeroValue elem).run P w = .ok zv w /\ tr m z = some zv) (hρ : bQ m o.op.operands ρ ρ')
   (hx : aD x x' = true) (hk : aD k k' = true) (he : cG (.lkp kt z ok x' k') ρ h.get = some r) : nJ P ρ' o m w r := by
 have h1 := hρ x (by simp [ho, Op.operands]) x' hx
 have h2 := hρ k (by simp [ho, Op.operands]) k' hk
 obtain ⟨d, hu, hd⟩ := qE hkey; obtain ⟨zv, hz1, hz2⟩ := hz; simp only [cG] at he; have fin : ∀ (es : Array MapEntry) (q : Option DV), (ρ' x = .map none /\ es = #[] \/ ∃ b clock, ρ' x = .map (some b) /\ w.heap[b]? = some (.map es clock)) ->
     ((q = none /\ Instr.findNow d (ρ' k) es.toList 0 = some none) \/ (∃ v v' j, q = some v /\ tr m v = some v' /\ Instr.findNow d (ρ' k) es.toList 0 = some (some (j, v')))) ->
     r = (match q with
     | some v => .val (bif ok then .tup [v, .bool true] else v)
     | none => .val (bif ok then .tup [z, .bool false] else z)) -> nJ P ρ' o m w r := by
   intro es q hes hq hr; have hlook : ∀ v, (∃ j u ok', Instr.findNow d (ρ' k) es.toList 0 = some j /\ (match j with | some (_, v) => u = v /\ ok' = true | none => u = zv /\ ok' = false) /\ v = (if ok then .tuple #[u, .bool ok'] else u)) ->
       (Instr.lookup t (ρ' x) (ρ' k) ok).run P w = .ok v w := by
     intro v ⟨j, u, ok', hf, hj, hv⟩; unfold Instr.lookup; rcases hes with ⟨e1, rfl⟩ | ⟨b, clock, e1, e2⟩
     · rw [e1]; simp only [Sem.run_bind, run_underlying ht, Result.andThen_ok, Sem.run_pure, fU hu hd, Instr.findKey, run_underlying hu, hf]; cases j with
       | none =>
         obtain ⟨rfl, rfl⟩ := hj; simp [hz1, hv]
       | some p =>
         obtain ⟨p1, p2⟩ := p; obtain ⟨rfl, rfl⟩ := hj; simp [hv]
     · rw [e1]; simp only [Sem.run_bind, run_underlying ht, Result.andThen_ok, Sem.run_pure, MapKept.run_getObj_map e2, fU hu hd, Instr.findKey, run_underlying hu, hf]; cases j with
       | none =>
         obtain ⟨rfl, rfl⟩ := hj; simp [hz1, hv]
       | some p =>
         obtain ⟨p1, p2⟩ := p; obtain ⟨rfl, rfl⟩ := hj; simp [hv]
   have hex : ∀ v, (Instr.lookup t (ρ' x) (ρ' k) ok).run P w = .ok v w -> (execOp ρ' o).run P w = .ok (.value v) w := by
     intro v hv; unfold execOp; rw [ho]; simp only [Sem.run_bind, hv, Result.andThen_ok, Sem.run_pure]
   rcases hq with ⟨rfl, hq⟩ | ⟨v, v', j, rfl, hv, hq⟩
   · subst hr; refine ⟨_, hex _ (hlook _ ⟨none, zv, false, hq, ⟨rfl, rfl⟩, rfl⟩), ?_⟩; cases ok
     · exact hz2
     · simp [tr, trs, hz2]
   · subst hr; refine ⟨_, hex _ (hlook _ ⟨some (j, v'), v', true, hq, ⟨rfl, rfl⟩, rfl⟩), ?_⟩; cases ok
     · exact hv
     · simp [tr, trs, hv]
 split at he
 · rename_i e1; rw [e1] at h1; simp only [tr, Option.some.injEq] at h1; simp only [Option.map_some, Option.some.injEq] at he; exact fin #[] none (.inl ⟨h1.symm, rfl⟩) (.inl ⟨rfl, rfl⟩) he.symm
 · rename_i b e1; rw [e1] at h1; obtain ⟨i, hi, e2⟩ := mR h1; split at he
   · rename_i ds clock hg; obtain ⟨ob, hob, hrel, _⟩ := hw.has _ _ hi; rw [hg] at hob; cases hob; obtain ⟨es, hes, hents⟩ := hrel; cases hq : rH kt (ev ρ k') ds with
     | none => rw [hq] at he; cases he
     | some q =>
       rw [hq] at he; simp only [Option.map_some, Option.some.injEq] at he; exact fin es q (.inr ⟨i.r, clock, e2, hes⟩) (aFG hd h2 hents hq) he.symm
   · cases he
 · cases he
def aDQ (P : Program) (f : FuncId) : Bool := match P.funcs[f]? with
 | some fn => fn.body.isNone && (fn.origin == "slices.overlaps") && !(fn.name == "runtime.NumGoroutine") && (Extern.allNextRows.lookup fn.name).isNone && (Extern.allGenericRows.lookup fn.name).isNone &&
     (Extern.allTypedRows.lookup fn.name).isNone && (Extern.allRows.lookup fn.name).isNone && (match fn.params.toList with
       | tS :: _ => (match P.underlying tS with
         | some (.slice e) => (match P.info? e with
           | some i => i.size != 0
           | none => false)
         | _ => false)
       | [] => false)
 | none => false
theorem aEH {P : Program} (w : World) (ps rs : Array TypeId) (tS e : TypeId) (hps : ps[0]? = some tS) (ht : P.underlying tS = some (.slice e)) (size : Nat) (hz : ∀ w, (Go.sizeOf e).run P w = .ok size w)
   (a b : Addr) (la ca lb cb : Nat) (hne : a.block ≠ b.block) (tA tB : TypeId) (kA kB : Nat)
   (hsa : w.shape? a.block = some (tA, kA)) (hsb : w.shape? b.block = some (tB, kB)) (hkB : kB ≠ 0)
   (hfa : w.frozen? a = false) (hfe : w.frozen? { block := a.block, off := kA } = false) :
   (Extern.SlicesOverlaps.overlaps ps rs #[.slice (some a) la ca, .slice (some b) lb cb]).run P w = .ok (.bool false) w := by
 have hnb : (a.block != b.block) = true := by simpa using hne
 have hnb' : (a.block == b.block) = false := by simpa using hne
 change Sem.run P (α := Value) (do
   let some t := (ps : Array TypeId)[0]? | stuck "slices.overlaps: no parameter types"
   let .slice elem <- underlying t | stuck "slices.overlaps: slice type expected"
   let size <- sizeOf elem
   match (some a : Option Addr), (some b : Option Addr) with
   | some a, some b =>
     if la = 0 \/ lb = 0 \/ size = 0 then pure (Value.bool false)
     else if a.block != b.block && (<- frozen a) && (<- frozen b) then unsupported .addressObserved
     else do
       if a.block != b.block then do
         noView a; noView b
         if <- mayBeOne a b then return Value.bool ((<- choose (.extern "sameAddr.stringBytes" 2)) == 1)
       pure (Value.bool (a.block == b.block && a.off < b.off + lb * size && b.off < a.off + la * size))
   | _, _ => pure (Value.bool false)) w = _
 by_cases h0 : la = 0 \/ lb = 0 \/ size = 0
 · simp [hps, run_underlying ht, hz, h0]
 · cases kB with
   | zero => exact absurd rfl hkB
   | succ kB =>
     simp [hps, run_underlying ht, hz, h0, hnb, hnb', frozen, noView, viewAt, mayBeOne, stringish, shape, Sem.run, hsa, hsb, hfa, hfe]
theorem aGB {g : FuncId} (hc : aDQ P g = true) : ∃ ps rs tS e i, ps[0]? = some tS /\ P.underlying tS = some (.slice e) /\ P.info? e = some i /\ ∀ (args : Array Value) (w : World),
   (callFunc g args).run P w = ((Extern.SlicesOverlaps.overlaps ps rs args).run P w).andThen λ v w => .ok (.value v) w := by
 unfold aDQ at hc; cases hf : P.funcs[g]? with
 | none => rw [hf] at hc; cases hc
 | some fn =>
   rw [hf] at hc; simp only [Bool.and_eq_true, beq_iff_eq, Option.isNone_iff_eq_none, Bool.not_eq_true'] at hc; obtain ⟨⟨⟨⟨⟨⟨⟨h1, h2⟩, h3⟩, h4⟩, h5⟩, h6⟩, h7⟩, h8⟩ := hc; split at h8
   · rename_i tS _ hp; split at h8
     · rename_i e hu; split at h8
       · rename_i i hi; refine ⟨fn.params, fn.resultTypes, tS, e, i, by rw [<- Array.getElem?_toList, hp]; rfl, hu, hi, λ args w => ?_⟩
         have l2 : Extern.allNextRows.lookup "slices.overlaps" = none := by kernel_rfl
         have hn : Extern.findNext fn = none := by unfold Extern.findNext; rw [h2]; simp [h4, l2]
         have g1 : Extern.allGenericRows.lookup "slices.overlaps" = none := by kernel_rfl
         have g2 : Extern.allTypedRows.lookup "slices.overlaps" = some Extern.SlicesOverlaps.overlaps := by kernel_rfl
         have hx : Extern.find fn = some (Extern.SlicesOverlaps.overlaps fn.params fn.resultTypes) := by
           unfold Extern.find; rw [h2]; simp [h5, h6, h7, g1, g2]
         unfold callFunc; simp only [Sem.run_bind, run_program, Result.andThen_ok, hf, h3, Bool.false_eq_true, if_false, h1, if_true, run_mark, hn, hx]; simp [h1]
       · cases h8
     · cases h8
   · cases h8
theorem bVm {c : Call} {g : FuncId} {x y : Operand} {x' y' : aU} (ho : o.op = .call c) (hcal : c.callee = .value (.func g)) (ha : c.args = #[x, y]) (hp : aDQ P g = true) (hw : bH N0 w0 m h w) (hρ : bQ m o.op.operands ρ ρ')
   (hx : aD x x' = true) (hy : aD y y' = true) (he : cG (.ovl x' y') ρ h.get = some r) : nJ P ρ' o m w r := by
 have hf : ρ' (.func g) = .func (.func g) #[] #[] := by
   have := hρ (.func g) (by simp [ho, Op.operands, Call.operands, hcal]) (.c (.fn (.func g) [] [])) (by unfold aD; simp)
   simpa [ev, tr, trs] using this.symm
 have h1 := hρ x (by simp [ho, Op.operands, Call.operands, ha]) x' hx
 have h2 := hρ y (by simp [ho, Op.operands, Call.operands, ha]) y' hy
 obtain ⟨ps, rs, tS, e, i, q1, q2, q3, q4⟩ := aGB hp; have hrun : (execOp ρ' o).run P w = ((Extern.SlicesOverlaps.overlaps ps rs #[ρ' x, ρ' y]).run P w).andThen λ v w => .ok (.value v) w := by
   unfold execOp; rw [ho]; have hof : ∀ (args : Array Value) (w : World), (Deferred.ofValue (.func (.func g) #[] #[]) args).run P w = .ok { target := .fn (.func g) #[], args := #[] ++ args } w := λ _ _ => rfl
   simp only [Sem.run_bind, resolve, hcal]; rw [show ρ' (.func g) = .func (.func g) #[] #[] from hf, hof]
   simp only [Result.andThen_ok, invoke, ha]; rw [q4]; simp
 simp only [cG] at he; obtain ⟨v, hv, rfl⟩ := dA he; unfold aHe at hv; split at hv
 · rename_i b o1 n1 c1 p1 b2 o2 n2 c2 p2 e1 e2; rw [e1] at h1; rw [e2] at h2; obtain ⟨j1, hj1, f1⟩ := eR h1; obtain ⟨j2, hj2, f2⟩ := eR h2; split at hv
   · rename_i B C hB hC; obtain ⟨hc, hv⟩ := aI hv; cases hv; simp only [Bool.and_eq_true, Bool.not_eq_true'] at hc; obtain ⟨⟨c1', c2'⟩, c3'⟩ := hc; have hbb : b ≠ b2 := λ hh => by subst hh; rw [Nat.beq_refl] at c1'; cases c1'
     have hCn : C.n ≠ 0 := λ hh => by rw [hh] at c3'; cases c3'
     obtain ⟨ob, hob, hrb, _⟩ := hw.has b j1 hj1; rw [hB] at hob; cases hob; obtain ⟨oc, hoc, hrc, _⟩ := hw.has b2 j2 hj2; rw [hC] at hoc; cases hoc; have hne : j1.r ≠ j2.r := λ hh => hbb (hw.inj b b2 j1 j2 _ _ hj1 hj2 hh hB hC rfl rfl)
     obtain ⟨⟨cb, elb, frb, gb1, gb2, _⟩, _, pb⟩ := hrb; obtain ⟨⟨cc, pM, frc, gc1, gc2, _⟩, _, _⟩ := hrc; have pb := pb c2'; refine ⟨_, by
       rw [hrun, f1, f2, aEH w ps rs tS e q1 q2 i.size (λ w => by unfold sizeOf typeInfo; simp [q3]) _ _ _ _ _ _ hne elb pM cb.size cc.size (by simp [World.shape?, gb1]) (by simp [World.shape?, gc1]) (by rw [gc2]; omega) (pb _) (pb _)]
       rfl, rfl⟩
   · cases hv
 · cases hv
end
end Go.DI
namespace Go.DI
open Go.RowKit
def aBB (P : Program) (t : TypeId) : Bool := uF P t λ d => match d with | .string => true | _ => false
def aUY (P : Program) (t : TypeId) : Bool := uF P t λ d => match d with | .slice _ => true | _ => false
def isMp (P : Program) (t : TypeId) : Bool := uF P t λ d => match d with | .map _ _ => true | _ => false
def bi1 (c : Call) (b : Builtin) : Option (Operand × TypeId) := match c.callee with
 | .builtin b' => bif decide (b' = b) then (match c.args.toList, c.argTypes.toList with
   | [x], [t] => some (x, t)
   | _, _ => none) else none
 | _ => none
def bi2 (c : Call) (b : Builtin) : Option (Operand × Operand) := match c.callee with
 | .builtin b' => bif decide (b' = b) then (match c.args.toList with
   | [x, y] => some (x, y)
   | _ => none) else none
 | _ => none
theorem vB {c : Call} {b : Builtin} {x : Operand} {t : TypeId} (h : bi1 c b = some (x, t)) : c = { callee := .builtin b, args := #[x], argTypes := #[t] } := by
 obtain ⟨cl, as, ts⟩ := c; unfold bi1 at h; simp only [] at h; split at h
 · obtain ⟨h1, h2⟩ := aI h; have h1 := of_decide_eq_true h1; split at h2
   · rename_i e1 e2; cases h2; subst h1; have e1 : as = #[x] := Array.ext' e1; have e2 : ts = #[t] := Array.ext' e2; subst e1; subst e2; rfl
   · cases h2
 · cases h
theorem aKt {c : Call} {b : Builtin} {x y : Operand} (h : bi2 c b = some (x, y)) : c = { callee := .builtin b, args := #[x, y], argTypes := c.argTypes } := by
 obtain ⟨cl, as, ts⟩ := c; unfold bi2 at h; simp only [] at h; split at h
 · obtain ⟨h1, h2⟩ := aI h; have h1 := of_decide_eq_true h1; split at h2
   · rename_i e1; cases h2; subst h1; have e1 : as = #[x, y] := Array.ext' e1; subst e1; rfl
   · cases h2
 · cases h
def aCu (P : Program) (t : TypeId) (z : DV) : Bool := match P.info? t with
 | some i => match i.zero with
   | some v => aHl 3 v z
   | none => false
 | none => false
def bCR (P : Program) (o : Oper) (d : vN) : Bool := match o.op, d with
 | _, .bad => true
 | .call c, .prm k x' y' => (match c.callee, c.args.toList with
   | .value (.func g), [x, y] => aCn P g k && aD x x' && aD y y'
   | _, _ => false)
 | .lookup t x k ok, .lkp kt z ok' x' k' => (match P.underlying t with
   | some (.map key elem) => qM P kt key && aCu P elem z
   | _ => false) && (ok == ok') && aD x x' && aD k k'
 | .slice t x lo (some hi) (some mx), .slM es x' lo' hi' mx' => uF P t (aHa P es) && aD x x' && jS lo lo' && aD hi hi' && aD mx mx'
 | .move x, .mv y => aD x y
 | .assign x, .mv y => aD x y
 | .pick c a b, .pick c' a' b' => aD c c' && aD a a' && aD b b'
 | .binOp .eql t x y _, .eqv e false x' y' => aFN P t e x y && aD x x' && aD y y'
 | .binOp .neq t x y _, .eqv e true x' y' => aFN P t e x y && aD x x' && aD y y'
 | .binOp .eql t x y _, .eqs false s x' y' => aDS P t s && aD x x' && aD y y'
 | .binOp .neq t x y _, .eqs true s x' y' => aDS P t s && aD x x' && aD y y'
 | .binOp op _ x y _, .bin op' x' y' => decide (op = op') && aD x x' && aD y y'
 | .unOp .not _ x, .not x' => aD x x'
 | .unOp .neg _ x, .neg x' => aD x x'
 | .unOp .xor _ x, .bin .xor (.c (.int k a)) x' => decide (a = bBs k) && aD x x'
 | .convert s t x, .conv k x' => uF P s (λ _ => true) && uF P t (λ d => match d with | .int k' => decide (k' = k) | _ => false) && aD x x'
 | .convert s t x, .same x' => aBB P s && aBB P t && aD x x'
 | .convert s t x, .b2s x' => aCo P s && aBB P t && aD x x'
 | .convert s t x, .s2b x' => aBB P s && aCo P t && aD x x'
 | .makeInterface t x, .mkI t' x' => Nat.beq t t' && uF P t (λ d => match d with | .interface _ => false | _ => true) && aD x x'
 | .makeFunc f a c, .mkF f' a' c' => decide (f = f') && oF aD a.toList a' && oF aD c.toList c'
 | .load t x, .ld x' => nG P t false && aD x x'
 | .load t x, .ldN n x' => nG P t true && gW P t n && aD x x'
 | .nilCheck x, .nilchk x' => aD x x'
 | .fieldAddr s x f, .fa off x' => (match wD P s f with
   | some fd => Nat.beq fd.offset off && !gW P fd.type 0 && (P.info? fd.type).isSome
   | none => false) && aD x x'
 | .field s x f, .fld off n agg x' => (match wD P s f with
   | some fd => Nat.beq fd.offset off && gW P fd.type n && nG P fd.type agg
   | none => false) && aD x x'
 | .indexAddr t x i, .iaS es x' i' => uF P t (aHa P es) && aD x x' && aD i i'
 | .indexAddr t x i, .iaA n es x' i' => uF P t (aKy P n es) && aD x x' && aD i i'
 | .index t x i, .ixA n es agg x' i' => uF P t (aKy P n es) && uF P t (λ d => match d with | .array _ e => nG P e agg | _ => false) && aD x x' && aD i i'
 | .index t x i, .ixS x' i' => aBB P t && aD x x' && aD i i'
 | .slice t x lo hi none, .slS x' lo' hi' => aBB P t && aD x x' && jS lo lo' && jS hi hi'
 | .slice t x lo hi none, .slL es x' lo' hi' => uF P t (aHa P es) && aD x x' && jS lo lo' && jS hi hi'
 | .slice t x lo hi none, .slA n es x' lo' hi' => uF P t (aKy P n es) && aD x x' && jS lo lo' && jS hi hi'
 | .extract x i, .ext i' x' => Nat.beq i i' && aD x x'
 | .call c, .lenS x' => match bi1 c .len with | some (x, t) => aBB P t && aD x x' | none => false
 | .call c, .lenL x' => match bi1 c .len with | some (x, t) => aUY P t && aD x x' | none => false
 | .call c, .capL x' => match bi1 c .cap with | some (x, t) => aUY P t && aD x x' | none => false
 | .call c, .ovl x' y' => (match c.callee, c.args.toList with
   | .value (.func g), [x, y] => aDQ P g && aD x x' && aD y y'
   | _, _ => false)
 | .call c, .lenM x' => match bi1 c .len with | some (x, t) => isMp P t && aD x x' | none => false
 | .call c, .lenA n => match bi1 c .len with
   | some (x, t) => uF P t (λ d => match d with | .array k _ => Nat.beq k n | .pointer e => uF P e (λ d => match d with | .array k _ => Nat.beq k n | _ => false) | _ => false)
   | none => false
 | .call c, .mn x' y' => match bi2 c .min with | some (x, y) => aD x x' && aD y y' | none => false
 | .call c, .mx x' y' => match bi2 c .max with | some (x, y) => aD x x' && aD y y' | none => false
 | .build t ps, .bld zs qs => kH P t zs && (match P.underlying t with
   | some (.struct fs) => aOg P fs && lT P (iP P fs) ps.toList qs
   | some (.array _ e) => match P.info? e with
     | some i => lT P (jT i.size) ps.toList qs
     | none => false
   | _ => false)
 | .buildSlice t n ps, .bsl n' es zs qs => Nat.beq n n' && Nat.ble (n * es) 16777216 && Nat.beq zs.length es && (match P.underlying t with
   | some (.slice e) => gW P e es && kH P e zs && lT P (jT es) ps.toList qs
   | _ => false)
 | .typeAssert x xt t ok, .tas t' zero ok' x' => Nat.beq t t' && (ok == ok') && uF P t (λ d => match d with | .interface _ => false | _ => true) && (!ok || aCu P t zero) && aD x x'
 | .alloc t, .alc n es z => kH P t z.cells && Nat.beq z.cells.length n && z.small
 | .box _ x, .box x' => aD x x'
 | .makeSlice t l c, .mks es bytes zero l' c' => (match P.underlying t with
   | some (.slice e) => (match P.info? e with
     | some i => Nat.beq i.size 1 && Nat.beq i.bytes bytes && kH P e [zero]
     | none => false)
   | _ => false) && aD l l' && aD c c'
 | .makeMap _ none, .mkm => true
 | _, _ => false
theorem lC {P : Program} {t : TypeId} (h : aBB P t = true) : P.underlying t = some .string := by
 obtain ⟨d, h1, h2⟩ := cI h; cases d <;> first | exact h1 | cases h2
theorem aDj {P : Program} {t : TypeId} (h : aUY P t = true) : ∃ e, P.underlying t = some (.slice e) := by
 obtain ⟨d, h1, h2⟩ := cI h; cases d <;> first | exact ⟨_, h1⟩ | cases h2
theorem aSL {P : Program} {t : TypeId} (h : isMp P t = true) : ∃ k e, P.underlying t = some (.map k e) := by
 obtain ⟨d, h1, h2⟩ := cI h; cases d <;> first | exact ⟨_, _, h1⟩ | cases h2
theorem aAg {P : Program} {t : TypeId} (h : aCo P t = true) : ∃ e, P.underlying t = some (.slice e) /\ P.underlying e = some (.int .u8) := by
 unfold aCo at h; split at h
 · rename_i e h1; obtain ⟨d, h2, h3⟩ := cI h; split at h3
   · exact ⟨e, h1, h2⟩
   · cases h3
 · cases h
theorem aAL {P : Program} {t : TypeId} {es : Nat} (h : uF P t (aHa P es) = true) : ∃ e, P.underlying t = some (.slice e) /\ gW P e es = true := by
 obtain ⟨d, h1, h2⟩ := cI h; cases d <;> first | exact ⟨_, h1, h2⟩ | cases h2
theorem aEa {P : Program} {t : TypeId} {n es : Nat} (h : uF P t (aKy P n es) = true) : ∃ e, P.underlying t = some (.array n e) /\ gW P e es = true := by
 obtain ⟨d, h1, h2⟩ := cI h; cases d <;> try (cases h2; done)
 rename_i len e; simp only [aKy, Bool.and_eq_true, decide_eq_true_iff] at h2; obtain ⟨rfl, h3⟩ := h2; exact ⟨e, h1, h3⟩
theorem zS {P : Program} {s : TypeId} {f : Nat} {fd : Field} (h : wD P s f = some fd) : ∃ fs, P.underlying s = some (.struct fs) /\ fs[f]? = some fd := by
 unfold wD at h; split at h
 · exact ⟨_, by assumption, h⟩
 · cases h
theorem aGX {P : Program} {N0 : Nat} {w0 : World} {m : Mp} {h : H} {w : World} {ρ : Tr DV} {ρ' : Operand -> Value} {o : Oper} {d : vN} {r : dT}
   (hc : bCR P o d = true) (hw : bH N0 w0 m h w) (hρ : bQ m o.op.operands ρ ρ') (he : cG d ρ h.get = some r) : nJ P ρ' o m w r := by
 unfold bCR at hc; split at hc
 · cases he
 · rename_i c k x' y' ho; split at hc
   · rename_i g x y hcal ha; simp only [Bool.and_eq_true] at hc; exact bVl ho hcal (Array.ext' (by simpa using ha)) hc.1.1 hρ hc.1.2 hc.2 he
   · cases hc
 · simp only [Bool.and_eq_true, beq_iff_eq] at hc; obtain ⟨⟨⟨h1, rfl⟩, h3⟩, h4⟩ := hc; split at h1
   · rw [Bool.and_eq_true] at h1; refine bVu (by assumption) (by assumption) h1.1 hw ?_ hρ h3 h4 he
     have hz := h1.2; unfold aCu at hz; split at hz
     · rename_i i hi; split at hz
       · rename_i v hv; exact ⟨v, by unfold zeroValue typeInfo; simp [hi, hv], tG m 3 v _ hz⟩
       · cases hz
     · cases hz
   · cases h1
 · simp only [Bool.and_eq_true] at hc; obtain ⟨e, h1, h2⟩ := aAL hc.1.1.1.1; exact bVh (by assumption) h1 h2 hρ hc.1.1.1.2 hc.1.1.2 hc.1.2 hc.2 he
 · exact bMa (by assumption) hρ hc he
 · exact aZJ (by assumption) hρ hc he
 · simp only [Bool.and_eq_true] at hc; exact bLZ (by assumption) hρ hc.1.1 hc.1.2 hc.2 he
 · simp only [Bool.and_eq_true] at hc; exact bVC hw (by assumption) hc.1.1 hρ hc.1.2 hc.2 he
 · simp only [Bool.and_eq_true] at hc; exact bVo hw (by assumption) hc.1.1 hρ hc.1.2 hc.2 he
 · simp only [Bool.and_eq_true] at hc; exact bGe (neg := false) hw (by assumption) hc.1.1 hρ hc.1.2 hc.2 he
 · simp only [Bool.and_eq_true] at hc; exact bGe (neg := true) hw (by assumption) hc.1.1 hρ hc.1.2 hc.2 he
 · simp only [Bool.and_eq_true, decide_eq_true_iff] at hc; obtain ⟨⟨rfl, h1⟩, h2⟩ := hc; exact bVG (by assumption) hρ h1 h2 he
 · exact bVn (by assumption) hρ hc he
 · exact bVp (by assumption) hρ hc he
 · simp only [Bool.and_eq_true, decide_eq_true_iff] at hc; exact bVD (by assumption) hc.1 hρ hc.2 he
 · simp only [Bool.and_eq_true] at hc; obtain ⟨d, h1, h2⟩ := cI hc.1.2; split at h2
   · have h2 := of_decide_eq_true h2; subst h2; exact bMg (by assumption) hc.1.1 h1 hρ hc.2 he
   · cases h2
 · simp only [Bool.and_eq_true] at hc; exact bLY (by assumption) (lC hc.1.1) (lC hc.1.2) hρ hc.2 he
 · simp only [Bool.and_eq_true] at hc; obtain ⟨e, h1, h2⟩ := aAg hc.1.1; exact bVH (by assumption) h1 h2 (lC hc.1.2) hw hρ hc.2 he
 · simp only [Bool.and_eq_true] at hc; obtain ⟨e, h1, h2⟩ := aAg hc.1.2; exact bVk (by assumption) (lC hc.1.1) h1 h2 hρ hc.2 he
 · simp only [Bool.and_eq_true] at hc; have h1 := Nat.eq_of_beq_eq_true hc.1.1; subst h1; exact bVs (by assumption) hc.1.2 hρ hc.2 he
 · simp only [Bool.and_eq_true, decide_eq_true_iff] at hc; obtain ⟨⟨rfl, h1⟩, h2⟩ := hc; exact bVt (by assumption) hρ h1 h2 he
 · simp only [Bool.and_eq_true] at hc; exact E_ld (by assumption) hc.1 hw hρ hc.2 he
 · simp only [Bool.and_eq_true] at hc; exact bVv (by assumption) hc.1.1 hc.1.2 hw hρ hc.2 he
 · exact aZI (by assumption) hρ hc he
 · simp only [Bool.and_eq_true] at hc; obtain ⟨h1, h2⟩ := hc; split at h1
   · rename_i fd hf; obtain ⟨fs, h3, h4⟩ := zS hf; simp only [Bool.and_eq_true] at h1; obtain ⟨i, hi⟩ := Option.isSome_iff_exists.1 h1.2; have hsz : gW P fd.type i.size = true := by unfold gW; rw [hi]; simp
     refine E_fa (by assumption) h3 h4 (Nat.eq_of_beq_eq_true h1.1.1) hsz (λ h0 => ?_) hρ h2 he
     rw [h0] at hsz; rw [hsz] at h1; exact absurd h1.1.2 (by simp)
   · cases h1
 · simp only [Bool.and_eq_true] at hc; obtain ⟨h1, h2⟩ := hc; split at h1
   · rename_i fd hf; obtain ⟨fs, h3, h4⟩ := zS hf; simp only [Bool.and_eq_true] at h1; exact bVA (by assumption) h3 h4 (Nat.eq_of_beq_eq_true h1.1.1) h1.1.2 h1.2 hρ h2 he
   · cases h1
 · simp only [Bool.and_eq_true] at hc; obtain ⟨e, h1, h2⟩ := aAL hc.1.1; exact bVy (by assumption) h1 h2 hρ hc.1.2 hc.2 he
 · simp only [Bool.and_eq_true] at hc; obtain ⟨e, h1, h2⟩ := aEa hc.1.1; exact bVz (by assumption) h1 h2 hρ hc.1.2 hc.2 he
 · simp only [Bool.and_eq_true] at hc; obtain ⟨e, h1, h2⟩ := aEa hc.1.1.1; obtain ⟨d, h3, h4⟩ := cI hc.1.1.2; rw [h1] at h3; cases h3; exact bVx (by assumption) h1 h2 h4 hρ hc.1.2 hc.2 he
 · simp only [Bool.and_eq_true] at hc; exact bVw (by assumption) (lC hc.1.1) hρ hc.1.2 hc.2 he
 · simp only [Bool.and_eq_true] at hc; exact bVg (by assumption) (lC hc.1.1.1) hρ hc.1.1.2 hc.1.2 hc.2 he
 · simp only [Bool.and_eq_true] at hc; obtain ⟨e, h1, h2⟩ := aAL hc.1.1.1; exact bVi (by assumption) h1 h2 hρ hc.1.1.2 hc.1.2 hc.2 he
 · simp only [Bool.and_eq_true] at hc; obtain ⟨e, h1, h2⟩ := aEa hc.1.1.1; exact bVj (by assumption) h1 h2 hρ hc.1.1.2 hc.1.2 hc.2 he
 · simp only [Bool.and_eq_true] at hc; have h1 := Nat.eq_of_beq_eq_true hc.1; subst h1; exact bVB (by assumption) hρ hc.2 he
 · rename_i ho; split at hc
   · rename_i hb; rw [vB hb] at ho; simp only [Bool.and_eq_true] at hc; exact bMb ho (lC hc.1) hρ hc.2 he
   · cases hc
 · rename_i ho; split at hc
   · rename_i hb; rw [vB hb] at ho; simp only [Bool.and_eq_true] at hc; obtain ⟨e, h1⟩ := aDj hc.1; exact bMe ho h1 hρ hc.2 he
   · cases hc
 · rename_i ho; split at hc
   · rename_i hb; rw [vB hb] at ho; simp only [Bool.and_eq_true] at hc; obtain ⟨e, h1⟩ := aDj hc.1; exact bMh ho h1 hρ hc.2 he
   · cases hc
 · rename_i ho; split at hc
   · rename_i g x y hcal ha; simp only [Bool.and_eq_true] at hc; exact bVm ho hcal (Array.ext' (by simpa using ha)) hc.1.1 hw hρ hc.1.2 hc.2 he
   · cases hc
 · rename_i ho; split at hc
   · rename_i hb; rw [vB hb] at ho; simp only [Bool.and_eq_true] at hc; obtain ⟨k, e, h1⟩ := aSL hc.1; exact bMd ho h1 hw hρ hc.2 he
   · cases hc
 · rename_i ho; split at hc
   · rename_i hb; rw [vB hb] at ho; obtain ⟨d, h1, h2⟩ := cI hc; split at h2
     · have h3 := Nat.eq_of_beq_eq_true h2; subst h3; exact bMf ho h1 he
     · obtain ⟨d', h3, h4⟩ := cI h2; split at h4
       · have h5 := Nat.eq_of_beq_eq_true h4; subst h5; exact bMc ho h1 h3 he
       · cases h4
     · cases h2
   · cases hc
 · rename_i ho; split at hc
   · rename_i hb; rw [aKt hb] at ho; simp only [Bool.and_eq_true] at hc; exact E_mn ho hρ hc.1 hc.2 he
   · cases hc
 · rename_i ho; split at hc
   · rename_i hb; rw [aKt hb] at ho; simp only [Bool.and_eq_true] at hc; exact E_mx ho hρ hc.1 hc.2 he
   · cases hc
 · simp only [Bool.and_eq_true] at hc; obtain ⟨hz, h1⟩ := hc; split at h1
   · simp only [Bool.and_eq_true] at h1; exact bMi (by assumption) (by assumption) h1.1 hz h1.2 hρ he
   · split at h1
     · rename_i i hi; exact bMj (by assumption) (by assumption) (by unfold gW; rw [hi]; simp) hz h1 hρ he
     · cases h1
   · cases h1
 · simp only [Bool.and_eq_true] at hc; obtain ⟨⟨⟨h1, h2⟩, h3⟩, h4⟩ := hc; have h1 := Nat.eq_of_beq_eq_true h1; subst h1; split at h4
   · simp only [Bool.and_eq_true] at h4; exact bVE (by assumption) (by assumption) h4.1.1 (Nat.le_of_ble_eq_true h2) h4.1.2 (Nat.eq_of_beq_eq_true h3) h4.2 hρ he
   · cases h4
 · simp only [Bool.and_eq_true, beq_iff_eq] at hc; obtain ⟨⟨⟨⟨h1, rfl⟩, h3⟩, h4⟩, h5⟩ := hc; have h1 := Nat.eq_of_beq_eq_true h1; subst h1; refine bVf (by assumption) h3 (λ hok => ?_) hρ h5 he
   rw [hok] at h4; simp only [Bool.not_true, Bool.false_or] at h4; unfold aCu at h4; split at h4
   · rename_i i hi; split at h4
     · rename_i v hv; exact ⟨i, hi, v, hv, h4⟩
     · cases h4
   · cases h4
 · simp only [Bool.and_eq_true] at hc; exact bVI (by assumption) hc.1.1 (Nat.eq_of_beq_eq_true hc.1.2) hc.2 he
 · exact bVF (by assumption) hρ hc he
 · simp only [Bool.and_eq_true] at hc; obtain ⟨⟨h1, h2⟩, h3⟩ := hc; split at h1
   · split at h1
     · simp only [Bool.and_eq_true] at h1; exact bVq (by assumption) (by assumption) (by assumption) (Nat.eq_of_beq_eq_true h1.1.1) (Nat.eq_of_beq_eq_true h1.1.2) h1.2 hρ h2 h3 he
     · cases h1
   · cases h1
 · exact bVr (by assumption) he
 · cases hc
end Go.DI
end
