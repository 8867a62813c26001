/- A run of D on a memory that lies elsewhere, as a part of a greater one, answers the same. No condition. -/
import Derived.Test.YthpciaidbgjoeaaGreatDd
set_option linter.unusedVariables false
set_option linter.unusedSimpArgs false
noncomputable section
namespace Go.DI
abbrev Re := Nat -> Option Nat
def okU : DV -> Bool
 | .int _ _ | .str _ => true
 | _ => false
abbrev Vl := Nat -> Option {v : DV // okU v = true}
def Re.le (A A' : Re) : Prop := ∀ b c, A b = some c -> A' b = some c
def Re.inj (A : Re) : Prop := ∀ a b c, A a = some c -> A b = some c -> a = b
theorem Re.le_refl (A : Re) : A.le A := λ _ _ h => h
theorem Re.le.trans {A B C : Re} (h : A.le B) (k : B.le C) : A.le C := λ _ _ e => k _ _ (h _ _ e)
mutual
def rl (V : Vl) (A : Re) : DV -> Option DV
 | .bool b => some (.bool b)
 | .int k n => some (.int k n)
 | .str s => some (.str s)
 | .nilp => some .nilp
 | .ptr b o => match A b with
   | some c => some (.ptr c o)
   | none => none
 | .nils => some .nils
 | .slc b o len cap op => match A b with
   | some c => some (.slc c o len cap op)
   | none => none
 | .slE b o o2 => match A b with
   | some c => some (.slE c o o2)
   | none => none
 | .nilm => some .nilm
 | .mp b => match V b with
   | some u => some u.1
   | none => match A b with
     | some c => some (.mp c)
     | none => none
 | .fn f a c => match gQ V A a, gQ V A c with
   | some a', some c' => some (.fn f a' c')
   | _, _ => none
 | .nilf => some .nilf
 | .nili => some .nili
 | .ifc t v => match rl V A v with
   | some v' => some (.ifc t v')
   | none => none
 | .agg cs => match gQ V A cs with
   | some cs' => some (.agg cs')
   | none => none
 | .tup vs => match gQ V A vs with
   | some vs' => some (.tup vs')
   | none => none
def gQ (V : Vl) (A : Re) : List DV -> Option (List DV)
 | [] => some []
 | v :: vs => match rl V A v, gQ V A vs with
   | some v', some vs' => some (v' :: vs')
   | _, _ => none
end
mutual
theorem kU {V : Vl} {A A' : Re} (h : A.le A') : ∀ (v v' : DV), rl V A v = some v' -> rl V A' v = some v'
 | .bool _, _, e => e
 | .int _ _, _, e => e
 | .str _, _, e => e
 | .nilp, _, e => e
 | .ptr b o, v', e => by
   simp only [rl] at e ⊢; cases hb : A b with
   | none => rw [hb] at e; cases e
   | some i => rw [hb] at e; rw [h b i hb]; exact e
 | .nils, _, e => e
 | .slc b o len cap op, v', e => by
   simp only [rl] at e ⊢; cases hb : A b with
   | none => rw [hb] at e; cases e
   | some i => rw [hb] at e; rw [h b i hb]; exact e
 | .slE b o o2, v', e => by
   simp only [rl] at e ⊢; cases hb : A b with
   | none => rw [hb] at e; cases e
   | some i => rw [hb] at e; rw [h b i hb]; exact e
 | .nilm, _, e => e
 | .mp b, v', e => by
   simp only [rl] at e ⊢; cases hu : V b with
   | some u => rw [hu] at e; exact e
   | none =>
     rw [hu] at e; simp only at e ⊢; cases hb : A b with
     | none => rw [hb] at e; cases e
     | some i => rw [hb] at e; rw [h b i hb]; exact e
 | .fn f a c, v', e => by
   simp only [rl] at e ⊢; cases ha : gQ V A a with
   | none => rw [ha] at e; cases e
   | some a' =>
     cases hc : gQ V A c with
     | none => rw [ha, hc] at e; cases e
     | some c' => rw [ha, hc] at e; rw [uH h a a' ha, uH h c c' hc]; exact e
 | .nilf, _, e => e
 | .nili, _, e => e
 | .ifc t v, v', e => by
   simp only [rl] at e ⊢; cases hv : rl V A v with
   | none => rw [hv] at e; cases e
   | some u => rw [hv] at e; rw [kU h v u hv]; exact e
 | .agg cs, v', e => by
   simp only [rl] at e ⊢; cases hv : gQ V A cs with
   | none => rw [hv] at e; cases e
   | some u => rw [hv] at e; rw [uH h cs u hv]; exact e
 | .tup cs, v', e => by
   simp only [rl] at e ⊢; cases hv : gQ V A cs with
   | none => rw [hv] at e; cases e
   | some u => rw [hv] at e; rw [uH h cs u hv]; exact e
theorem uH {V : Vl} {A A' : Re} (h : A.le A') : ∀ (vs vs' : List DV), gQ V A vs = some vs' -> gQ V A' vs = some vs'
 | [], _, e => e
 | v :: vs, u, e => by
   simp only [gQ] at e ⊢; cases hv : rl V A v with
   | none => rw [hv] at e; cases e
   | some v' =>
     cases hvs : gQ V A vs with
     | none => rw [hv, hvs] at e; cases e
     | some vs' => rw [hv, hvs] at e; rw [kU h v v' hv, uH h vs vs' hvs]; exact e
end
section
variable {V : Vl} {A : Re}
theorem aE {v : DV} {vs u : List DV} : gQ V A (v :: vs) = some u ↔ ∃ v' vs', rl V A v = some v' /\ gQ V A vs = some vs' /\ u = v' :: vs' := by
 simp only [gQ]; cases hv : rl V A v with
 | none => simp
 | some v' =>
   cases hvs : gQ V A vs with
   | none => simp
   | some vs' => simp [eq_comm]
theorem eU : ∀ {vs u : List DV}, gQ V A vs = some u -> u.length = vs.length
 | [], _, e => by simp [gQ] at e; simp [<- e]
 | v :: vs, u, e => by
   obtain ⟨v', vs', _, h2, rfl⟩ := aE.1 e; simp [eU h2]
theorem mT : ∀ {vs u : List DV}, gQ V A vs = some u -> ∀ (i : Nat) (v : DV), vs[i]? = some v -> ∃ v', u[i]? = some v' /\ rl V A v = some v'
 | [], _, _, i, v, hi => by simp at hi
 | x :: vs, u, e, i, v, hi => by
   obtain ⟨v', vs', h1, h2, rfl⟩ := aE.1 e; cases i with
   | zero => simp at hi; subst hi; exact ⟨v', rfl, h1⟩
   | succ i => simp at hi; simpa using mT h2 i v hi
theorem kZ : ∀ {a b a' b' : List DV}, gQ V A a = some a' -> gQ V A b = some b' -> gQ V A (a ++ b) = some (a' ++ b')
 | [], b, a', b', h, k => by simp [gQ] at h; subst h; simpa using k
 | x :: a, b, a', b', h, k => by
   obtain ⟨v', vs', h1, h2, rfl⟩ := aE.1 h; exact aE.2 ⟨v', vs' ++ b', h1, kZ h2 k, by simp⟩
theorem oU : ∀ {vs u : List DV}, gQ V A vs = some u -> ∀ n, gQ V A (vs.drop n) = some (u.drop n)
 | [], u, e, n => by simp [gQ] at e; subst e; simp [gQ]
 | v :: vs, u, e, 0 => by simpa using e
 | v :: vs, u, e, n + 1 => by
   obtain ⟨v', vs', _, h2, rfl⟩ := aE.1 e
   simpa using oU h2 n
theorem oT : ∀ {vs u : List DV}, gQ V A vs = some u -> ∀ n, gQ V A (vs.take n) = some (u.take n)
 | [], u, e, n => by simp [gQ] at e; subst e; simp [gQ]
 | v :: vs, u, e, 0 => by simp [gQ]
 | v :: vs, u, e, n + 1 => by
   obtain ⟨v', vs', h1, h2, rfl⟩ := aE.1 e; exact aE.2 ⟨v', vs'.take n, h1, oT h2 n, by simp⟩
theorem aOo : ∀ {vs u : List DV}, gQ V A vs = some u -> ∀ (i : Nat) (x x' : DV), rl V A x = some x' -> gQ V A (vs.set i x) = some (u.set i x')
 | [], u, e, i, x, x', _ => by simp [gQ] at e; subst e; simp [gQ]
 | v :: vs, u, e, 0, x, x', k => by
   obtain ⟨v', vs', h1, h2, rfl⟩ := aE.1 e; exact aE.2 ⟨x', vs', k, h2, rfl⟩
 | v :: vs, u, e, i + 1, x, x', k => by
   obtain ⟨v', vs', h1, h2, rfl⟩ := aE.1 e; exact aE.2 ⟨v', vs'.set i x', h1, aOo h2 i x x' k, rfl⟩
theorem zH {β : Type} {g : β -> DV} (h : ∀ x, rl V A (g x) = some (g x)) : ∀ l : List β, gQ V A (l.map g) = some (l.map g)
 | [] => rfl
 | x :: l => aE.2 ⟨g x, l.map g, h x, zH h l, rfl⟩
theorem aOq {β : Type} {f g : β -> DV} : ∀ l : List β, (∀ x ∈ l, rl V A (f x) = some (g x)) -> gQ V A (l.map f) = some (l.map g)
 | [], _ => rfl
 | x :: l, h => aE.2 ⟨g x, l.map g, h x (by simp), aOq l λ y hy => h y (by simp [hy]), rfl⟩
theorem zI {z : List DV} (h : gQ V A z = some z) : ∀ n, gQ V A (iI z n) = some (iI z n)
 | 0 => rfl
 | n + 1 => kZ h (zI h n)
theorem kV {b : Bool} {w : DV} (h : rl V A (.bool b) = some w) : w = .bool b := by simp only [rl, Option.some.injEq] at h; exact h.symm
theorem cL {k : IntKind} {n : Int} {w : DV} (h : rl V A (.int k n) = some w) : w = .int k n := by simp only [rl, Option.some.injEq] at h; exact h.symm
theorem lB {s : Ln} {w : DV} (h : rl V A (.str s) = some w) : w = .str s := by simp only [rl, Option.some.injEq] at h; exact h.symm
theorem aCb {w : DV} (h : rl V A .nilp = some w) : w = .nilp := by simp only [rl, Option.some.injEq] at h; exact h.symm
theorem fW {w : DV} (h : rl V A .nils = some w) : w = .nils := by simp only [rl, Option.some.injEq] at h; exact h.symm
theorem aCc {w : DV} (h : rl V A .nilm = some w) : w = .nilm := by simp only [rl, Option.some.injEq] at h; exact h.symm
theorem aCd {w : DV} (h : rl V A .nilf = some w) : w = .nilf := by simp only [rl, Option.some.injEq] at h; exact h.symm
theorem rZ {w : DV} (h : rl V A .nili = some w) : w = .nili := by simp only [rl, Option.some.injEq] at h; exact h.symm
theorem jD {b o : Nat} {w : DV} (h : rl V A (.ptr b o) = some w) : ∃ c, A b = some c /\ w = .ptr c o := by
 simp only [rl] at h; cases hb : A b with
 | none => rw [hb] at h; cases h
 | some c => rw [hb] at h; cases h; exact ⟨c, rfl, rfl⟩
theorem fV {b o l k : Nat} {p : Bool} {w : DV} (h : rl V A (.slc b o l k p) = some w) : ∃ c, A b = some c /\ w = .slc c o l k p := by
 simp only [rl] at h; cases hb : A b with
 | none => rw [hb] at h; cases h
 | some c => rw [hb] at h; cases h; exact ⟨c, rfl, rfl⟩
theorem nL {b o l : Nat} {w : DV} (h : rl V A (.slE b o l) = some w) : ∃ c, A b = some c /\ w = .slE c o l := by
 simp only [rl] at h; cases hb : A b with
 | none => rw [hb] at h; cases h
 | some c => rw [hb] at h; cases h; exact ⟨c, rfl, rfl⟩
theorem uI {b : Nat} {w : DV} (h : rl V A (.mp b) = some w) : (∃ u, V b = some u /\ w = u.1) \/ V b = none /\ ∃ c, A b = some c /\ w = .mp c := by
 simp only [rl] at h; cases hu : V b with
 | some u => rw [hu] at h; cases h; exact .inl ⟨u, rfl, rfl⟩
 | none =>
   rw [hu] at h; simp only at h; cases hb : A b with
   | none => rw [hb] at h; cases h
   | some c => rw [hb] at h; cases h; exact .inr ⟨rfl, c, rfl, rfl⟩
theorem aOs {f : Fn} {a c : List DV} {w : DV} (h : rl V A (.fn f a c) = some w) : ∃ a' c', gQ V A a = some a' /\ gQ V A c = some c' /\ w = .fn f a' c' := by
 simp only [rl] at h; cases ha : gQ V A a with
 | none => rw [ha] at h; cases h
 | some a' =>
   cases hc : gQ V A c with
   | none => rw [ha, hc] at h; cases h
   | some c' => rw [ha, hc] at h; cases h; exact ⟨a', c', rfl, rfl, rfl⟩
theorem xR {t : Nat} {v w : DV} (h : rl V A (.ifc t v) = some w) : ∃ v', rl V A v = some v' /\ w = .ifc t v' := by
 simp only [rl] at h; cases hb : rl V A v with
 | none => rw [hb] at h; cases h
 | some c => rw [hb] at h; cases h; exact ⟨c, rfl, rfl⟩
theorem nM {v : List DV} {w : DV} (h : rl V A (.agg v) = some w) : ∃ v', gQ V A v = some v' /\ w = .agg v' := by
 simp only [rl] at h; cases hb : gQ V A v with
 | none => rw [hb] at h; cases h
 | some c => rw [hb] at h; cases h; exact ⟨c, rfl, rfl⟩
theorem qF {v : List DV} {w : DV} (h : rl V A (.tup v) = some w) : ∃ v', gQ V A v = some v' /\ w = .tup v' := by
 simp only [rl] at h; cases hb : gQ V A v with
 | none => rw [hb] at h; cases h
 | some c => rw [hb] at h; cases h; exact ⟨c, rfl, rfl⟩
theorem gZ {b c o : Nat} (h : A b = some c) : rl V A (.ptr b o) = some (.ptr c o) := by simp only [rl, h]
theorem fQ {b c o l k : Nat} {p : Bool} (h : A b = some c) : rl V A (.slc b o l k p) = some (.slc c o l k p) := by simp only [rl, h]
theorem aCQ {b c o l : Nat} (h : A b = some c) : rl V A (.slE b o l) = some (.slE c o l) := by simp only [rl, h]
theorem bBi {b c : Nat} (hn : V b = none) (h : A b = some c) : rl V A (.mp b) = some (.mp c) := by simp only [rl, hn, h]
theorem aSz {v : DV} (h : okU v = true) : v.cells = [v] := by cases v <;> first | rfl | cases h
theorem oV {v w : List DV} (h : gQ V A v = some w) : rl V A (.agg v) = some (.agg w) := by simp only [rl, h]
theorem kL {v w : List DV} (h : gQ V A v = some w) : rl V A (.tup v) = some (.tup w) := by simp only [rl, h]
theorem aIU {t : Nat} {v w : DV} (h : rl V A v = some w) : rl V A (.ifc t v) = some (.ifc t w) := by simp only [rl, h]
theorem aOr {f : Fn} {a a' c c' : List DV} (h : gQ V A a = some a') (k : gQ V A c = some c') : rl V A (.fn f a c) = some (.fn f a' c') := by simp only [rl, h, k]
theorem aCR {v w : DV} (h : rl V A v = some w) : gQ V A v.cells = some w.cells := by
 cases v
 case agg cs => obtain ⟨c', h1, rfl⟩ := nM h; exact h1
 case mp b =>
   rcases uI h with ⟨u, e1, e2⟩ | ⟨_, c, e1, e2⟩
   · rw [e2, aSz u.2]; rw [e2] at h; simp only [DV.cells, gQ, h]
   · rw [e2]; rw [e2] at h; simp only [DV.cells, gQ, h]
 all_goals
   simp only [rl] at h
   first
     | (cases h; rfl)
     | (split at h <;> first | (cases h; done) | (cases h; simp only [DV.cells, gQ, rl, *]))
mutual
def noA : DV -> Bool
 | .ptr _ _ | .slc _ _ _ _ _ | .slE _ _ _ | .mp _ => false
 | .fn _ a c => sZ a && sZ c
 | .ifc _ v => noA v
 | .agg cs => sZ cs
 | .tup vs => sZ vs
 | _ => true
def sZ : List DV -> Bool
 | [] => true
 | v :: vs => noA v && sZ vs
end
mutual
theorem iG (V : Vl) (A : Re) : ∀ v : DV, noA v = true -> rl V A v = some v
 | .bool _, _ => rfl
 | .int _ _, _ => rfl
 | .str _, _ => rfl
 | .nilp, _ => rfl
 | .ptr _ _, h => by cases h
 | .nils, _ => rfl
 | .slc _ _ _ _ _, h => by cases h
 | .slE _ _ _, h => by cases h
 | .nilm, _ => rfl
 | .mp _, h => by cases h
 | .fn _ a c, h => by
   simp only [noA, Bool.and_eq_true] at h; exact aOr (jM V A a h.1) (jM V A c h.2)
 | .nilf, _ => rfl
 | .nili, _ => rfl
 | .ifc _ v, h => aIU (iG V A v h)
 | .agg cs, h => oV (jM V A cs h)
 | .tup vs, h => kL (jM V A vs h)
theorem jM (V : Vl) (A : Re) : ∀ vs : List DV, sZ vs = true -> gQ V A vs = some vs
 | [], _ => rfl
 | v :: vs, h => by
   simp only [sZ, Bool.and_eq_true] at h; exact aE.2 ⟨v, vs, iG V A v h.1, jM V A vs h.2, rfl⟩
end
end
def EntR (V : Vl) (A : Re) (d e : dJ) : Prop := rl V A d.key = some e.key /\ rl V A d.val = some e.val /\ e.born = d.born
def iF (V : Vl) (A : Re) : List dJ -> List dJ -> Prop
 | [], [] => True
 | d :: ds, e :: es => EntR V A d e /\ iF V A ds es
 | _, _ => False
def OR (V : Vl) (A : Re) : eE -> Option eE -> Prop
 | .dead, _ => True
 | .blk B, some (.blk C) => C.n = B.n /\ C.es = B.es /\ C.ro = B.ro /\ C.pl = B.pl /\ ∀ j v, B.t.at_ j = some v -> ∃ w, C.t.at_ j = some w /\ rl V A v = some w
 | .map es c, some (.map fs d) => d = c /\ iF V A es fs
 | _, _ => False
theorem iF.mono {V : Vl} {A A' : Re} (h : A.le A') : ∀ {ds es : List dJ}, iF V A ds es -> iF V A' ds es
 | [], [], _ => trivial
 | _ :: _, _ :: _, r => ⟨⟨kU h _ _ r.1.1, kU h _ _ r.1.2.1, r.1.2.2⟩, iF.mono h r.2⟩
 | [], _ :: _, r => r.elim
 | _ :: _, [], r => r.elim
theorem iF.length {V : Vl} {A : Re} : ∀ {ds es : List dJ}, iF V A ds es -> es.length = ds.length
 | [], [], _ => rfl
 | _ :: _, _ :: _, r => by simp [iF.length r.2]
 | [], _ :: _, r => r.elim
 | _ :: _, [], r => r.elim
theorem OR.mono {V : Vl} {A A' : Re} (h : A.le A') {o : eE} {q : Option eE} (r : OR V A o q) : OR V A' o q := by
 unfold OR at r ⊢; split at r
 · trivial
 · exact ⟨r.1, r.2.1, r.2.2.1, r.2.2.2.1, λ j v hv => by
     obtain ⟨w, h1, h2⟩ := r.2.2.2.2 j v hv; exact ⟨w, h1, kU h _ _ h2⟩⟩
 · exact ⟨r.1, r.2.mono h⟩
 · exact r.elim
theorem OR.blk {V : Vl} {A : Re} {B : Blk} {q : Option eE} (h : OR V A (.blk B) q) : ∃ C, q = some (.blk C) /\ C.n = B.n /\ C.es = B.es /\ C.ro = B.ro /\ C.pl = B.pl /\ ∀ j v, B.t.at_ j = some v -> ∃ w, C.t.at_ j = some w /\ rl V A v = some w := by
 match q, h with
 | some (.blk C), h => exact ⟨C, rfl, h⟩
theorem OR.map {V : Vl} {A : Re} {ds : List dJ} {c : Nat} {q : Option eE} (h : OR V A (.map ds c) q) : ∃ es, q = some (.map es c) /\ iF V A ds es := by
 match q, h with
 | some (.map es d), h =>
   have e : d = c := h.1; subst e; exact ⟨es, rfl, h.2⟩
structure RdR (V : Vl) (A : Re) (rd rd' : Rd) : Prop where
 at_ : ∀ b c o, A b = some c -> rd b = some o -> OR V A o (rd' c)
 unk : ∀ b u, V b = some u -> rd b = none
section
variable {V : Vl} {A : Re} {rd rd' : Rd}
theorem RdR.blk (h : RdR V A rd rd') {b c : Nat} {B : Blk} (hb : A b = some c) (hB : rd b = some (.blk B)) : ∃ C, rd' c = some (.blk C) /\ C.n = B.n /\ C.es = B.es /\ C.ro = B.ro /\ C.pl = B.pl /\ ∀ j v, B.t.at_ j = some v -> ∃ w, C.t.at_ j = some w /\ rl V A v = some w := (h.at_ b c _ hb hB).blk
theorem RdR.map (h : RdR V A rd rd') {b c : Nat} {ds : List dJ} {k : Nat} (hb : A b = some c) (hB : rd b = some (.map ds k)) : ∃ es, rd' c = some (.map es k) /\ iF V A ds es := (h.at_ b c _ hb hB).map
theorem sP (h : RdR V A rd rd') {b c j : Nat} {v : DV} (hb : A b = some c) (hv : rdCell rd b j = some v) : ∃ w, rdCell rd' c j = some w /\ rl V A v = some w := by
 unfold rdCell at hv ⊢; split at hv
 · rename_i B hB; obtain ⟨C, h1, h2, _, _, _, h6⟩ := h.blk hb hB; rw [h1]; simp only [h2]; split at hv
   · rename_i hj; simp only [hj, if_true]; exact h6 j v hv
   · cases hv
 · cases hv
theorem gE (h : RdR V A rd rd') {b c : Nat} (hb : A b = some c) : ∀ (n j : Nat) {vs : List DV}, rdCells rd b j n = some vs -> ∃ ws, rdCells rd' c j n = some ws /\ gQ V A vs = some ws
 | 0, j, vs, hv => by simp only [rdCells, Option.some.injEq] at hv; subst hv; exact ⟨[], rfl, rfl⟩
 | n + 1, j, vs, hv => by
   simp only [rdCells] at hv ⊢; split at hv
   · rename_i v us h1 h2; cases hv; obtain ⟨w, e1, e2⟩ := sP h hb h1; obtain ⟨ws, e3, e4⟩ := gE h hb n (j + 1) h2; exact ⟨w :: ws, by rw [e1, e3], aE.2 ⟨w, ws, e2, e4, rfl⟩⟩
   · cases hv
end
end Go.DI
namespace Go.DI
def dP : aU -> Bool
 | .r _ => true
 | .c d => noA d
def bBu : Option aU -> Bool
 | none => true
 | some x => dP x
def okZ : Zs -> Bool
 | .list zs => sZ zs
 | .full _ z => noA z
 | .fullThen _ z zs => noA z && sZ zs
def bGT (ps : List (Nat × Nat × aU)) : Bool := ps.all λ p => dP p.2.2
def okT : EqT -> Bool
 | .nilM => false
 | _ => true
def okE : vN -> Bool
 | .bad => true
 | .eqv t _ x y => okT t && (dP x && dP y)
 | .prm _ x y | .ovl x y | .bin _ x y | .eqs _ _ x y | .iaA _ _ x y | .iaS _ x y | .ixA _ _ _ x y | .ixS x y | .mn x y | .mx x y => dP x && dP y
 | .lkp _ z _ x k => noA z && (dP x && dP k)
 | .slM _ x lo hi q => dP x && bBu lo && dP hi && dP q
 | .mv x | .not x | .neg x | .conv _ x | .same x | .b2s x | .mkI _ x | .ld x | .ldN _ x | .nilchk x | .fa _ x | .fld _ _ _ x | .ext _ x | .lenS x | .lenL x | .lenM x | .capL x | .box x | .s2b x => dP x
 | .tas _ z _ x => noA z && dP x
 | .pick c a b => dP c && dP a && dP b
 | .mkF _ a c => a.all dP && c.all dP
 | .slS x lo hi | .slL _ x lo hi | .slA _ _ x lo hi => dP x && bBu lo && bBu hi
 | .bld z ps | .bsl _ _ z ps => sZ z && bGT ps
 | .lenA _ | .mkm => true
 | .alc _ _ z => okZ z
 | .mks _ _ z x y => noA z && (dP x && dP y)
def RR (V : Vl) (A : Re) (ρ σ : Tr DV) : Prop := ∀ p, rl V A (ev ρ (.r p)) = some (ev σ (.r p))
def ER (V : Vl) (A : Re) : dT -> dT -> Prop
 | .val v, .val w => rl V A v = some w
 | .new o mk, .new q mk' => OR V A o (some q) /\ ∀ (A' : Re) (b c : Nat), A.le A' -> V b = none -> A' b = some c -> rl V A' (mk b) = some (mk' c)
 | _, _ => False
section
variable {V : Vl} {A : Re} {ρ σ : Tr DV} {rd rd' : Rd}
theorem RR.ev (h : RR V A ρ σ) {x : aU} (hx : dP x = true) : rl V A (ev ρ x) = some (ev σ x) := by
 cases x with
 | r p => exact h p
 | c d => exact iG V A d hx
theorem RR.mono {A' : Re} (h : RR V A ρ σ) (hA : A.le A') : RR V A' ρ σ := λ p => kU hA _ _ (h p)
theorem RR.evs (h : RR V A ρ σ) {xs : List aU} (hx : xs.all dP = true) : gQ V A (xs.map (Go.DI.ev ρ)) = some (xs.map (Go.DI.ev σ)) :=
 aOq xs λ x hm => h.ev (List.all_eq_true.1 hx x hm)
theorem fL {x y : Option DV} {r : dT} (he : vl x = some r) (h : ∀ v, x = some v -> ∃ w, y = some w /\ rl V A v = some w) : ∃ r', vl y = some r' /\ ER V A r r' := by
 cases x with
 | none => cases he
 | some v =>
   obtain ⟨w, rfl, h2⟩ := h v rfl; cases he; exact ⟨_, rfl, h2⟩
theorem eL {v w : DV} {r : dT} (he : some (dT.val v) = some r) (hw : rl V A v = some w) : ∃ r', some (dT.val w) = some r' /\ ER V A r r' := by
 cases he; exact ⟨_, rfl, hw⟩
theorem aDs {x : Option DV} (h : ∀ v, x = some v -> noA v = true) : ∀ v, x = some v -> ∃ w, x = some w /\ rl V A v = some w := λ v hv => ⟨v, hv, iG V A v (h v hv)⟩
theorem aAS {γ : Type} {b : Bool} {x : Option γ} {v : γ} (h : (bif b then none else x) = some v) : b = false /\ x = some v := by
 cases b with
 | true => cases h
 | false => exact ⟨rfl, h⟩
theorem rG {k : IntKind} {n : Int} : ∀ v, iO k n = some v -> noA v = true := λ v h => by rw [gP] at h; cases h; rfl
theorem pE {b : Bool} : ∀ v, eH b = some v -> noA v = true := λ v h => by rw [fR] at h; cases h; rfl
theorem aAM {s : Ln} : ∀ v, tU s = some v -> noA v = true := λ v h => by rw [fI] at h; cases h; rfl
theorem aHg {op : BinOp} {k : IntKind} {a b : Int} : ∀ v, qD op k a b = some v -> noA v = true := by
 intro v h; unfold qD at h; split at h
 all_goals first
   | exact rG v h
   | exact pE v h
   | (obtain ⟨_, h⟩ := aAS h; first | exact rG v h | (rw [lU] at h; cases h; rfl))
   | cases h
theorem aJR {op : BinOp} {k : IntKind} {a b : Int} : ∀ v, mP op k a b = some v -> noA v = true := by
 intro v h; unfold mP at h; obtain ⟨_, h⟩ := aAS h; split at h
 · exact rG v h
 · rw [lU] at h; cases h; rfl
 · cases h
theorem aHf {op : BinOp} {a b : Ln} : ∀ v, qC op a b = some v -> noA v = true := by
 intro v h; unfold qC at h; split at h
 all_goals first
   | exact pE v h
   | (obtain ⟨_, h⟩ := aI h; exact aAM v h)
   | cases h
theorem aWk {op : BinOp} {x y x' y' v : DV} (hx : rl V A x = some x') (hy : rl V A y = some y') (h : aAc op x y = some v) : ∃ w, aAc op x' y' = some w /\ rl V A v = some w := by
 unfold aAc at h; split at h
 · rename_i k a k' b; rw [cL hx, cL hy]; refine ⟨v, h, iG V A v ?_⟩; cases e : mW op with
   | true => rw [e] at h; exact aJR v h
   | false => rw [e] at h; exact aHg v (aI h).2
 · rw [lB hx, lB hy]; exact ⟨v, h, iG V A v (aHf v h)⟩
 · cases h
theorem aAb {len : Nat} {i i' : DV} {k k' : Nat -> Option DV} (hi : rl V A i = some i') (hk : ∀ n v, k n = some v -> ∃ w, k' n = some w /\ rl V A v = some w) {v : DV} (h : nR len i k = some v) : ∃ w, nR len i' k' = some w /\ rl V A v = some w := by
 unfold nR at h; split at h
 · rw [cL hi]; obtain ⟨h1, h2⟩ := aI h; obtain ⟨w, h3, h4⟩ := hk _ _ h2; exact ⟨w, by simp only [nR, h1, h3, cond_true], h4⟩
 · cases h
theorem bCI {lo lo' : Option DV} {k k' : Nat -> Option DV} (hi : ∀ x, lo = some x -> ∃ y, lo' = some y /\ rl V A x = some y) (hn : lo = none -> lo' = none) (hk : ∀ n v, k n = some v -> ∃ w, k' n = some w /\ rl V A v = some w) {v : DV} (h : dLo lo k = some v) : ∃ w, dLo lo' k' = some w /\ rl V A v = some w := by
 unfold dLo at h; split at h
 · rw [hn rfl]; exact hk _ _ h
 · obtain ⟨y, rfl, h2⟩ := hi _ rfl; rw [cL h2]; exact hk _ _ h
 · cases h
theorem bCJ {d : Nat} {lo lo' : Option DV} {k k' : Nat -> Option DV} (hi : ∀ x, lo = some x -> ∃ y, lo' = some y /\ rl V A x = some y) (hn : lo = none -> lo' = none) (hk : ∀ n v, k n = some v -> ∃ w, k' n = some w /\ rl V A v = some w) {v : DV} (h : dHi d lo k = some v) : ∃ w, dHi d lo' k' = some w /\ rl V A v = some w := by
 unfold dHi at h; split at h
 · rw [hn rfl]; exact hk _ _ h
 · obtain ⟨y, rfl, h2⟩ := hi _ rfl; rw [cL h2]; exact hk _ _ h
 · cases h
theorem aHp {b : Bool} {x y : Option DV} {v : DV} (hk : ∀ v, x = some v -> ∃ w, y = some w /\ rl V A v = some w) (h : (bif b then x else none) = some v) : ∃ w, (bif b then y else none) = some w /\ rl V A v = some w := by
 obtain ⟨h1, h2⟩ := aI h; obtain ⟨w, h3, h4⟩ := hk _ h2; exact ⟨w, by rw [h1, h3]; rfl, h4⟩
theorem jR {len cap : Nat} {lo lo' hi hi' : Option DV} {k k' : Nat -> Nat -> Option DV} (hl : ∀ x, lo = some x -> ∃ y, lo' = some y /\ rl V A x = some y) (hln : lo = none -> lo' = none)
   (hh : ∀ x, hi = some x -> ∃ y, hi' = some y /\ rl V A x = some y) (hhn : hi = none -> hi' = none)
   (hk : ∀ l h v, k l h = some v -> ∃ w, k' l h = some w /\ rl V A v = some w) {v : DV} (h : dC len cap lo hi k = some v) : ∃ w, dC len cap lo' hi' k' = some w /\ rl V A v = some w :=
 bCJ hh hhn (λ n v h => aHp (λ v h => bCI hl hln (λ l v h => aHp (λ v h => hk _ _ _ h) h) h) h) h
theorem RR.o2 (h : RR V A ρ σ) {x : Option aU} (hx : bBu x = true) : (∀ v, x.map (Go.DI.ev ρ) = some v -> ∃ w, x.map (Go.DI.ev σ) = some w /\ rl V A v = some w) /\ (x.map (Go.DI.ev ρ) = none -> x.map (Go.DI.ev σ) = none) := by
 cases x with
 | none => exact ⟨λ v hv => by (cases hv), λ _ => rfl⟩
 | some x => exact ⟨λ v hv => by cases hv; exact ⟨_, rfl, h.ev hx⟩, λ hv => by cases hv⟩
theorem aDJ (hA : A.inj) (hh : RdR V A rd rd') {x y x' y' : DV} {t : Bool} (hx : rl V A x = some x') (hy : rl V A y = some y') (h : pD rd x y = some t) : pD rd' x' y' = some t := by
 unfold pD at h; split at h
 · rw [aCb hx, aCb hy]; exact h
 · obtain ⟨c, _, rfl⟩ := jD hy; rw [aCb hx]; exact h
 · obtain ⟨c, _, rfl⟩ := jD hx; rw [aCb hy]; exact h
 · rename_i b o b' o'; obtain ⟨c, hc, rfl⟩ := jD hx; obtain ⟨c', hc', rfl⟩ := jD hy; simp only [pD]; by_cases e : b = b'
   · subst e; rw [hc] at hc'; cases hc'; rw [Nat.beq_refl] at h ⊢; exact h
   · have e1 : Nat.beq b b' = false := by rw [Bool.eq_false_iff]; intro q; exact e (Nat.eq_of_beq_eq_true q)
     have e2 : Nat.beq c c' = false := by
       rw [Bool.eq_false_iff]; intro q; have := Nat.eq_of_beq_eq_true q; subst this; exact e (hA _ _ _ hc hc')
     rw [e1] at h; rw [e2]; simp only [cond_false] at h ⊢; split at h
     · rename_i B B' hB hB'; obtain ⟨C, f1, _, _, _, f5, _⟩ := hh.blk hc hB; obtain ⟨C', g1, _, _, _, g5, _⟩ := hh.blk hc' hB'; rw [f1, g1]; simp only [f5, g5]; exact h
     · cases h
 · cases h
theorem aFF (hA : A.inj) (hh : RdR V A rd rd') {k : nW} {x y x' y' : DV} {t : Bool} (hx : rl V A x = some x') (hy : rl V A y = some y') (h : jF rd k x y = some t) : jF rd' k x' y' = some t := by
 unfold jF at h; split at h
 · rw [kV hx, kV hy]; exact h
 · rw [cL hx, cL hy]; exact h
 · rw [lB hx, lB hy]; exact h
 · exact aDJ hA hh hx hy h
 · cases h
theorem aKg (hA : A.inj) (hh : RdR V A rd rd') {k : nW} : ∀ {xs ys xs' ys' : List DV} {t : Bool}, gQ V A xs = some xs' -> gQ V A ys = some ys' -> wT rd k xs ys = some t -> wT rd' k xs' ys' = some t
 | [], [], _, _, t, hx, hy, h => by cases hx; cases hy; exact h
 | [], _ :: _, _, _, t, hx, hy, h => by cases h
 | a :: as, [], _, _, t, hx, hy, h => by cases h
 | a :: as, b :: bs, _, _, t, hx, hy, h => by
   obtain ⟨a', as', h1, h2, rfl⟩ := aE.1 hx; obtain ⟨b', bs', h3, h4, rfl⟩ := aE.1 hy
   replace h : (match jF rd k a b with | some c => bif c then wT rd k as bs else some false | none => none) = some t := h
   show (match jF rd' k a' b' with | some c => bif c then wT rd' k as' bs' else some false | none => none) = some t
   split at h
   · rename_i c hc; rw [aFF hA hh h1 h3 hc]; cases c with
     | true => exact aKg hA hh h2 h4 h
     | false => exact h
   · cases h
theorem uU (hA : A.inj) (hh : RdR V A rd rd') : ∀ (s : EqS) {xs ys xs' ys' : List DV} {t : Bool}, gQ V A xs = some xs' -> gQ V A ys = some ys' -> jZ rd s xs ys = some t -> jZ rd' s xs' ys' = some t
 | .nil, xs, ys, xs', ys', t, hx, hy, h => h
 | .leaf k off tl, xs, ys, xs', ys', t, hx, hy, h => by
   replace h : (match xs[off]?, ys[off]? with
     | some a, some b => match jF rd k a b with
       | some c => bif c then jZ rd tl xs ys else some false
       | none => none
     | _, _ => none) = some t := h
   show (match xs'[off]?, ys'[off]? with
     | some a, some b => match jF rd' k a b with
       | some c => bif c then jZ rd' tl xs' ys' else some false
       | none => none
     | _, _ => none) = some t
   split at h
   · rename_i a b ha hb; obtain ⟨a', e1, e2⟩ := mT hx _ _ ha; obtain ⟨b', e3, e4⟩ := mT hy _ _ hb; rw [e1, e3]; simp only; split at h
     · rename_i c hc; rw [aFF hA hh e2 e4 hc]; cases c with
       | true => exact uU hA hh tl hx hy h
       | false => exact h
     · cases h
   · cases h
 | .sub off n hd tl, xs, ys, xs', ys', t, hx, hy, h => by
   replace h : (bif Nat.ble (off + n) xs.length && Nat.ble (off + n) ys.length then
     (match jZ rd hd ((xs.drop off).take n) ((ys.drop off).take n) with
       | some c => bif c then jZ rd tl xs ys else some false
       | none => none) else none) = some t := h
   show (bif Nat.ble (off + n) xs'.length && Nat.ble (off + n) ys'.length then
     (match jZ rd' hd ((xs'.drop off).take n) ((ys'.drop off).take n) with
       | some c => bif c then jZ rd' tl xs' ys' else some false
       | none => none) else none) = some t
   rw [eU hx, eU hy]; obtain ⟨h1, h⟩ := aI h; rw [h1]; simp only [cond_true]; split at h
   · rename_i c hc; rw [uU hA hh hd (oT (oU hx _) _) (oT (oU hy _) _) hc]; cases c with
     | true => exact uU hA hh tl hx hy h
     | false => exact h
   · cases h
 | .arr k off n tl, xs, ys, xs', ys', t, hx, hy, h => by
   replace h : (bif Nat.ble (off + n) xs.length && Nat.ble (off + n) ys.length then
     (match wT rd k ((xs.drop off).take n) ((ys.drop off).take n) with
       | some c => bif c then jZ rd tl xs ys else some false
       | none => none) else none) = some t := h
   show (bif Nat.ble (off + n) xs'.length && Nat.ble (off + n) ys'.length then
     (match wT rd' k ((xs'.drop off).take n) ((ys'.drop off).take n) with
       | some c => bif c then jZ rd' tl xs' ys' else some false
       | none => none) else none) = some t
   rw [eU hx, eU hy]; obtain ⟨h1, h⟩ := aI h; rw [h1]; simp only [cond_true]; split at h
   · rename_i c hc; rw [aKg hA hh (oT (oU hx _) _) (oT (oU hy _) _) hc]; cases c with
     | true => exact uU hA hh tl hx hy h
     | false => exact h
   · cases h
theorem bCK (hA : A.inj) (hh : RdR V A rd rd') {q : EqT} (hq : okT q = true) {x y x' y' : DV} {t : Bool} (hx : rl V A x = some x') (hy : rl V A y = some y') (h : dEq rd q x y = some t) : dEq rd' q x' y' = some t := by
 unfold dEq at h; split at h
 · rw [kV hx, kV hy]; exact h
 · rw [rZ hx, rZ hy]; exact h
 · obtain ⟨_, _, rfl⟩ := xR hy; rw [rZ hx]; exact h
 · obtain ⟨_, _, rfl⟩ := xR hx; rw [rZ hy]; exact h
 · obtain ⟨_, _, rfl⟩ := xR hy; rw [rZ hx]; exact h
 · obtain ⟨_, _, rfl⟩ := xR hx; rw [rZ hy]; exact h
 · rw [fW hx, fW hy]; exact h
 · obtain ⟨_, _, rfl⟩ := fV hy; rw [fW hx]; exact h
 · obtain ⟨_, _, rfl⟩ := fV hx; rw [fW hy]; exact h
 · obtain ⟨_, _, rfl⟩ := nL hy; rw [fW hx]; exact h
 · obtain ⟨_, _, rfl⟩ := nL hx; rw [fW hy]; exact h
 · cases hq
 · cases hq
 · cases hq
 · rw [aCd hx, aCd hy]; exact h
 · obtain ⟨_, _, _, _, rfl⟩ := aOs hy; rw [aCd hx]; exact h
 · obtain ⟨_, _, _, _, rfl⟩ := aOs hx; rw [aCd hy]; exact h
 · exact aDJ hA hh hx hy h
 · cases h
theorem aAa {kt : nW} {x y x' y' : DV} {t : Bool} (hx : rl V A x = some x') (hy : rl V A y = some y') (h : nQ kt x y = some t) : nQ kt x' y' = some t := by
 unfold nQ at h; split at h
 · rw [kV hx, kV hy]; exact h
 · rw [cL hx, cL hy]; exact h
 · rw [lB hx, lB hy]; exact h
 · cases h
theorem aFH {kt : nW} {k k' : DV} (hk : rl V A k = some k') : ∀ {ds es : List dJ} {r : Option DV}, iF V A ds es -> rH kt k ds = some r -> ∃ r', rH kt k' es = some r' /\ (∀ v, r = some v -> ∃ w, r' = some w /\ rl V A v = some w) /\ (r = none -> r' = none)
 | [], [], r, _, h => by cases h; exact ⟨none, rfl, λ v hv => by (cases hv), λ _ => rfl⟩
 | [], _ :: _, r, hr, h => hr.elim
 | _ :: _, [], r, hr, h => hr.elim
 | d :: ds, e :: es, r, hr, h => by
   replace h : (match nQ kt k d.key with
     | some b => bif b then some (some d.val) else rH kt k ds
     | none => none) = some r := h
   show ∃ r', (match nQ kt k' e.key with
     | some b => bif b then some (some e.val) else rH kt k' es
     | none => none) = some r' /\ _
   split at h
   · rename_i b hb; rw [aAa hk hr.1.1 hb]; cases b with
     | true => cases h; exact ⟨_, rfl, λ v hv => by cases hv; exact ⟨_, rfl, hr.1.2.1⟩, λ hn => by cases hn⟩
     | false => exact aFH hk hr.2 h
   · cases h
theorem aIQ : ∀ (vs vs' : List DV) (k : Nat) (cs cs' : List DV), gQ V A vs = some vs' -> gQ V A cs = some cs' -> gQ V A (pW cs k vs) = some (pW cs' k vs')
 | [], _, k, cs, cs', h, hc => by cases h; exact hc
 | v :: vs, _, k, cs, cs', h, hc => by
   obtain ⟨v', vs', h1, h2, rfl⟩ := aE.1 h; exact aIQ vs vs' (k + 1) _ _ h2 (aOo hc k v v' h1)
theorem aAO (h : RR V A ρ σ) : ∀ (ps : List (Nat × Nat × aU)) (cs cs' vs : List DV), bGT ps = true -> gQ V A cs = some cs' -> fG cs (ps.map λ p => (p.1, p.2.1, Go.DI.ev ρ p.2.2)) = some vs ->
   ∃ ws, fG cs' (ps.map λ p => (p.1, p.2.1, Go.DI.ev σ p.2.2)) = some ws /\ gQ V A vs = some ws
 | [], cs, cs', vs, _, hc, hf => by cases hf; exact ⟨cs', rfl, hc⟩
 | p :: ps, cs, cs', vs, hp, hc, hf => by
   simp only [bGT, List.all_cons, Bool.and_eq_true] at hp; simp only [List.map_cons, fG] at hf ⊢; obtain ⟨h1, h2⟩ := aI hf; have hv := aCR (h.ev hp.1); rw [<- eU hv, <- eU hc] at h1; rw [h1]; exact aAO h ps _ _ vs hp.2 (aIQ _ _ _ _ _ hv hc) h2
theorem bAM (V : Vl) (A : Re) {z : Zs} (h : okZ z = true) : ∀ j v, z.tr.at_ j = some v -> ∃ w, z.tr.at_ j = some w /\ rl V A v = some w := by
 have hl : ∀ (zs : List DV), sZ zs = true -> ∀ j v, zs[j]? = some v -> rl V A v = some v := λ zs hz j v hv => by
   obtain ⟨w, h1, h2⟩ := mT (jM V A zs hz) j v hv; rw [hv] at h1; cases h1; exact h2
 have hf : ∀ (x : DV) (d : Nat) (p : Pa) (v : DV), Tr.get p (Tr.full x d) = some v -> v = x := by
   intro x d
   induction d with
   | zero => intro p v hv; rw [show Tr.full x 0 = Tr.e from rfl, Tr.get_e] at hv; cases hv
   | succ d ih =>
     intro p v hv; cases p with
     | h => cases hv; rfl
     | l p => exact ih p v hv
     | r p => exact ih p v hv
 intro j v hv; refine ⟨v, hv, ?_⟩; cases z with
 | list zs => rw [show Zs.tr (.list zs) = Tr.ofL zs from rfl, Tr.at_ofL] at hv; exact hl zs h j v hv
 | full n x => rw [hf x 24 _ v hv]; exact iG V A x h
 | fullThen n x zs =>
   simp only [okZ, Bool.and_eq_true] at h; rw [show Zs.tr (.fullThen n x zs) = Tr.ofF zs n (Tr.full x 24) from rfl, Tr.at_ofF] at hv
   split at hv
   · exact hl zs h.2 _ v hv
   · rw [hf x 24 _ v hv]; exact iG V A x h.1
theorem aSV (V : Vl) (A : Re) {x : DV} (h : noA x = true) (d j : Nat) (v : DV) (hv : (Tr.full x d).at_ j = some v) : ∃ w, (Tr.full x d).at_ j = some w /\ rl V A v = some w := by
 have hf : ∀ (d : Nat) (p : Pa) (v : DV), Tr.get p (Tr.full x d) = some v -> v = x := by
   intro d
   induction d with
   | zero => intro p v hv; rw [show Tr.full x 0 = Tr.e from rfl, Tr.get_e] at hv; cases hv
   | succ d ih =>
     intro p v hv; cases p with
     | h => cases hv; rfl
     | l p => exact ih p v hv
     | r p => exact ih p v hv
 refine ⟨v, hv, ?_⟩; rw [hf d _ v hv]; exact iG V A x h
theorem nZ {vs ws : List DV} (h : gQ V A vs = some ws) : ∀ j v, (Tr.ofL vs).at_ j = some v -> ∃ w, (Tr.ofL ws).at_ j = some w /\ rl V A v = some w := by
 intro j v hv; rw [Tr.at_ofL] at hv ⊢; exact mT h j v hv
theorem aBK : ∀ {vs ws : List DV} {s : Ln}, gQ V A vs = some ws -> jG vs = some s -> jG ws = some s
 | [], _, s, h, e => by cases h; exact e
 | v :: vs, _, s, h, e => by
   obtain ⟨w, ws, h1, h2, rfl⟩ := aE.1 h; simp only [jG] at e ⊢; split at e
   · rename_i b bs hb hbs; rw [aBK h2 hbs]; have : yJ w = some b := by
       unfold yJ at hb; split at hb
       · rw [cL h1]; exact hb
       · cases hb
     rw [this]; exact e
   · cases e
theorem aPc (hA : A.inj) (hh : RdR V A rd rd') (h : RR V A ρ σ) {d : vN} {r : dT} (hd : okE d = true) (he : cG d ρ rd = some r) : ∃ r', cG d σ rd' = some r' /\ ER V A r r' := by
 cases d <;> simp only [okE, Bool.and_eq_true] at hd <;> simp only [cG] at he ⊢
 case bad => cases he
 case prm k x y =>
   have tx := h.ev hd.1; have ty := h.ev hd.2; split at he
   · rename_i s k' c e1 e2; rw [e1] at tx; rw [e2] at ty; rw [lB tx, cL ty]; obtain ⟨h1, he⟩ := aI he; simp only [h1, cond_true]; split at he
     · rw [lU] at he ⊢; cases he; exact ⟨_, rfl, rfl⟩
     · rw [aM] at he ⊢; cases he; exact ⟨_, rfl, rfl⟩
   · cases he
 case lkp kt z ok x k =>
   have tx := h.ev hd.2.1; have tk := h.ev hd.2.2; have fin : ∀ {a b : Option DV}, (match a with | some v => dT.val (bif ok then .tup [v, .bool true] else v) | none => .val (bif ok then .tup [z, .bool false] else z)) = r ->
       (∀ v, a = some v -> ∃ w, b = some w /\ rl V A v = some w) -> (a = none -> b = none) -> ER V A r (match b with | some v => dT.val (bif ok then .tup [v, .bool true] else v) | none => .val (bif ok then .tup [z, .bool false] else z)) := by
     intro a b e h1 h2; subst e; cases a with
     | none =>
       rw [h2 rfl]; cases ok with
       | true => exact kL (aE.2 ⟨_, _, iG V A z hd.1, rfl, rfl⟩)
       | false => exact iG V A z hd.1
     | some v =>
       obtain ⟨w, rfl, h4⟩ := h1 v rfl; cases ok with
       | true => exact kL (aE.2 ⟨_, _, h4, rfl, rfl⟩)
       | false => exact h4
   split at he
   · rename_i e1; rw [e1] at tx; rw [aCc tx]; simp only [Option.map_some, Option.some.injEq] at he; exact ⟨_, rfl, fin (a := none) (b := none) he (λ v hv => by cases hv) (λ _ => rfl)⟩
   · rename_i b e1; rw [e1] at tx; rcases uI tx with ⟨u, hu, e2⟩ | ⟨_, c, hc, e2⟩
     · rw [hh.unk b u hu] at he; cases he
     rw [e2]; split at he
     · rename_i es ck hg; obtain ⟨fs, g1, g2⟩ := hh.map hc hg; simp only [g1]; cases hf : rH kt (ev ρ k) es with
       | none => rw [hf] at he; cases he
       | some a =>
         rw [hf] at he; obtain ⟨b', f1, f2, f3⟩ := aFH tk g2 hf; rw [f1]; simp only [Option.map_some, Option.some.injEq] at he; exact ⟨_, rfl, fin he f2 f3⟩
     · cases he
   · cases he
 case slM es x lo hi mx =>
   obtain ⟨⟨⟨hx, hlo⟩, hhi⟩, hmx⟩ := hd; have tx := h.ev hx; have tm := h.ev hmx; have th := h.ev hhi; obtain ⟨l1, l2⟩ := h.o2 hlo; have h1 : ∀ x, some (ev ρ hi) = some x -> ∃ y, some (ev σ hi) = some y /\ rl V A x = some y := λ x e => by cases e; exact ⟨_, rfl, th⟩
   split at he
   · rename_i k e1; rw [e1] at tm; rw [cL tm]; simp only; split at he
     · rename_i e2; rw [e2] at tx; rw [fW tx]; obtain ⟨c1, he⟩ := aI he; simp only [c1, cond_true]; exact fL he λ v hv => jR l1 l2 h1 (λ e => by cases e) (λ l h v e => ⟨v, e, by cases e; rfl⟩) hv
     · rename_i b o len cap op e2; rw [e2] at tx; obtain ⟨c, hc, e3⟩ := fV tx; rw [e3]; obtain ⟨c1, he⟩ := aI he; simp only [c1, cond_true]; refine fL he λ v hv => jR l1 l2 h1 (λ e => by cases e) (λ l h v e => ?_) hv
       cases q : Nat.blt l k with
       | true =>
         rw [q] at e; simp only [cond_true, aM] at e ⊢; cases e; exact ⟨_, rfl, fQ hc⟩
       | false =>
         rw [q] at e; simp only [cond_false] at e ⊢; cases e; exact ⟨_, rfl, fQ hc⟩
     · cases he
   · cases he
 case mv x => exact eL he (h.ev hd)
 case pick c a b =>
   have tc := h.ev hd.1.1; split at he
   · rename_i t e1; rw [e1] at tc; rw [kV tc]; cases t with
     | true => exact eL he (h.ev hd.1.2)
     | false => exact eL he (h.ev hd.2)
   · cases he
 case bin op x y => exact fL he λ v hv => aWk (h.ev hd.1) (h.ev hd.2) hv
 case eqv t neg x y =>
   refine fL he λ v hv => ?_
   cases hq : dEq rd t (ev ρ x) (ev ρ y) with
   | none => rw [hq] at hv; cases hv
   | some b =>
     rw [hq] at hv; rw [bCK hA hh hd.1 (h.ev hd.2.1) (h.ev hd.2.2) hq]; exact ⟨v, hv, iG V A v (pE v hv)⟩
 case eqs neg s x y =>
   have tx := h.ev hd.1; have ty := h.ev hd.2; split at he
   · rename_i xs ys e1 e2; rw [e1] at tx; rw [e2] at ty; obtain ⟨xs', h1, e3⟩ := nM tx; obtain ⟨ys', h2, e4⟩ := nM ty; rw [e3, e4]; refine fL he λ v hv => ?_
     cases hq : jZ rd s xs ys with
     | none => rw [hq] at hv; cases hv
     | some b =>
       rw [hq] at hv; rw [uU hA hh s h1 h2 hq]; exact ⟨v, hv, iG V A v (pE v hv)⟩
   · cases he
 case not x =>
   have tx := h.ev hd; split at he
   · rename_i b e1; rw [e1] at tx; rw [kV tx]; exact fL he (aDs pE)
   · cases he
 case neg x =>
   have tx := h.ev hd; split at he
   · rename_i b e1; rw [e1] at tx; rw [cL tx]; exact fL he (aDs rG)
   · cases he
 case conv k x =>
   have tx := h.ev hd; split at he
   · rename_i b e1; rw [e1] at tx; rw [cL tx]; exact fL he (aDs rG)
   · cases he
 case same x =>
   have tx := h.ev hd; split at he
   · rename_i b e1; rw [e1] at tx; rw [lB tx]; exact eL he rfl
   · cases he
 case b2s x =>
   have tx := h.ev hd; split at he
   · rename_i e1; rw [e1] at tx; rw [fW tx]; exact eL he rfl
   · rename_i b o o2 e1; rw [e1] at tx; obtain ⟨c, hc, e2⟩ := nL tx; rw [e2]; exact eL he rfl
   · rename_i b o len cap op e1; rw [e1] at tx; obtain ⟨c, hc, e2⟩ := fV tx; rw [e2]; refine fL he λ v hv => ?_
     cases hr : rdCells rd b o len with
     | none => rw [hr] at hv; cases hv
     | some vs =>
       rw [hr] at hv; obtain ⟨ws, g1, g2⟩ := gE hh hc _ _ hr; simp only [g1, Option.bind_some] at hv ⊢; cases hb : jG vs with
       | none => rw [hb] at hv; cases hv
       | some s =>
         rw [hb] at hv; rw [aBK g2 hb]; exact ⟨v, hv, iG V A v (aAM v hv)⟩
   · cases he
 case mkI t x => exact eL he (aIU (h.ev hd))
 case mkF f a c => exact eL he (aOr (h.evs hd.1) (h.evs hd.2))
 case ld x =>
   have tx := h.ev hd; split at he
   · rename_i b o e1; rw [e1] at tx; obtain ⟨c, hc, e2⟩ := jD tx; rw [e2]; exact fL he λ v hv => sP hh hc hv
   · cases he
 case ldN n x =>
   have tx := h.ev hd; split at he
   · rename_i b o e1; rw [e1] at tx; obtain ⟨c, hc, e2⟩ := jD tx; rw [e2]; refine fL he λ v hv => ?_
     cases hr : rdCells rd b o n with
     | none => rw [hr] at hv; cases hv
     | some vs =>
       rw [hr] at hv; obtain ⟨ws, g1, g2⟩ := gE hh hc _ _ hr; rw [g1]; cases hv; exact ⟨_, rfl, oV g2⟩
   · cases he
 case nilchk x =>
   have tx := h.ev hd; split at he
   · rename_i b o e1; rw [e1] at tx; obtain ⟨c, hc, e2⟩ := jD tx; rw [e2]; exact eL he (gZ hc)
   · cases he
 case fa off x =>
   have tx := h.ev hd; split at he
   · rename_i b o e1; rw [e1] at tx; obtain ⟨c, hc, e2⟩ := jD tx; rw [e2]; simp only [aM] at he ⊢; exact eL he (gZ hc)
   · cases he
 case fld off n agg x =>
   have tx := h.ev hd; split at he
   · rename_i cs e1; rw [e1] at tx; obtain ⟨cs', hc, e2⟩ := nM tx; rw [e2]; simp only [eU hc]; cases agg with
     | true =>
       simp only [cond_true] at he ⊢; obtain ⟨q, he⟩ := aI he; simp only [q, cond_true]; exact eL he (oV (oT (oU hc _) _))
     | false => exact fL he λ v hv => mT hc _ _ hv
   · cases he
 case iaA len es x i =>
   have tx := h.ev hd.1; split at he
   · rename_i b o e1; rw [e1] at tx; obtain ⟨c, hc, e2⟩ := jD tx; rw [e2]; refine fL he λ v hv => aAb (h.ev hd.2) (λ n v e => ?_) hv
     rw [aM] at e ⊢; cases e; exact ⟨_, rfl, gZ hc⟩
   · cases he
 case iaS es x i =>
   have tx := h.ev hd.1; split at he
   · rename_i b o len e1; rw [e1] at tx; obtain ⟨c, hc, e2⟩ := fV tx; rw [e2]; refine fL he λ v hv => aAb (h.ev hd.2) (λ n v e => ?_) hv
     rw [aM] at e ⊢; cases e; exact ⟨_, rfl, gZ hc⟩
   · cases he
 case ixA len es agg x i =>
   have tx := h.ev hd.1; split at he
   · rename_i cs e1; rw [e1] at tx; obtain ⟨cs', hc, e2⟩ := nM tx; rw [e2]; refine fL he λ v hv => aAb (h.ev hd.2) (λ n v e => ?_) hv
     simp only [eU hc]; cases agg with
     | true => exact aHp (λ v hv => by cases hv; exact ⟨_, rfl, oV (oT (oU hc _) _)⟩) e
     | false => exact mT hc _ _ e
   · cases he
 case ixS x i =>
   have tx := h.ev hd.1; split at he
   · rename_i s e1; rw [e1] at tx; rw [lB tx]; refine fL he λ v hv => aAb (h.ev hd.2) (λ n v e => ⟨v, e, ?_⟩) hv
     cases hs : s[n]? with
     | none => rw [hs] at e; cases e
     | some b => rw [hs] at e; cases e; rfl
   · cases he
 case slS x lo hi =>
   have tx := h.ev hd.1.1; obtain ⟨l1, l2⟩ := h.o2 hd.1.2; obtain ⟨u1, u2⟩ := h.o2 hd.2; split at he
   · rename_i s e1; rw [e1] at tx; rw [lB tx]; exact fL he λ v hv => jR l1 l2 u1 u2 (λ l h v e => ⟨v, e, iG V A v (aAM v e)⟩) hv
   · cases he
 case slL es x lo hi =>
   have tx := h.ev hd.1.1; obtain ⟨l1, l2⟩ := h.o2 hd.1.2; obtain ⟨u1, u2⟩ := h.o2 hd.2; split at he
   · rename_i e1; rw [e1] at tx; rw [fW tx]; exact fL he λ v hv => jR l1 l2 u1 u2 (λ l h v e => by cases e; exact ⟨_, rfl, rfl⟩) hv
   · rename_i b o len cap op e1; rw [e1] at tx; obtain ⟨c, hc, e2⟩ := fV tx; rw [e2]; refine fL he λ v hv => jR l1 l2 u1 u2 (λ l h v e => ?_) hv
     cases q : Nat.blt l cap with
     | true =>
       rw [q] at e; simp only [cond_true, aM] at e ⊢; cases e; exact ⟨_, rfl, fQ hc⟩
     | false =>
       rw [q] at e; simp only [cond_false] at e ⊢; cases op with
       | true => simp only [cond_true, aM] at e ⊢; cases e; exact ⟨_, rfl, aCQ hc⟩
       | false => cases e; exact ⟨_, rfl, fQ hc⟩
   · rename_i b o o2 e1; rw [e1] at tx; obtain ⟨c, hc, e2⟩ := nL tx; rw [e2]; exact fL he λ v hv => jR l1 l2 u1 u2 (λ l h v e => by cases e; exact ⟨_, rfl, aCQ hc⟩) hv
   · cases he
 case slA n es x lo hi =>
   have tx := h.ev hd.1.1; obtain ⟨l1, l2⟩ := h.o2 hd.1.2; obtain ⟨u1, u2⟩ := h.o2 hd.2; split at he
   · rename_i b o e1; rw [e1] at tx; obtain ⟨c, hc, e2⟩ := jD tx; rw [e2]; refine fL he λ v hv => jR l1 l2 u1 u2 (λ l h v e => ?_) hv
     cases q : Nat.blt l n with
     | true =>
       rw [q] at e; simp only [cond_true, aM] at e ⊢; cases e; exact ⟨_, rfl, fQ hc⟩
     | false =>
       rw [q] at e; simp only [cond_false] at e ⊢; cases e; exact ⟨_, rfl, fQ hc⟩
   · cases he
 case ext i x =>
   have tx := h.ev hd; split at he
   · rename_i vs e1; rw [e1] at tx; obtain ⟨ws, hc, e2⟩ := qF tx; rw [e2]; exact fL he λ v hv => mT hc _ _ hv
   · cases he
 case lenS x =>
   have tx := h.ev hd; split at he
   · rename_i s e1; rw [e1] at tx; rw [lB tx]; simp only [aM] at he ⊢; exact eL he rfl
   · cases he
 case lenL x =>
   have tx := h.ev hd; split at he
   · rename_i e1; rw [e1] at tx; rw [fW tx]; exact eL he rfl
   · rename_i b o len cap op e1; rw [e1] at tx; obtain ⟨c, hc, e2⟩ := fV tx; rw [e2]; exact eL he rfl
   · rename_i b o o2 e1; rw [e1] at tx; obtain ⟨c, hc, e2⟩ := nL tx; rw [e2]; exact eL he rfl
   · cases he
 case lenM x =>
   have tx := h.ev hd; split at he
   · rename_i e1; rw [e1] at tx; rw [aCc tx]; exact eL he rfl
   · rename_i b e1; rw [e1] at tx; rcases uI tx with ⟨u, hu, e2⟩ | ⟨_, c, hc, e2⟩
     · rw [hh.unk b u hu] at he; cases he
     rw [e2]; split at he
     · rename_i es ck hg; obtain ⟨fs, g1, g2⟩ := hh.map hc hg; simp only [g1, aM, g2.length] at he ⊢; exact eL he rfl
     · cases he
   · cases he
 case capL x =>
   refine fL he λ v hv => ?_
   have tx := h.ev hd; unfold aFI at hv; split at hv
   · rename_i e1; rw [e1] at tx; rw [fW tx]; cases hv; exact ⟨_, rfl, rfl⟩
   · rename_i b o len cap op e1; rw [e1] at tx; obtain ⟨c, hc, e2⟩ := fV tx; rw [e2]; obtain ⟨q, hv⟩ := aAS hv; cases hv; exact ⟨_, by simp only [aFI, q, cond_false], rfl⟩
   · cases hv
 case ovl x y =>
   refine fL he λ v hv => ?_
   have tx := h.ev hd.1; have ty := h.ev hd.2; unfold aHe at hv; split at hv
   · rename_i b o1 l1 c1 p1 b' o2 l2 c2 p2 e1 e2; rw [e1] at tx; rw [e2] at ty; obtain ⟨c, hc, e3⟩ := fV tx; obtain ⟨c', hc', e4⟩ := fV ty; rw [e3, e4]; split at hv
     · rename_i B C hB hC; obtain ⟨B', f1, f2, _, _, f5, _⟩ := hh.blk hc hB; obtain ⟨C', g1, g2, _, _, _, _⟩ := hh.blk hc' hC; obtain ⟨q, hv⟩ := aI hv; simp only [Bool.and_eq_true, Bool.not_eq_true'] at q; have hne : Nat.beq c c' = false := by
         rw [Bool.eq_false_iff]; intro z; have := Nat.eq_of_beq_eq_true z; subst this; have := hA _ _ _ hc hc'; subst this; rw [Nat.beq_refl] at q; exact absurd q.1.1 (by simp)
       cases hv; exact ⟨.bool false, by simp only [aHe, f1, g1, hne, f5, g2, q.1.2, q.2, Bool.not_false, Bool.and_self, cond_true], rfl⟩
     · cases hv
   · cases hv
 case lenA n => exact eL he rfl
 case mn a b =>
   have tx := h.ev hd.1; have ty := h.ev hd.2; split at he
   · rename_i k x k' y e1 e2; rw [e1] at tx; rw [e2] at ty; rw [cL tx, cL ty]; exact eL he rfl
   · cases he
 case mx a b =>
   have tx := h.ev hd.1; have ty := h.ev hd.2; split at he
   · rename_i k x k' y e1 e2; rw [e1] at tx; rw [e2] at ty; rw [cL tx, cL ty]; exact eL he rfl
   · cases he
 case bld z ps =>
   refine fL he λ v hv => ?_
   cases hf : fG z (ps.map λ p => (p.1, p.2.1, ev ρ p.2.2)) with
   | none => rw [hf] at hv; cases hv
   | some vs =>
     rw [hf] at hv; obtain ⟨ws, g1, g2⟩ := aAO h ps z z vs hd.2 (jM V A z hd.1) hf; rw [g1]; cases hv; exact ⟨_, rfl, oV g2⟩
 case tas t z ok x =>
   have tx := h.ev hd.2; have hz : rl V A (.tup [z, .bool false]) = some (.tup [z, .bool false]) := kL (aE.2 ⟨_, _, iG V A z hd.1, rfl, rfl⟩); split at he
   · rename_i e1; rw [e1] at tx; rw [rZ tx]; obtain ⟨q, he⟩ := aI he; simp only [q, cond_true]; exact eL he hz
   · rename_i u v e1; rw [e1] at tx; obtain ⟨v', hv, e2⟩ := xR tx; rw [e2]; simp only; cases q : Nat.beq u t with
     | true =>
       rw [q] at he; simp only [cond_true] at he ⊢; cases ok with
       | true => exact eL he (kL (aE.2 ⟨_, _, hv, rfl, rfl⟩))
       | false => exact eL he hv
     | false =>
       rw [q] at he; simp only [cond_false] at he ⊢; obtain ⟨q, he⟩ := aI he; simp only [q, cond_true]; exact eL he hz
   · cases he
 case alc n es z =>
   cases he; exact ⟨_, rfl, ⟨rfl, rfl, rfl, rfl, bAM V A hd⟩, λ A' b c _ _ hb => gZ hb⟩
 case box x =>
   have tx := aCR (h.ev hd); simp only [aM, eU tx] at he ⊢; cases he; exact ⟨_, rfl, ⟨rfl, rfl, rfl, rfl, nZ tx⟩, λ A' b c _ _ hb => gZ hb⟩
 case bsl n es z ps =>
   cases hf : fG (iI z n) (ps.map λ p => (p.1, p.2.1, ev ρ p.2.2)) with
   | none => rw [hf] at he; cases he
   | some vs =>
     rw [hf] at he; obtain ⟨ws, g1, g2⟩ := aAO h ps _ _ vs hd.2 (zI (jM V A z hd.1) n) hf; rw [g1]; cases he; exact ⟨_, rfl, ⟨rfl, rfl, rfl, rfl, nZ g2⟩, λ A' b c _ _ hb => fQ hb⟩
 case mks es bytes z l c =>
   have tx := h.ev hd.2.1; have ty := h.ev hd.2.2; split at he
   · rename_i k x k' y e1 e2; rw [e1] at tx; rw [e2] at ty; rw [cL tx, cL ty]; simp only; obtain ⟨q, he⟩ := aI he; simp only [q, cond_true]; cases he; exact ⟨_, rfl, ⟨rfl, rfl, rfl, rfl, λ j v hv => aSV V A hd.1 48 j v hv⟩, λ A' b c _ _ hb => fQ hb⟩
   · cases he
 case mkm =>
   cases he; exact ⟨_, rfl, ⟨rfl, trivial⟩, λ A' b c _ hn hb => bBi hn hb⟩
 case s2b x =>
   have tx := h.ev hd; split at he
   · rename_i s e1; rw [e1] at tx; rw [lB tx]; simp only [aM] at he ⊢; cases he; exact ⟨_, rfl, ⟨rfl, rfl, rfl, rfl, nZ (zH (λ x => rfl) s)⟩, λ A' b c _ _ hb => fQ hb⟩
   · cases he
end
end Go.DI
namespace Go.DI
structure HR (V : Vl) (O : Nat -> Prop) (A : Re) (h g : H) : Prop where
 inj : A.inj
 dom : ∀ b c, A b = some c -> b < h.size /\ c < g.size
 obj0 : ∀ b c o, A b = some c -> h.get b = some o -> OR V A o (g.get c)
 opq : ∀ b, O b -> b < h.size /\ h.get b = none
 unk : ∀ b u, V b = some u -> O b
theorem HR.obj {V : Vl} {O : Nat -> Prop} {A : Re} {h g : H} (r : HR V O A h g) : RdR V A h.get g.get := ⟨r.obj0, λ b u hu => (r.opq b (r.unk b u hu)).2⟩
theorem HR.fresh {V : Vl} {O : Nat -> Prop} {A : Re} {h g : H} (r : HR V O A h g) : V h.size = none := by
 cases hu : V h.size with
 | none => rfl
 | some u => have := (r.opq _ (r.unk _ u hu)).1; omega
structure xH (O : Nat -> Prop) (A : Re) (g : H) (A' : Re) (g' : H) : Prop where
 le : A.le A'
 size : g.size <= g'.size
 fr : ∀ c, c < g.size -> (∀ b, A b = some c -> O b) -> g'.get c = g.get c
 new : ∀ b c, A' b = some c -> A b = some c \/ g.size <= c
theorem xH.refl (O : Nat -> Prop) (A : Re) (g : H) : xH O A g A g := ⟨A.le_refl, Nat.le_refl _, λ _ _ _ => rfl, λ _ _ e => .inl e⟩
theorem xH.trans {O : Nat -> Prop} {A A' A'' : Re} {g g' g'' : H} (s : xH O A g A' g') (t : xH O A' g' A'' g'') : xH O A g A'' g'' :=
 ⟨s.le.trans t.le, Nat.le_trans s.size t.size, λ c hc hn => by
   rw [t.fr c (Nat.lt_of_lt_of_le hc s.size) λ b hb => by
     rcases s.new b c hb with h | h
     · exact hn b h
     · omega, s.fr c hc hn],
  λ b c e => by
   rcases t.new b c e with h | h
   · exact s.new b c h
   · exact .inr (Nat.le_trans s.size h)⟩
def Re.ins (A : Re) (b c : Nat) : Re := λ x => if x = b then some c else A x
section
variable {V : Vl} {O : Nat -> Prop} {A : Re} {h g h' : H} {v : DV}
theorem HR.push (r : HR V O A h g) {o q : eE} (ho : OR V A o (some q)) : HR V O (A.ins h.size g.size) (h.push o) (g.push q) /\ xH O A g (A.ins h.size g.size) (g.push q) /\ (A.ins h.size g.size) h.size = some g.size := by
 have hle : A.le (A.ins h.size g.size) := λ b c e => by
   simp only [Re.ins]; rw [if_neg]
   · exact e
   · intro e2; have := (r.dom b c e).1; omega
 refine ⟨⟨λ a b c ha hb => ?_, λ b c e => ?_, λ b c x e hx => ?_, λ b hb => ?_, r.unk⟩, ⟨hle, Nat.le_succ _, λ c hc hn => ?_, λ b c e => ?_⟩, by simp [Re.ins]⟩
 · simp only [Re.ins] at ha hb; split at ha
   · split at hb
     · rename_i e1 e2; rw [e1, e2]
     · cases ha; have := (r.dom _ _ hb).2; omega
   · split at hb
     · cases hb; have := (r.dom _ _ ha).2; omega
     · exact r.inj _ _ _ ha hb
 · simp only [Re.ins] at e; split at e
   · rename_i e1; cases e; subst e1; simp only [H.size_push]; omega
   · have := r.dom _ _ e; simp only [H.size_push]; omega
 · simp only [Re.ins] at e; rw [H.get_push] at hx ⊢; split at e
   · rename_i e1; cases e; rw [if_pos e1] at hx; cases hx; rw [if_pos rfl]; exact ho.mono hle
   · rename_i e1; rw [if_neg e1] at hx; have := (r.dom _ _ e).2; rw [if_neg (by omega)]
     exact (r.obj0 _ _ _ e hx).mono hle
 · have := r.opq b hb; rw [H.get_push, if_neg (by omega), H.size_push]
   exact ⟨by omega, this.2⟩
 · rw [H.get_push, if_neg (by omega)]
 · simp only [Re.ins] at e; split at e
   · cases e; exact .inr (Nat.le_refl _)
   · exact .inl e
theorem HR.put (r : HR V O A h g) {b c : Nat} (hb : A b = some c) {x o q : eE} (hx : h.get b = some x) (ho : OR V A o (some q)) : HR V O A (h.put b o) (g.put c q) /\ xH O A g A (g.put c q) := by
 have hO : ¬ O b := λ hO => by rw [(r.opq b hO).2] at hx; cases hx
 refine ⟨⟨r.inj, λ b c e => r.dom b c e, λ x y z e hz => ?_, λ y hy => ?_, r.unk⟩, ⟨A.le_refl, Nat.le_refl _, λ y hy hn => ?_, λ _ _ e => .inl e⟩⟩
 · rw [H.get_put] at hz ⊢; by_cases e1 : x = b
   · subst e1; rw [hb] at e; cases e; rw [if_pos rfl] at hz ⊢; cases hz; exact ho
   · rw [if_neg e1] at hz; rw [if_neg]
     · exact r.obj0 _ _ _ e hz
     · intro e2; subst e2; exact e1 (r.inj _ _ _ e hb)
 · have := r.opq y hy; rw [H.get_put, if_neg (show ¬ y = b from λ e => hO (e ▸ hy))]
   exact this
 · rw [H.get_put, if_neg]; intro e; subst e; exact hO (hn b hb)
theorem bBt {v : DV} (h : okU v = true) : v.one = true := by cases v <;> first | rfl | cases h
theorem aGC {v w : DV} (h : rl V A v = some w) : w.one = v.one := by
 cases v
 case mp b =>
   rcases uI h with ⟨u, e1, e2⟩ | ⟨_, c, e1, e2⟩
   · rw [e2, bBt u.2]; rfl
   · rw [e2]; rfl
 all_goals
   simp only [rl] at h
   first
     | (cases h; rfl)
     | (split at h <;> first | (cases h; done) | (cases h; rfl))
theorem aOp : ∀ {vs ws : List DV}, gQ V A vs = some ws -> ws.all DV.one = vs.all DV.one
 | [], _, h => by cases h; rfl
 | v :: vs, _, h => by
   obtain ⟨w, ws, h1, h2, rfl⟩ := aE.1 h; simp only [List.all_cons, aGC h1, aOp h2]
theorem bBo {B C : Blk} {t t' : Tr DV} (h : C.n = B.n /\ C.es = B.es /\ C.ro = B.ro /\ C.pl = B.pl) (ht : ∀ j v, t.at_ j = some v -> ∃ w, t'.at_ j = some w /\ rl V A v = some w) : OR V A (.blk { B with t := t }) (some (.blk { C with t := t' })) :=
 ⟨h.1, h.2.1, h.2.2.1, h.2.2.2, ht⟩
theorem bBd {t t' : Tr DV} {v w : DV} (ht : ∀ j v, t.at_ j = some v -> ∃ w, t'.at_ j = some w /\ rl V A v = some w) (hv : rl V A v = some w) (o : Nat) : ∀ j u, (Tr.set v (Pa.of o) t).at_ j = some u -> ∃ w', (Tr.set w (Pa.of o) t').at_ j = some w' /\ rl V A u = some w' := by
 intro j u hu; have e1 := Tr.at_put t o j v; have e2 := Tr.at_put t' o j w; unfold Tr.put at e1 e2; rw [e1] at hu; rw [e2]; split at hu
 · rename_i hj; cases hu; rw [if_pos hj]; exact ⟨w, rfl, hv⟩
 · rename_i hj; rw [if_neg hj]; exact ht j u hu
theorem aDH : ∀ {vs ws : List DV} {h g h' : H} {b c o : Nat}, eW vs h b o = some h' -> HR V O A h g -> A b = some c -> gQ V A vs = some ws -> ∃ g', eW ws g c o = some g' /\ HR V O A h' g' /\ xH O A g A g'
 | [], ws, h, g, h', b, c, o, hd, r, hb, ht => by
   simp only [eW, Option.some.injEq] at hd; subst hd; cases ht; exact ⟨g, rfl, r, .refl _ _ _⟩
 | v :: vs, ws, h, g, h', b, c, o, hd, r, hb, ht => by
   obtain ⟨u, us, h1, h2, rfl⟩ := aE.1 ht; simp only [eW] at hd ⊢; split at hd
   · rename_i B hB; obtain ⟨C, f1, f2, f3, f4, f5, f6⟩ := r.obj.blk hb hB; obtain ⟨hc, hd⟩ := aI hd; rw [Bool.and_eq_true, Bool.and_eq_true, Nat.blt_eq] at hc; obtain ⟨⟨hro, hlt⟩, hone⟩ := hc; have hro : B.ro = false := by simpa using hro
     rw [Tr.setK_eq, H.putK_eq, aM] at hd; have hc' : ((!C.ro) && Nat.blt o C.n && u.one) = true := by rw [f2, f4, aGC h1, hro, hone, Bool.and_eq_true]; exact ⟨by simpa using hlt, rfl⟩
     simp only [f1, hc', cond_true]; rw [Tr.setK_eq, H.putK_eq, aM]; obtain ⟨r1, s1⟩ := r.put hb hB (bBo (A := A) ⟨f2, f3, f4, f5⟩ (bBd f6 h1 o)); obtain ⟨g', e1, r2, s2⟩ := aDH hd r1 hb h2; exact ⟨g', e1, r2, s1.trans s2⟩
   · cases hd
def WR (V : Vl) (O : Nat -> Prop) (A : Re) (g : H) (x y : Option (DV × H)) : Prop := ∀ v h', x = some (v, h') -> ∃ A' w g', y = some (w, g') /\ xH O A g A' g' /\ HR V O A' h' g' /\ rl V A' v = some w
theorem WR.none {y : Option (DV × H)} : WR V O A g none y := λ _ _ h => by cases h
theorem WR.ret {w : DV} (r : HR V O A h g) (hv : rl V A v = some w) : WR V O A g (some (v, h)) (some (w, g)) := λ _ _ e => by cases e; exact ⟨A, w, g, rfl, .refl _ _ _, r, hv⟩
theorem WR.bif {b : Bool} {x y : Option (DV × H)} (h : b = true -> WR V O A g x y) : WR V O A g (bif b then x else Option.none) (bif b then y else Option.none) := by
 cases b with
 | true => exact h rfl
 | false => exact WR.none
theorem WR.bif2 {b : Bool} {x y x' y' : Option (DV × H)} (h : b = true -> WR V O A g x y) (h' : b = false -> WR V O A g x' y') : WR V O A g (cond b x x') (cond b y y') := by
 cases b with
 | true => exact h rfl
 | false => exact h' rfl
theorem WR.store {vs ws : List DV} {b c o : Nat} {u w : DV} (r : HR V O A h g) (hb : A b = some c) (hv : gQ V A vs = some ws) (hu : rl V A u = some w) : WR V O A g ((eW vs h b o).map λ h => (u, h)) ((eW ws g c o).map λ h => (w, h)) := by
 intro v h' e; cases hd : eW vs h b o with
 | none => rw [hd] at e; cases e
 | some h1 =>
   rw [hd] at e; cases e; obtain ⟨g', e1, r2, s2⟩ := aDH hd r hb hv; rw [e1]; exact ⟨A, w, g', rfl, s2, r2, hu⟩
theorem WR.push {o q : eE} {x y : H -> Option (DV × H)} (r : HR V O A h g) (ho : OR V A o (some q)) (k : ∀ A', A.le A' -> A' h.size = some g.size -> HR V O A' (h.push o) (g.push q) -> WR V O A' (g.push q) (x (h.push o)) (y (g.push q))) : WR V O A g (h.pushK o x) (g.pushK q y) := by
 rw [H.pushK_eq, H.pushK_eq]; obtain ⟨r1, s1, e1⟩ := r.push ho; intro v h' e; obtain ⟨A', w, g', f1, f2, f3, f4⟩ := k _ s1.le e1 r1 v h' e; exact ⟨A', w, g', f1, s1.trans f2, f3, f4⟩
theorem WR.put {b c : Nat} {z o q : eE} {x y : H -> Option (DV × H)} (r : HR V O A h g) (hb : A b = some c) (hz : h.get b = some z) (ho : OR V A o (some q)) (k : HR V O A (h.put b o) (g.put c q) -> WR V O A (g.put c q) (x (h.put b o)) (y (g.put c q))) : WR V O A g (h.putK b o x) (g.putK c q y) := by
 rw [H.putK_eq, H.putK_eq]; obtain ⟨r1, s1⟩ := r.put hb hz ho; intro v h' e; obtain ⟨A', w, g', f1, f2, f3, f4⟩ := k r1 v h' e; exact ⟨A', w, g', f1, s1.trans f2, f3, f4⟩
theorem WR.cells {vs : Option (List DV)} {ws : Option (List DV)} {x y : List DV -> Option (DV × H)} (h : ∀ l, vs = some l -> ∃ m, ws = some m /\ gQ V A l = some m) (k : ∀ l m, gQ V A l = some m -> WR V O A g (x l) (y m)) : WR V O A g (vs.bind x) (ws.bind y) := by
 cases vs with
 | none => exact WR.none
 | some l =>
   obtain ⟨m, rfl, h2⟩ := h l rfl; exact k l m h2
theorem aCH {x x' : DV} (hx : rl V A x = some x') {n : Nat} (h : eZ x = some n) : eZ x' = some n := by
 unfold eZ at h; split at h
 · rw [fW hx]; exact h
 · obtain ⟨_, _, rfl⟩ := nL hx; exact h
 · obtain ⟨_, _, rfl⟩ := fV hx; exact h
 · rw [lB hx]; exact h
 · cases h
theorem aGw {rd rd' : Rd} (hh : RdR V A rd rd') {es : Nat} {x x' : DV} (hx : rl V A x = some x') : ∀ l, dV es rd x = some l -> ∃ m, dV es rd' x' = some m /\ gQ V A l = some m := by
 intro l h; unfold dV at h; split at h
 · rw [fW hx]; cases h; exact ⟨[], rfl, rfl⟩
 · obtain ⟨_, _, rfl⟩ := nL hx; cases h; exact ⟨[], rfl, rfl⟩
 · obtain ⟨c, hc, rfl⟩ := fV hx; exact gE hh hc _ _ h
 · rw [lB hx]; obtain ⟨q, h⟩ := aI h; cases h; exact ⟨_, by simp only [dV, q, cond_true], zH (λ b => rfl) _⟩
 · cases h
theorem aIK {rd rd' : Rd} (hh : RdR V A rd rd') {es k : Nat} {x x' : DV} (hx : rl V A x = some x') : ∀ l, mS es k rd x = some l -> ∃ m, mS es k rd' x' = some m /\ gQ V A l = some m := by
 intro l h; unfold mS at h; split at h
 · rw [fW hx]; cases h; exact ⟨[], rfl, rfl⟩
 · obtain ⟨_, _, rfl⟩ := nL hx; cases h; exact ⟨[], rfl, rfl⟩
 · obtain ⟨c, hc, rfl⟩ := fV hx; exact gE hh hc _ _ h
 · rw [lB hx]; obtain ⟨q, h⟩ := aI h; cases h; exact ⟨_, by simp only [mS, q, cond_true], zH (λ b => rfl) _⟩
 · cases h
theorem bCH {n : Nat} {a x a' x' : DV} (r : HR V O A h g) (ha : rl V A a = some a') (hx : rl V A x = some x') : WR V O A g (dSt n a x h) (dSt n a' x' g) := by
 unfold dSt; split
 · rename_i b o; obtain ⟨c, hc, rfl⟩ := jD ha; have t := aCR hx; simp only [eU t]; exact WR.bif λ _ => WR.store r hc t rfl
 · exact WR.none
theorem bBv {t t' : Tr DV} {vs ws : List DV} (h : gQ V A vs = some ws) (ht : ∀ j v, t.at_ j = some v -> ∃ w, t'.at_ j = some w /\ rl V A v = some w) (i : Nat) : ∀ j v, (Tr.ofF vs i t).at_ j = some v -> ∃ w, (Tr.ofF ws i t').at_ j = some w /\ rl V A v = some w := by
 intro j v hv; rw [Tr.at_ofF] at hv ⊢; rw [eU h]; split at hv
 · rename_i q; rw [if_pos q]; exact mT h _ v hv
 · rename_i q; rw [if_neg q]; exact ht j v hv
theorem aKh {es bytes : Nat} {s x s' x' : DV} (r : HR V O A h g) (hs : rl V A s = some s') (hx : rl V A x = some x') : WR V O A g (iB es bytes s x h) (iB es bytes s' x' g) := by
 unfold iB; cases hn : eZ x with
 | none => exact WR.none
 | some n =>
   rw [aCH hx hn]; simp only [Option.bind_some]; refine WR.cells (aGw r.obj hx) λ new new' ht => ?_
   cases s with
   | nils =>
     rw [fW hs]; simp only; refine WR.bif2 (λ _ => WR.ret r rfl) λ _ => WR.bif λ _ => WR.push r ⟨rfl, rfl, rfl, rfl, nZ ht⟩ λ A' hl e1 r1 => WR.ret r1 (fQ e1)
   | slE b o o2 =>
     obtain ⟨c, hc, rfl⟩ := nL hs; exact WR.bif λ _ => WR.ret r (aCQ hc)
   | slc b o len cap op =>
     obtain ⟨c, hc, rfl⟩ := fV hs; simp only [aM]; refine WR.bif2 (λ _ => WR.store r hc ht (fQ hc)) λ _ => WR.bif λ _ => ?_
     cases hB : h.get b with
     | none => exact WR.none
     | some ob =>
       cases ob with
       | blk B =>
         obtain ⟨C, f1, f2, f3, f4, f5, f6⟩ := r.obj.blk hc hB; rw [f1]; simp only [f2, f3, f4, aOp ht]; refine WR.bif2 (λ _ => WR.bif λ _ => ?_) λ _ => ?_
         · unfold zN; have key : ∀ {t t' : Tr DV}, (∀ j v, t.at_ j = some v -> ∃ w, t'.at_ j = some w /\ rl V A v = some w) -> WR V O A g (h.pushK (.blk ⟨(len + n) * es, es, false, false, t⟩) λ h' => h'.putK b .dead λ h'' => some (.slc h.size 0 (len + n) (len + n) true, h''))
               (g.pushK (.blk ⟨(len + n) * es, es, false, false, t'⟩) λ h' => h'.putK c .dead λ h'' => some (.slc g.size 0 (len + n) (len + n) true, h'')) := λ ht =>
             WR.push r ⟨rfl, rfl, rfl, rfl, ht⟩ λ A' hl e1 r1 => WR.put (x := λ h'' => some (.slc h.size 0 (len + n) (len + n) true, h'')) (y := λ h'' => some (.slc g.size 0 (len + n) (len + n) true, h'')) r1 (hl _ _ hc) (by rw [H.get_push, if_neg (by have := (r.dom _ _ hc).1; omega)]; exact hB) trivial λ r2 => WR.ret r2 (fQ e1)
           cases Nat.beq o 0 with
           | true => exact key (bBv ht f6 _)
           | false =>
             simp only [cond_false]; cases hr : rdCells h.get b o (len * es) with
             | none => exact WR.none
             | some old =>
               obtain ⟨old', e1, e2⟩ := gE r.obj hc _ _ hr; rw [e1]; exact key (nZ (kZ e2 ht))
         · refine WR.cells (λ l hl => gE r.obj hc _ _ hl) λ l m hlm => ?_
           refine WR.push r ?_ λ A' hl e1 r1 => ?_
           · exact ⟨rfl, rfl, rfl, rfl, nZ (kZ hlm ht)⟩
           · exact WR.ret r1 (fQ e1)
       | _ => exact WR.none
   | _ => exact WR.none
theorem aTi {es : Nat} {d x d' x' : DV} (r : HR V O A h g) (hd : rl V A d = some d') (hx : rl V A x = some x') : WR V O A g (aBI es d x h) (aBI es d' x' g) := by
 unfold aBI; cases hn : eZ x with
 | none => exact WR.none
 | some n =>
   rw [aCH hx hn]; simp only [Option.bind_some]; cases d with
   | nils => rw [fW hd]; exact WR.ret r rfl
   | slE b o o2 => obtain ⟨c, hc, rfl⟩ := nL hd; exact WR.ret r rfl
   | slc b o len cap op =>
     obtain ⟨c, hc, rfl⟩ := fV hd; simp only [aM]; exact WR.cells (aIK r.obj hx) λ new new' ht => WR.store r hc ht rfl
   | _ => exact WR.none
theorem iF.append {k v k' v' : DV} {c : Nat} (hk : rl V A k = some k') (hv : rl V A v = some v') : ∀ {ds es : List dJ}, iF V A ds es -> iF V A (ds ++ [⟨k, v, c⟩]) (es ++ [⟨k', v', c⟩])
 | [], [], _ => ⟨⟨hk, hv, rfl⟩, trivial⟩
 | _ :: _, _ :: _, h => ⟨h.1, iF.append hk hv h.2⟩
 | [], _ :: _, h => by cases h
 | _ :: _, [], h => by cases h
theorem aDG {kt : nW} {k v k' v' : DV} (hk : rl V A k = some k') (hv : rl V A v = some v') : ∀ {ds es : List dJ} {r : Option (List dJ)}, iF V A ds es -> wR kt k v ds = some r -> ∃ r', wR kt k' v' es = some r' /\ (∀ l, r = some l -> ∃ m, r' = some m /\ iF V A l m) /\ (r = none -> r' = none)
 | [], [], r, _, h => by cases h; exact ⟨none, rfl, λ v hv => by (cases hv), λ _ => rfl⟩
 | [], _ :: _, r, hr, h => hr.elim
 | _ :: _, [], r, hr, h => hr.elim
 | d :: ds, e :: es, r, hr, h => by
   replace h : (match nQ kt k d.key with
     | some b => bif b then some (some (⟨k, v, d.born⟩ :: ds)) else (wR kt k v ds).map λ r => r.map λ ds' => d :: ds'
     | none => none) = some r := h
   show ∃ r', (match nQ kt k' e.key with
     | some b => bif b then some (some (⟨k', v', e.born⟩ :: es)) else (wR kt k' v' es).map λ r => r.map λ ds' => e :: ds'
     | none => none) = some r' /\ _
   split at h
   · rename_i b hb; rw [aAa hk hr.1.1 hb]; cases b with
     | true => cases h; exact ⟨_, rfl, λ l hl => by cases hl; exact ⟨_, rfl, ⟨hk, hv, hr.1.2.2⟩, hr.2⟩, λ hn => by cases hn⟩
     | false =>
       simp only [cond_false] at h ⊢; cases hu : wR kt k v ds with
       | none => rw [hu] at h; cases h
       | some q =>
         rw [hu] at h; obtain ⟨q', e1, e2, e3⟩ := aDG hk hv hr.2 hu; rw [e1]; cases h; refine ⟨_, rfl, λ l hl => ?_, λ hn => ?_⟩
         · cases q with
           | none => cases hl
           | some u =>
             obtain ⟨m, rfl, h4⟩ := e2 u rfl; cases hl; exact ⟨_, rfl, hr.1, h4⟩
         · cases q with
           | none => rw [e3 rfl]; rfl
           | some u => cases hn
   · cases h
theorem xZ {ds es : List dJ} {c : Nat} (h : iF V A ds es) : OR V A (.map ds c) (some (.map es c)) := ⟨rfl, h⟩
theorem aWe {kt : nW} {x k v x' k' v' : DV} (r : HR V O A h g) (hx : rl V A x = some x') (hk : rl V A k = some k') (hv : rl V A v = some v') : WR V O A g (aBS kt x k v h) (aBS kt x' k' v' g) := by
 unfold aBS; cases x with
 | mp b =>
   rcases uI hx with ⟨u, hu, rfl⟩ | ⟨_, c, hc, rfl⟩
   · simp only [r.obj.unk b u hu]; exact WR.none
   simp only; cases hB : h.get b with
   | none => exact WR.none
   | some ob =>
     cases ob with
     | map ds ck =>
       obtain ⟨es, f1, f2⟩ := r.obj.map hc hB; rw [f1]; simp only; cases hu : wR kt k v ds with
       | none => exact WR.none
       | some q =>
         obtain ⟨q', e1, e2, e3⟩ := aDG hk hv f2 hu; rw [e1]; simp only [Option.bind_some]; cases q with
         | some l =>
           obtain ⟨m, rfl, h4⟩ := e2 l rfl; exact WR.put r hc hB (xZ h4) λ r1 => WR.ret r1 rfl
         | none =>
           rw [e3 rfl]; simp only [aM]; exact WR.put r hc hB (xZ (f2.append hk hv)) λ r1 => WR.ret r1 rfl
     | _ => exact WR.none
 | _ => exact WR.none
theorem aMy {zs : List DV} {x x' : DV} (r : HR V O A h g) (hz : sZ zs = true) (hx : rl V A x = some x') : WR V O A g (uV zs x h) (uV zs x' g) := by
 unfold uV; cases x with
 | nils => rw [fW hx]; exact WR.ret r rfl
 | slE b o o2 => obtain ⟨c, hc, rfl⟩ := nL hx; exact WR.ret r rfl
 | slc b o len cap op =>
   obtain ⟨c, hc, rfl⟩ := fV hx; exact WR.store r hc (zI (jM V A zs hz) len) rfl
 | _ => exact WR.none
theorem aKa {x x' : DV} (r : HR V O A h g) (hx : rl V A x = some x') : WR V O A g (lV x h) (lV x' g) := by
 unfold lV; cases x with
 | nilm => rw [aCc hx]; exact WR.ret r rfl
 | mp b =>
   rcases uI hx with ⟨u, hu, rfl⟩ | ⟨_, c, hc, rfl⟩
   · simp only [r.obj.unk b u hu]; exact WR.none
   simp only; cases hB : h.get b with
   | none => exact WR.none
   | some ob =>
     cases ob with
     | map ds ck =>
       obtain ⟨es, f1, f2⟩ := r.obj.map hc hB; rw [f1]; exact WR.put r hc hB (xZ (A := A) (ds := []) (es := []) trivial) λ r1 => WR.ret r1 rfl
     | _ => exact WR.none
 | _ => exact WR.none
theorem aWm {es bytes : Nat} {zs : List DV} {s x s' x' : DV} (r : HR V O A h g) (hz : sZ zs = true) (hs : rl V A s = some s') (hx : rl V A x = some x') : WR V O A g (aEM es bytes zs s x h) (aEM es bytes zs s' x' g) := by
 unfold aEM; split
 · rename_i b o len cap k' k; obtain ⟨c, hc, rfl⟩ := fV hs; rw [cL hx]; simp only [aM]; refine WR.bif λ _ => WR.cells (λ l hl => gE r.obj hc _ _ hl) λ l m hlm => ?_
   exact WR.push r ⟨rfl, rfl, rfl, rfl, nZ (kZ hlm (zI (jM V A zs hz) k))⟩ λ A' hl e1 r1 => WR.ret r1 (fQ e1)
 · exact WR.none
theorem aJW {kt : nW} {k k' : DV} (hk : rl V A k = some k') : ∀ {ds es : List dJ} {r : List dJ}, iF V A ds es -> aDL kt k ds = some r -> ∃ r', aDL kt k' es = some r' /\ iF V A r r'
 | [], [], r, _, h => by cases h; exact ⟨[], rfl, trivial⟩
 | [], _ :: _, r, hr, h => hr.elim
 | _ :: _, [], r, hr, h => hr.elim
 | d :: ds, e :: es, r, hr, h => by
   replace h : (match nQ kt k d.key with
     | some b => bif b then some ds else (aDL kt k ds).map λ r => d :: r
     | none => none) = some r := h
   show ∃ r', (match nQ kt k' e.key with
     | some b => bif b then some es else (aDL kt k' es).map λ r => e :: r
     | none => none) = some r' /\ _
   split at h
   · rename_i b hb; rw [aAa hk hr.1.1 hb]; cases b with
     | true => cases h; exact ⟨_, rfl, hr.2⟩
     | false =>
       simp only [cond_false] at h ⊢; cases hu : aDL kt k ds with
       | none => rw [hu] at h; cases h
       | some q =>
         rw [hu] at h; cases h; obtain ⟨q', e1, e2⟩ := aJW hk hr.2 hu; rw [e1]; exact ⟨_, rfl, hr.1, e2⟩
   · cases h
theorem aWj {kt : nW} {x k x' k' : DV} (r : HR V O A h g) (hx : rl V A x = some x') (hk : rl V A k = some k') : WR V O A g (aJZ kt x k h) (aJZ kt x' k' g) := by
 unfold aJZ; cases x with
 | nilm => rw [aCc hx]; exact WR.ret r rfl
 | mp b =>
   rcases uI hx with ⟨u, hu, rfl⟩ | ⟨_, c, hc, rfl⟩
   · simp only [r.obj.unk b u hu]; exact WR.none
   simp only; cases hB : h.get b with
   | none => exact WR.none
   | some ob =>
     cases ob with
     | map ds ck =>
       obtain ⟨es, f1, f2⟩ := r.obj.map hc hB; rw [f1]; simp only; cases hu : aDL kt k ds with
       | none => exact WR.none
       | some q =>
         obtain ⟨q', e1, e2⟩ := aJW hk f2 hu; rw [e1]; simp only [Option.bind_some]; exact WR.put r hc hB (xZ e2) λ r1 => WR.ret r1 rfl
     | _ => exact WR.none
 | _ => exact WR.none
theorem aJT {kt : nW} {k k' : DV} (hk : rl V A k = some k') : ∀ {ds es : List dJ} {r : Option dJ}, iF V A ds es -> wS.dGet kt k ds = some r -> ∃ r', wS.dGet kt k' es = some r' /\ (∀ v, r = some v -> ∃ w, r' = some w /\ EntR V A v w) /\ (r = none -> r' = none)
 | [], [], r, _, h => by cases h; exact ⟨none, rfl, λ v hv => by (cases hv), λ _ => rfl⟩
 | [], _ :: _, r, hr, h => hr.elim
 | _ :: _, [], r, hr, h => hr.elim
 | d :: ds, e :: es, r, hr, h => by
   replace h : (match nQ kt k d.key with
     | some b => bif b then some (some d) else wS.dGet kt k ds
     | none => none) = some r := h
   show ∃ r', (match nQ kt k' e.key with
     | some b => bif b then some (some e) else wS.dGet kt k' es
     | none => none) = some r' /\ _
   split at h
   · rename_i b hb; rw [aAa hk hr.1.1 hb]; cases b with
     | true => cases h; exact ⟨_, rfl, λ v hv => by cases hv; exact ⟨_, rfl, hr.1⟩, λ hn => by cases hn⟩
     | false => exact aJT hk hr.2 h
   · cases h
theorem aWf {kt : nW} {z x k x' k' : DV} (r : HR V O A h g) (hz : noA z = true) (hx : rl V A x = some x') (hk : rl V A k = some k') : WR V O A g (wS kt z x k h) (wS kt z x' k' g) := by
 unfold wS; cases x with
 | mp b =>
   rcases uI hx with ⟨u, hu, rfl⟩ | ⟨_, c, hc, rfl⟩
   · simp only [r.obj.unk b u hu]; exact WR.none
   simp only; cases hB : h.get b with
   | none => exact WR.none
   | some ob =>
     cases ob with
     | map ds ck =>
       obtain ⟨es, f1, f2⟩ := r.obj.map hc hB; rw [f1]; simp only; cases hu : wS.dGet kt k ds with
       | none => exact WR.none
       | some q =>
         obtain ⟨q', e1, e2, e3⟩ := aJT hk f2 hu; rw [e1]; simp only [Option.bind_some]; cases q with
         | some d =>
           obtain ⟨d', rfl, h4⟩ := e2 d rfl; simp only; cases hq : wR kt k d.val ds with
           | none => exact WR.none
           | some u =>
             obtain ⟨u', g1, g2, g3⟩ := aDG hk h4.2.1 f2 hq; rw [g1]; simp only [Option.bind_some]; cases u with
             | some l =>
               obtain ⟨m, rfl, h5⟩ := g2 l rfl; simp only [h4.2.2]; exact WR.put r hc hB (xZ h5) λ r1 => WR.ret r1 (kL (aE.2 ⟨_, _, h4.2.1, rfl, rfl⟩))
             | none => exact WR.none
         | none =>
           rw [e3 rfl]; simp only [aM]; exact WR.put r hc hB (xZ (f2.append hk (iG V A z hz))) λ r1 => WR.ret r1 (kL (aE.2 ⟨_, _, iG V A z hz, rfl, rfl⟩))
     | _ => exact WR.none
 | _ => exact WR.none
theorem aJQ {s : Nat} {y y' : DV} (hy : rl V A y = some y') : ∀ {ds es : List dJ} {r : List dJ}, iF V A ds es -> aDI s y ds = some r -> ∃ r', aDI s y' es = some r' /\ iF V A r r'
 | [], [], r, _, h => by cases h
 | [], _ :: _, r, hr, h => hr.elim
 | _ :: _, [], r, hr, h => hr.elim
 | d :: ds, e :: es, r, hr, h => by
   replace h : (bif Nat.beq d.born s then some (⟨d.key, y, d.born⟩ :: ds) else (aDI s y ds).map λ r => d :: r) = some r := h
   show ∃ r', (bif Nat.beq e.born s then some (⟨e.key, y', e.born⟩ :: es) else (aDI s y' es).map λ r => e :: r) = some r' /\ _
   rw [hr.1.2.2]; cases q : Nat.beq d.born s with
   | true => rw [q] at h; cases h; exact ⟨_, rfl, ⟨hr.1.1, hy, rfl⟩, hr.2⟩
   | false =>
     rw [q] at h; simp only [cond_false] at h ⊢; cases hu : aDI s y ds with
     | none => rw [hu] at h; cases h
     | some q =>
       rw [hu] at h; cases h; obtain ⟨q', e1, e2⟩ := aJQ hy hr.2 hu; rw [e1]; exact ⟨_, rfl, hr.1, e2⟩
theorem aWg {x k v x' k' v' : DV} (r : HR V O A h g) (hx : rl V A x = some x') (hk : rl V A k = some k') (hv : rl V A v = some v') : WR V O A g (aJU x k v h) (aJU x' k' v' g) := by
 unfold aJU; split
 · rename_i b kk s; rcases uI hx with ⟨u, hu, rfl⟩ | ⟨_, c, hc, rfl⟩
   · simp only [r.obj.unk b u hu]; exact WR.none
   rw [cL hk]; simp only; cases hB : h.get b with
   | none => exact WR.none
   | some ob =>
     cases ob with
     | map ds ck =>
       obtain ⟨es, f1, f2⟩ := r.obj.map hc hB; rw [f1]; simp only; cases hu : aDI s v ds with
       | none => exact WR.none
       | some q =>
         obtain ⟨q', e1, e2⟩ := aJQ hv f2 hu; rw [e1]; simp only [Option.bind_some]; exact WR.put r hc hB (xZ e2) λ r1 => WR.ret r1 rfl
     | _ => exact WR.none
 · exact WR.none
end
def okW : WOp -> Bool
 | .st _ a x => dP a && dP x
 | .app _ _ x y => dP x && dP y
 | .cpy _ x y => dP x && dP y
 | .mup _ x k y => dP x && dP k && dP y
 | .clr zs x => sZ zs && dP x
 | .clm x => dP x
 | .apz _ _ zs x y => sZ zs && (dP x && dP y)
 | .rng _ | .ent _ => false
 | .del _ x k => dP x && dP k
 | .men _ z x k => noA z && (dP x && dP k)
 | .est x k y => dP x && dP k && dP y
theorem bAR {V : Vl} {O : Nat -> Prop} {A : Re} {h g : H} {ρ σ : Tr DV} (r : HR V O A h g) (hr : RR V A ρ σ) {d : WOp} (hd : okW d = true) : WR V O A g (wdo d ρ h) (wdo d σ g) := by
 cases d <;> simp only [okW, Bool.and_eq_true] at hd <;> simp only [wdo]
 case st => exact bCH r (hr.ev hd.1) (hr.ev hd.2)
 case app => exact aKh r (hr.ev hd.1) (hr.ev hd.2)
 case cpy => exact aTi r (hr.ev hd.1) (hr.ev hd.2)
 case mup => exact aWe r (hr.ev hd.1.1) (hr.ev hd.1.2) (hr.ev hd.2)
 case clr => exact aMy r hd.1 (hr.ev hd.2)
 case clm => exact aKa r (hr.ev hd)
 case apz => exact aWm r hd.1 (hr.ev hd.2.1) (hr.ev hd.2.2)
 case rng => cases hd
 case ent => cases hd
 case del => exact aWj r (hr.ev hd.1) (hr.ev hd.2)
 case men => exact aWf r hd.1 (hr.ev hd.2.1) (hr.ev hd.2.2)
 case est => exact aWg r (hr.ev hd.1.1) (hr.ev hd.1.2) (hr.ev hd.2)
end Go.DI
namespace Go.DI
def qQ (V : Vl) (F F' : bC) : Prop := ∀ (O : Nat -> Prop) (A : Re) (h g : H) (args args' : List DV), HR V O A h g -> gQ V A args = some args' -> WR V O A g (F args h) (F' args' g)
def fZ (V : Vl) (E E' : aQ) : Prop := ∀ f F, E f = some F -> ∃ F', E' f = some F' /\ qQ V F F'
def okA (l : List aU) : Bool := l.all dP
def bGU : COp -> Bool
 | .f _ args => okA args
 | .v f args => dP f && okA args
 | .m _ x args => dP x && okA args
def okO : DOp -> Bool
 | .e o => okE o
 | .w o => okW o
 | .c o => bGU o
def okG (g : DG) : Bool := okO g.op
def okC : DC -> Bool
 | .skip | .exit _ | .ret | .bad => true
 | .reg l => l.all okG
 | .seq a b => okC a && okC b
 | .cond c a b => dP c && (okC a && okC b)
 | .block _ a | .loop a | .scope a => okC a
 | .drg l => l.all λ x => okG x.g
 | .jump _ a r => okC a && okC r
 | .nxt _ _ _ | .fin _ _ _ => false
section
variable {V : Vl} {O : Nat -> Prop} {A : Re} {h g : H} {E E' : aQ} {ρ σ : Tr DV}
theorem WR.step {A' : Re} {g' : H} {x y : Option (DV × H)} (s : xH O A g A' g') (w : WR V O A' g' x y) : WR V O A g x y := λ v h' e => by
 obtain ⟨A1, u, g1, f1, f2, f3, f4⟩ := w v h' e; exact ⟨A1, u, g1, f1, s.trans f2, f3, f4⟩
theorem WR.bindK {x y : Option (DV × H)} {k k' : DV × H -> Option (DV × H)} (w : WR V O A g x y) (hk : ∀ A' v u h' g', xH O A g A' g' -> HR V O A' h' g' -> rl V A' v = some u -> WR V O A' g' (k (v, h')) (k' (u, g'))) : WR V O A g (x.bind k) (y.bind k') := by
 cases x with
 | none => exact WR.none
 | some p =>
   obtain ⟨v, h'⟩ := p; obtain ⟨A1, u, g1, f1, f2, f3, f4⟩ := w v h' rfl; rw [f1]; exact WR.step f2 (hk A1 v u h' g1 f2 f3 f4)
theorem rJ (hE : fZ V E E') (r : HR V O A h g) {f : Nat} {args args' : List DV} (ha : gQ V A args = some args') : WR V O A g (aB E f args h) (aB E' f args' g) := by
 unfold aB; cases hf : E f with
 | none => exact WR.none
 | some F =>
   obtain ⟨F', e1, e2⟩ := hE f F hf; rw [e1]; exact e2 O A h g args args' r ha
theorem bCU (hE : fZ V E E') (r : HR V O A h g) (hr : RR V A ρ σ) {d : COp} (hd : bGU d = true) : WR V O A g (cdo E d ρ h) (cdo E' d σ g) := by
 cases d <;> simp only [bGU, okA, Bool.and_eq_true] at hd <;> simp only [cdo]
 case f f args => exact rJ hE r (hr.evs hd)
 case v f args =>
   have tf := hr.ev hd.1; split
   · rename_i q first captured e1
     rw [e1] at tf; obtain ⟨a', c', h1, h2, e2⟩ := aOs tf; rw [e2]; exact rJ hE r (kZ (kZ h1 (hr.evs hd.2)) h2)
   · exact WR.none
 case m tbl x args =>
   have tf := hr.ev hd.1; split
   · rename_i t v e1; rw [e1] at tf; obtain ⟨v', h1, e2⟩ := xR tf; rw [e2]; simp only; cases aSH t tbl with
     | none => exact WR.none
     | some f => exact rJ hE r (aE.2 ⟨_, _, h1, hr.evs hd.2, rfl⟩)
   · exact WR.none
theorem bBw (hE : fZ V E E') (r : HR V O A h g) (hr : RR V A ρ σ) {d : DOp} (hd : okO d = true) : WR V O A g (odo E d ρ h) (odo E' d σ g) := by
 cases d <;> simp only [okO] at hd <;> simp only [odo]
 case e o =>
   rw [oA, oA]; cases he : cG o ρ h.get with
   | none => exact WR.none
   | some res =>
     obtain ⟨r', e1, e2⟩ := aPc r.inj r.obj hr hd he; rw [e1]; cases res with
     | val v =>
       cases r' with
       | val w => exact WR.ret r e2
       | new o mk => exact e2.elim
     | new ob mk =>
       cases r' with
       | val w => exact e2.elim
       | new ob' mk' =>
         refine WR.push r e2.1 λ A' hl e3 r1 => ?_
         exact WR.ret r1 (e2.2 A' _ _ hl r.fresh e3)
 case w o => exact bAR r hr hd
 case c o => exact bCU hE r hr hd
theorem RR.set (hr : RR V A ρ σ) {v w : DV} (hv : rl V A v = some w) (p : Pa) : RR V A (Tr.set v p ρ) (Tr.set w p σ) := by
 intro q; rw [pA, pA]; split
 · exact hv
 · exact hr q
def isB (f : Bool -> Bool) : DV -> Bool
 | .bool c => f c
 | _ => false
theorem bBF {v w : DV} (hv : rl V A v = some w) (f : Bool -> Bool) : isB f v = isB f w := by
 cases v
 case mp b =>
   rcases uI hv with ⟨u, e1, e2⟩ | ⟨_, c, e1, e2⟩
   · rw [e2]; have := u.2; cases hu : u.1 <;> first | rfl | (rw [hu] at this; cases this)
   · rw [e2]; rfl
 all_goals
   simp only [rl] at hv
   first
     | (cases hv; rfl)
     | (split at hv <;> first | (cases hv; done) | (cases hv; rfl))
theorem bGS {v : DV} (h : okU v = true) : gL v v = true := by
 cases v <;> first | (cases h; done) | (simp only [gL, decide_true, Bool.and_self, BEq.rfl])
theorem aBh (hr : RR V A ρ σ) (q : Option (Pa × Bool)) : cP ρ q = cP σ q := by
 cases q with
 | none => rfl
 | some x =>
   show isB (λ c => bif x.2 then c else !c) (ev ρ (.r x.1)) = isB (λ c => bif x.2 then c else !c) (ev σ (.r x.1))
   exact bBF (hr x.1) _
def KR (V : Vl) (O : Nat -> Prop) (A : Re) (g : H) (k k' : Tr DV -> H -> Option (DV × H)) : Prop := ∀ A' ρ σ h' g', xH O A g A' g' -> HR V O A' h' g' -> RR V A' ρ σ -> WR V O A' g' (k ρ h') (k' σ g')
theorem KR.step {A' : Re} {g' : H} {k k' : Tr DV -> H -> Option (DV × H)} (s : xH O A g A' g') (w : KR V O A g k k') : KR V O A' g' k k' := λ A1 ρ σ h1 g1 s1 r1 hr => w A1 ρ σ h1 g1 (s.trans s1) r1 hr
theorem aIP (dst : Option Pa) {v w : DV} (r : HR V O A h g) (hr : RR V A ρ σ) (hv : rl V A v = some w) {k k' : Tr DV -> Option (DV × H)} (hk : ∀ ρ σ, RR V A ρ σ -> WR V O A g (k ρ) (k' σ)) : WR V O A g (aBP dst v ρ k) (aBP dst w σ k') := by
 cases dst with
 | none => exact hk _ _ hr
 | some p =>
   show WR V O A g (Tr.setK v p ρ k) (Tr.setK w p σ k'); rw [Tr.setK_eq, Tr.setK_eq]; exact hk _ _ (hr.set hv p)
theorem aFA (hE : fZ V E E') {d : DG} (hd : okG d = true) (r : HR V O A h g) (hr : RR V A ρ σ) {k k' : Tr DV -> H -> Option (DV × H)} (hk : KR V O A g k k') : WR V O A g (dN E d ρ h k) (dN E' d σ g k') := by
 unfold dN; rw [aBh hr]; refine WR.bif2 (λ _ => ?_) λ _ => ?_
 · refine WR.bindK (bBw hE r hr hd) λ A' v u h' g' s r' hv => ?_
   exact aIP d.dst r' (hr.mono s.le) hv λ ρ1 σ1 hr1 => hk A' ρ1 σ1 h' g' s r' hr1
 · exact aIP d.dst r hr rfl λ ρ1 σ1 hr1 => hk A ρ1 σ1 h g (.refl _ _ _) r hr1
theorem aDx (hE : fZ V E E') : ∀ {l : List DG} {A : Re} {h g : H} {ρ σ : Tr DV} {k k' : Tr DV -> H -> Option (DV × H)}, l.all okG = true -> HR V O A h g -> RR V A ρ σ -> KR V O A g k k' -> WR V O A g (eF E l ρ h k) (eF E' l σ g k')
 | [], A, h, g, ρ, σ, k, k', _, r, hr, hk => hk A ρ σ h g (.refl _ _ _) r hr
 | d :: l, A, h, g, ρ, σ, k, k', hl, r, hr, hk => by
   simp only [List.all_cons, Bool.and_eq_true] at hl; exact aFA hE hl.1 r hr λ A' ρ1 σ1 h1 g1 s1 r1 hr1 => aDx hE hl.2 r1 hr1 (hk.step s1)
mutual
theorem aHd : ∀ (v w : DV), rl V A v = some w -> gL v v = true -> gL w w = true
 | .bool _, _, h, e => by cases h; exact e
 | .int _ _, _, h, e => by cases h; exact e
 | .str _, _, h, e => by cases h; exact e
 | .nilp, _, h, e => by cases h; exact e
 | .ptr _ _, _, h, e => by obtain ⟨c, _, rfl⟩ := jD h; simp only [gL, Nat.beq_refl, Bool.and_self]
 | .nils, _, h, e => by cases h; exact e
 | .slc _ _ _ _ _, _, h, e => by obtain ⟨c, _, rfl⟩ := fV h; simp only [gL, Nat.beq_refl, Bool.and_self, BEq.rfl]
 | .slE _ _ _, _, h, e => by obtain ⟨c, _, rfl⟩ := nL h; simp only [gL, Nat.beq_refl, Bool.and_self]
 | .nilm, _, h, e => by cases h; exact e
 | .mp b, w, h, e => by
   rcases uI h with ⟨u, e1, e2⟩ | ⟨_, c, e1, e2⟩
   · rw [e2]; exact bGS u.2
   · rw [e2]; simp only [gL, Nat.beq_refl]
 | .fn f a c, _, h, e => by
   obtain ⟨a', c', h1, h2, rfl⟩ := aOs h; simp only [gL, Bool.and_eq_true] at e ⊢; exact ⟨⟨e.1.1, uR a a' h1 e.1.2⟩, uR c c' h2 e.2⟩
 | .nilf, _, h, e => by cases h; exact e
 | .nili, _, h, e => by cases h; exact e
 | .ifc t v, _, h, e => by
   obtain ⟨v', h1, rfl⟩ := xR h; simp only [gL, Bool.and_eq_true] at e ⊢; exact ⟨Nat.beq_refl _, aHd v v' h1 e.2⟩
 | .agg cs, _, h, e => by
   obtain ⟨v', h1, rfl⟩ := nM h; simp only [gL] at e ⊢; exact uR cs v' h1 e
 | .tup cs, _, h, e => by
   obtain ⟨v', h1, rfl⟩ := qF h; simp only [gL] at e ⊢; exact uR cs v' h1 e
theorem uR : ∀ (v w : List DV), gQ V A v = some w -> nC v v = true -> nC w w = true
 | [], _, h, e => by cases h; rfl
 | v :: vs, _, h, e => by
   obtain ⟨v', vs', h1, h2, rfl⟩ := aE.1 h; simp only [nC, Bool.and_eq_true] at e ⊢; exact ⟨aHd v v' h1 e.1, uR vs vs' h2 e.2⟩
end
theorem aGF {d : DG} (hd : okG d = true) (r : HR V O A h g) (hr : RR V A ρ σ) (h1 : lR d ρ h = true) : lR d σ g = true := by
 unfold lR at h1 ⊢; rw [<- aBh hr]; cases q : cP ρ d.guard with
 | false => rfl
 | true =>
   rw [q] at h1; simp only [cond_true] at h1 ⊢; obtain ⟨dst, guard, op⟩ := d; cases op with
   | e e =>
     cases dst with
     | none => cases h1
     | some p =>
       simp only at h1 ⊢; cases hv : cG e ρ h.get with
       | none => rw [hv] at h1; cases h1
       | some r0 =>
         rw [hv] at h1; obtain ⟨r', e1, e2⟩ := aPc r.inj r.obj hr hd hv; rw [e1]; cases r0 with
         | new o mk => cases h1
         | val v =>
           cases r' with
           | new o mk => exact e2.elim
           | val w =>
             simp only at h1 ⊢; have e3 := gO _ _ h1; have e4 := hr p; rw [<- e3] at h1 e4; have e2 : rl V A v = some w := e2; rw [e2] at e4; simp only [Option.some.injEq] at e4; rw [<- e4]; exact aHd v w e2 h1
   | _ => cases h1
theorem aJD {q : Nat} : ∀ {pre : List DR} {d : DG}, (pre.all λ x => okG x.g) = true -> rE q pre = some d -> okG d = true
 | [], d, _, h => by cases h
 | x :: xs, d, hp, h => by
   simp only [List.all_cons, Bool.and_eq_true] at hp; simp only [rE] at h; cases e : Nat.beq x.i q with
   | true => rw [e] at h; cases h; exact hp.1
   | false => rw [e] at h; exact aJD hp.2 h
theorem aIV {pre : List DR} (hp : (pre.all λ x => okG x.g) = true) (r : HR V O A h g) (hr : RR V A ρ σ) {q : Nat} (h1 : dY pre ρ h q = true) : dY pre σ g q = true := by
 unfold dY at h1 ⊢; split at h1
 · rename_i d hd; exact aGF (aJD hp hd) r hr h1
 · cases h1
theorem aFy (hE : fZ V E E') : ∀ {l pre : List DR} {A : Re} {h g : H} {ρ σ : Tr DV} {k k' : Tr DV -> H -> Option (DV × H)}, (l.all λ x => okG x.g) = true -> (pre.all λ x => okG x.g) = true -> HR V O A h g -> RR V A ρ σ -> KR V O A g k k' -> WR V O A g (dW E l pre ρ h k) (dW E' l pre σ g k')
 | [], pre, A, h, g, ρ, σ, k, k', _, _, r, hr, hk => hk A ρ σ h g (.refl _ _ _) r hr
 | x :: l, pre, A, h, g, ρ, σ, k, k', hl, hp, r, hr, hk => by
   simp only [List.all_cons, Bool.and_eq_true] at hl; show WR V O A g (dN E x.g ρ h λ ρ h => bif x.re.all (dY pre ρ h) then dW E l (x :: pre) ρ h k else none) (dN E' x.g σ g λ ρ h => bif x.re.all (dY pre ρ h) then dW E' l (x :: pre) ρ h k' else none)
   refine aFA hE hl.1 r hr λ A' ρ1 σ1 h1 g1 s1 r1 hr1 => ?_
   cases q : x.re.all (dY pre ρ1 h1) with
   | false => exact WR.none
   | true =>
     have : x.re.all (dY pre σ1 g1) = true := List.all_eq_true.2 λ y hy => aIV hp r1 hr1 (List.all_eq_true.1 q y hy)
     rw [this]; exact aFy hE hl.2 (by simp only [List.all_cons, hl.1, hp, Bool.and_self]) r1 hr1 (hk.step s1)
def KTR (V : Vl) (O : Nat -> Prop) (A : Re) (g : H) (K K' : KT (DV × H)) : Prop := ∀ x A' ρ σ h' g', xH O A g A' g' -> HR V O A' h' g' -> RR V A' ρ σ -> WR V O A' g' (K x ρ h') (K' x σ g')
theorem KTR.step {A' : Re} {g' : H} {K K' : KT (DV × H)} (s : xH O A g A' g') (w : KTR V O A g K K') : KTR V O A' g' K K' := λ x A1 ρ σ h1 g1 s1 r1 hr => w x A1 ρ σ h1 g1 (s.trans s1) r1 hr
theorem aEX {k k' : Tr DV -> H -> Option (DV × H)} {K K' : KT (DV × H)} (hk : KR V O A g k k') (hK : KTR V O A g K K') : KTR V O A g (aOc k K) (aOc k' K') := by
 intro x A' ρ σ h1 g1 s1 r1 hr; cases x with
 | normal => exact hk A' ρ σ h1 g1 s1 r1 hr
 | exit id => exact hK (.exit id) A' ρ σ h1 g1 s1 r1 hr
 | ret => exact hK .ret A' ρ σ h1 g1 s1 r1 hr
theorem aMC (id : Nat) {K K' : KT (DV × H)} (hK : KTR V O A g K K') : KTR V O A g (aMD id K) (aMD id K') := by
 intro x A' ρ σ h1 g1 s1 r1 hr; cases x with
 | normal => exact hK .normal A' ρ σ h1 g1 s1 r1 hr
 | exit i => exact WR.bif2 (λ _ => hK .normal A' ρ σ h1 g1 s1 r1 hr) λ _ => hK (.exit i) A' ρ σ h1 g1 s1 r1 hr
 | ret => exact hK .ret A' ρ σ h1 g1 s1 r1 hr
theorem aLG {K K' : KT (DV × H)} (hK : KTR V O A g K K') : KTR V O A g (aLH K) (aLH K') := by
 intro x A' ρ σ h1 g1 s1 r1 hr; cases x with
 | normal => exact hK .normal A' ρ σ h1 g1 s1 r1 hr
 | exit i => exact WR.bif λ _ => hK (.exit i) A' ρ σ h1 g1 s1 r1 hr
 | ret => exact hK .ret A' ρ σ h1 g1 s1 r1 hr
theorem aFt (q : Nat) {k k' : Tr DV -> H -> Option (DV × H)} {K K' : KT (DV × H)} (hk : KR V O A g k k') (hK : KTR V O A g K K') : KTR V O A g (aDi q k K) (aDi q k' K') := by
 intro x A' ρ σ h1 g1 s1 r1 hr; cases x with
 | normal => exact hK .normal A' ρ σ h1 g1 s1 r1 hr
 | exit i => exact WR.bif2 (λ _ => hk A' ρ σ h1 g1 s1 r1 hr) λ _ => WR.bif λ _ => hK (.exit i) A' ρ σ h1 g1 s1 r1 hr
 | ret => exact hK .ret A' ρ σ h1 g1 s1 r1 hr
def CR (V : Vl) (b b' : Tr DV -> H -> KT (DV × H) -> Option (DV × H)) : Prop := ∀ (O : Nat -> Prop) (A : Re) (ρ σ : Tr DV) (h g : H) (K K' : KT (DV × H)), HR V O A h g -> RR V A ρ σ -> KTR V O A g K K' -> WR V O A g (b ρ h K) (b' σ g K')
theorem aFn {b b' : Tr DV -> H -> KT (DV × H) -> Option (DV × H)} (hb : CR V b b') {K K' : KT (DV × H)} (hK : KTR V O A g K K') : ∀ n, KR V O A g (aFo b K n) (aFo b' K' n)
 | 0 => λ A' ρ σ h1 g1 s1 r1 hr => WR.none
 | n + 1 => λ A' ρ σ h1 g1 s1 r1 hr => hb O A' ρ σ h1 g1 _ _ r1 hr (aEX ((aFn hb hK n).step s1) (hK.step s1))
theorem aFp (q : Nat) {b b' : Tr DV -> H -> KT (DV × H) -> Option (DV × H)} (hb : CR V b b') {K K' : KT (DV × H)} (hK : KTR V O A g K K') : ∀ n, KR V O A g (aBA b q K n) (aBA b' q K' n)
 | 0 => λ A' ρ σ h1 g1 s1 r1 hr => WR.none
 | n + 1 => λ A' ρ σ h1 g1 s1 r1 hr => hb O A' ρ σ h1 g1 _ _ r1 hr (aFt q ((aFp q hb hK n).step s1) (hK.step s1))
theorem kN (hE : fZ V E E') : ∀ c : DC, okC c = true -> CR V (nB E c) (nB E' c)
 | .skip, _ => λ O A ρ σ h g K K' r hr hK => hK .normal A ρ σ h g (.refl _ _ _) r hr
 | .reg l, hc => λ O A ρ σ h g K K' r hr hK => aDx hE hc r hr λ A' ρ1 σ1 h1 g1 s1 r1 hr1 => hK .normal A' ρ1 σ1 h1 g1 s1 r1 hr1
 | .seq a b, hc => λ O A ρ σ h g K K' r hr hK => by
   simp only [okC, Bool.and_eq_true] at hc; exact kN hE a hc.1 O A ρ σ h g _ _ r hr (aEX (λ A' ρ1 σ1 h1 g1 s1 r1 hr1 => kN hE b hc.2 O A' ρ1 σ1 h1 g1 _ _ r1 hr1 (hK.step s1)) hK)
 | .cond c a b, hc => λ O A ρ σ h g K K' r hr hK => by
   simp only [okC, Bool.and_eq_true] at hc; show WR V O A g (tZ c a b (nB E a) (nB E b) ρ h K) (tZ c a b (nB E' a) (nB E' b) σ g K'); unfold tZ; have t := hr.ev hc.1; split
   · rename_i q e1; rw [e1] at t; rw [kV t]; exact WR.bif2 (λ _ => kN hE a hc.2.1 O A ρ σ h g _ _ r hr hK) λ _ => kN hE b hc.2.2 O A ρ σ h g _ _ r hr hK
   · exact WR.none
 | .block id a, hc => λ O A ρ σ h g K K' r hr hK => kN hE a hc O A ρ σ h g _ _ r hr (aMC id hK)
 | .loop a, hc => λ O A ρ σ h g K K' r hr hK => aFn (kN hE a hc) hK aK A ρ σ h g (.refl _ _ _) r hr
 | .exit id, _ => λ O A ρ σ h g K K' r hr hK => hK (.exit id) A ρ σ h g (.refl _ _ _) r hr
 | .ret, _ => λ O A ρ σ h g K K' r hr hK => hK .ret A ρ σ h g (.refl _ _ _) r hr
 | .scope a, hc => λ O A ρ σ h g K K' r hr hK => kN hE a hc O A ρ σ h g _ _ r hr (aLG hK)
 | .drg l, hc => λ O A ρ σ h g K K' r hr hK => aFy hE hc rfl r hr λ A' ρ1 σ1 h1 g1 s1 r1 hr1 => hK .normal A' ρ1 σ1 h1 g1 s1 r1 hr1
 | .bad, _ => λ O A ρ σ h g K K' r hr hK => WR.none
 | .jump q a b, hc => λ O A ρ σ h g K K' r hr hK => by
   simp only [okC, Bool.and_eq_true] at hc; exact kN hE a hc.1 O A ρ σ h g _ _ r hr (aFt q (aFp q (kN hE b hc.2) hK aK) hK)
 | .nxt _ _ _, hc => by cases hc
 | .fin _ _ _, hc => by cases hc
theorem aUo (r : HR V O A h g) (hr : RR V A ρ σ) (x : RV) : ∀ v, tQ ρ h x = some v -> ∃ w, tQ σ g x = some w /\ rl V A v = some w := by
 intro v hv; cases x with
 | r p => cases hv; exact ⟨_, rfl, hr p⟩
 | cell p =>
   simp only [tQ] at hv ⊢; have t := hr p; split at hv
   · rename_i b o e; rw [e] at t; obtain ⟨c, hc, e2⟩ := jD t; rw [e2]; exact sP r.obj hc hv
   · cases hv
 | cells p n =>
   simp only [tQ] at hv ⊢; have t := hr p; split at hv
   · rename_i b o e; rw [e] at t; obtain ⟨c, hc, e2⟩ := jD t; rw [e2]; cases hq : rdCells h.get b o n with
     | none => rw [hq] at hv; cases hv
     | some vs =>
       rw [hq] at hv; obtain ⟨ws, g1, g2⟩ := gE r.obj hc _ _ hq; simp only [g1]; cases hv; exact ⟨_, rfl, oV g2⟩
   · cases hv
theorem aFf (r : HR V O A h g) (hr : RR V A ρ σ) : ∀ (xs : List RV) (vs : List DV), eO ρ h xs = some vs -> ∃ ws, eO σ g xs = some ws /\ gQ V A vs = some ws
 | [], vs, hv => by cases hv; exact ⟨[], rfl, rfl⟩
 | x :: xs, vs, hv => by
   simp only [eO] at hv ⊢; split at hv
   · rename_i v us h1 h2; cases hv; obtain ⟨w, e1, e2⟩ := aUo r hr x v h1; obtain ⟨ws, e3, e4⟩ := aFf r hr xs us h2; rw [e1, e3]; exact ⟨_, rfl, aE.2 ⟨w, ws, e2, e4, rfl⟩⟩
   · cases hv
theorem aSw {vs ws : List DV} (h : gQ V A vs = some ws) : rl V A (iQ vs) = some (iQ ws) := by
 match vs, h with
 | [], h => cases h; rfl
 | [v], h =>
   obtain ⟨w, _, h1, h2, rfl⟩ := aE.1 h; cases h2; exact h1
 | v :: u :: vs, h =>
   obtain ⟨w, _, h1, h2, rfl⟩ := aE.1 h; obtain ⟨w', _, h3, h4, rfl⟩ := aE.1 h2; exact kL h
theorem aUq (res : List RV) (O : Nat -> Prop) (A : Re) (g : H) : KTR V O A g (bBj res) (bBj res) := by
 have key : ∀ A' ρ σ h' g', HR V O A' h' g' -> RR V A' ρ σ -> WR V O A' g' ((eO ρ h' res).map λ vs => (iQ vs, h')) ((eO σ g' res).map λ vs => (iQ vs, g')) := by
   intro A' ρ σ h' g' r hr; cases hq : eO ρ h' res with
   | none => exact WR.none
   | some vs =>
     obtain ⟨ws, e1, e2⟩ := aFf r hr res vs hq; rw [e1]; exact WR.ret r (aSw e2)
 intro x A' ρ σ h1 g1 s1 r1 hr; cases x with
 | normal => exact key A' ρ σ h1 g1 r1 hr
 | exit i => exact WR.none
 | ret => exact key A' ρ σ h1 g1 r1 hr
theorem Pa.toN_inj : ∀ p q : Pa, p.toN = q.toN -> p = q
 | .h, .h, _ => rfl
 | .h, .l _, e => by simp only [Pa.toN] at e; omega
 | .h, .r _, e => by simp only [Pa.toN] at e; omega
 | .l _, .h, e => by simp only [Pa.toN] at e; omega
 | .l p, .l q, e => by simp only [Pa.toN] at e; rw [Pa.toN_inj p q (by omega)]
 | .l _, .r _, e => by simp only [Pa.toN] at e; omega
 | .r _, .h, e => by simp only [Pa.toN] at e; omega
 | .r _, .l _, e => by simp only [Pa.toN] at e; omega
 | .r p, .r q, e => by simp only [Pa.toN] at e; rw [Pa.toN_inj p q (by omega)]
theorem RR.ofL {args args' : List DV} (ha : gQ V A args = some args') : RR V A (Tr.ofL args) (Tr.ofL args') := by
 intro p; have e : p = Pa.of p.toN := Pa.toN_inj _ _ (Pa.toN_of _).symm; have e1 := Tr.at_ofL args p.toN; have e2 := Tr.at_ofL args' p.toN; unfold Tr.at_ at e1 e2; rw [<- e] at e1 e2; show rl V A (Option.rec (.tup []) (λ v => v) (Tr.get p (Tr.ofL args))) = some (Option.rec (.tup []) (λ v => v) (Tr.get p (Tr.ofL args')))
 rw [e1, e2]; cases hq : args[p.toN]? with
 | none =>
   have : args'[p.toN]? = none := by
     rw [List.getElem?_eq_none_iff] at hq ⊢; rw [eU ha]; exact hq
   rw [this]; rfl
 | some v =>
   obtain ⟨w, h1, h2⟩ := mT ha _ _ hq; rw [h1]; exact h2
theorem aSq (hE : fZ V E E') {d : DF} (hd : okC d.body = true) : qQ V (iZ E d) (iZ E' d) := by
 intro O A h g args args' r ha; unfold iZ; rw [eU ha]; exact WR.bif λ _ => kN hE d.body hd O A _ _ h g _ _ r (RR.ofL ha) (aUq d.res O A g)
def aLl (T : Tr (aQ -> bC)) (B : aQ) : List FD -> Prop
 | [] => True
 | x :: l => (okC x.d.body = true /\ T.at_ x.f = some x.s /\ B x.f = none) /\ aLl T B l
theorem aLl.mem {T : Tr (aQ -> bC)} {B : aQ} : ∀ {l : List FD}, aLl T B l -> ∀ x ∈ l, okC x.d.body = true /\ T.at_ x.f = some x.s /\ B x.f = none
 | y :: l, h, x, hx => by
   rcases List.mem_cons.1 hx with rfl | hx
   · exact h.1
   · exact h.2.mem x hx
theorem aHr {Bs B : aQ} {T : Tr (aQ -> bC)} {l : List FD} (hl : rR l) (ha : aLl T B l) (j : Nat) (hB : ∀ f F, Bs f = some F -> ∀ n, ∃ F', SE B T (j + (n + 1)) f = some F' /\ qQ V F F') : ∀ n, fZ V (SE Bs (aCU l .e) n) (SE B T (j + n))
 | 0 => λ f F h => by cases h
 | n + 1 => λ f F h => by
   replace h : (Option.rec (motive := λ _ => Option bC) (Option.rec (motive := λ _ => Option bC) none (λ s => some (s (SE Bs (aCU l .e) n))) ((aCU l .e).at_ f)) some (Bs f) : Option bC) = some F := h
   cases hb : Bs f with
   | some F0 =>
     rw [hb] at h; cases h; exact hB f F hb n
   | none =>
     rw [hb] at h; show ∃ F', (Option.rec (motive := λ _ => Option bC) (Option.rec (motive := λ _ => Option bC) none (λ s => some (s (SE B T (j + n)))) (T.at_ f)) some (B f) : Option bC) = some F' /\ qQ V F F'
     cases hq : (aCU l .e).at_ f with
     | none => rw [hq] at h; cases h
     | some s =>
       rw [hq] at h; cases h; rcases aGH l _ f s hq with e | ⟨x, hx, rfl, rfl⟩
       · rw [Tr.at_e] at e; cases e
       · obtain ⟨h1, h2, h3⟩ := ha.mem x hx; rw [h2, h3]; refine ⟨_, rfl, ?_⟩; have e1 : ∀ E, x.s E = iZ E x.d := λ E => funext λ a => funext λ b => (hl.mem x hx E a b).symm
         rw [e1, e1]; exact aSq (aHr hl ha j hB n) h1
theorem HR.grow (r : HR V O A h g) {g' : H} (hs : g.size <= g'.size) (hg : ∀ c, c < g.size -> g'.get c = g.get c) : HR V O A h g' /\ xH O A g A g' :=
 ⟨⟨r.inj, λ b c e => ⟨(r.dom b c e).1, Nat.lt_of_lt_of_le (r.dom b c e).2 hs⟩, λ b c o e ho => by rw [hg c (r.dom b c e).2]; exact r.obj0 b c o e ho, r.opq, r.unk⟩, A.le_refl, hs, λ c hc _ => hg c hc, λ _ _ e => .inl e⟩
end
end Go.DI
namespace Go.DI
def rng (O : Nat -> Prop) (A : Re) (c : Nat) : Prop := ∃ b, A b = some c /\ ¬ O b
section
variable {V : Vl} {O : Nat -> Prop} {A A' : Re} {h g h' g' : H}
theorem xH.off (s : xH O A g A' g') : fJ (rng O A) g g' := ⟨s.size, λ c hc hn => s.fr c hc λ b hb => Classical.byContradiction λ ho => hn ⟨b, hb, ho⟩⟩
theorem HR.keep (r : HR V O A h g) {F : Nat -> Prop} (k : fJ F g g') (hd : ∀ c, rng O A c -> ¬ F c) : HR V O A h g' :=
 ⟨r.inj, λ b c e => ⟨(r.dom b c e).1, Nat.lt_of_lt_of_le (r.dom b c e).2 k.size⟩, λ b c o e ho => by
   have hO : ¬ O b := λ hO => by rw [(r.opq b hO).2] at ho; cases ho
   rw [k.get c (r.dom b c e).2 (hd c ⟨b, e, hO⟩)]; exact r.obj0 b c o e ho, r.opq, r.unk⟩
theorem iF.back (hl : A.le A') : ∀ {ds es fs : List dJ}, iF V A ds es -> iF V A' ds fs -> fs = es
 | [], [], [], _, _ => rfl
 | [], [], _ :: _, _, r => r.elim
 | [], _ :: _, _, r, _ => r.elim
 | _ :: _, [], _, r, _ => r.elim
 | _ :: _, _ :: _, [], _, r => r.elim
 | d :: ds, e :: es, f :: fs, r, s => by
   rw [iF.back hl r.2 s.2]; have h1 := kU hl _ _ r.1.1; have h2 := kU hl _ _ r.1.2.1; rw [s.1.1] at h1; rw [s.1.2.1] at h2; have h3 : f.born = e.born := by rw [s.1.2.2, r.1.2.2]
   cases e; cases f; simp only [Option.some.injEq] at h1 h2; simp only at h3; rw [h1, h2, h3]
theorem OR.back (hl : A.le A') {o : eE} {q q' : Option eE} (r : OR V A o q) (s : OR V A' o q') : OR V A o q' := by
 cases o with
 | dead => trivial
 | blk B =>
   obtain ⟨C, rfl, _, _, _, _, e⟩ := r.blk; obtain ⟨C', rfl, f1, f2, f3, f4, f5⟩ := s.blk; refine ⟨f1, f2, f3, f4, λ j v hv => ?_⟩
   obtain ⟨w, h1, h2⟩ := e j v hv; obtain ⟨w', h3, h4⟩ := f5 j v hv; rw [kU hl _ _ h2] at h4; cases h4; exact ⟨w, h3, h2⟩
 | map ds k =>
   obtain ⟨es, rfl, e⟩ := r.map; obtain ⟨fs, rfl, f⟩ := s.map; rw [iF.back hl e f]; exact ⟨rfl, e⟩
 | iter a b c d => cases q <;> exact r.elim
theorem HR.back (r : HR V O A h g) (r' : HR V O A' h' g') (s : xH O A g A' g') (hs : ∀ b o, b < h.size -> h.get b = some o -> h'.get b = some o) : HR V O A h g' :=
 ⟨r.inj, λ b c e => ⟨(r.dom b c e).1, Nat.lt_of_lt_of_le (r.dom b c e).2 s.size⟩, λ b c o e ho =>
   (r.obj0 b c o e ho).back s.le (r'.obj0 b c o (s.le b c e) (hs b o (r.dom b c e).1 ho)), r.opq, r.unk⟩
theorem pF {E E' : aQ} (hE : fZ V E E') (r : HR V O A h g) {f : Nat} {args args' : List DV} (ha : gQ V A args = some args') {v : DV} (hs : aB E f args h = some (v, h')) :
   ∃ A' w g', aB E' f args' g = some (w, g') /\ xH O A g A' g' /\ HR V O A' h' g' /\ rl V A' v = some w := rJ hE r ha v h' hs
def uO (h h' : H) (n : Nat) : Bool := Nat.rec (motive := λ _ => Bool) true (λ b ih => (match h.get b with | some o => (match h'.get b with | some o' => aUF o o' | none => false) | none => true) && ih) n
theorem vZ : ∀ {n : Nat}, uO h h' n = true -> ∀ b o, b < n -> h.get b = some o -> h'.get b = some o
 | 0, _, b, o, hb, _ => absurd hb (Nat.not_lt_zero _)
 | n + 1, hk, b, o, hb, ho => by
   replace hk : ((match h.get n with | some o => (match h'.get n with | some o' => aUF o o' | none => false) | none => true) && uO h h' n) = true := hk
   rw [Bool.and_eq_true] at hk; by_cases e : b = n
   · subst e; have h1 := hk.1; rw [ho] at h1; cases hq : h'.get b with
     | none => rw [hq] at h1; cases h1
     | some o' => rw [hq] at h1; rw [aOC _ _ h1]
   · exact vZ hk.2 b o (by omega) ho
theorem aIX {E E' : aQ} (hE : fZ V E E') (r : HR V O A h g) {f : Nat} {args args' : List DV} (ha : gQ V A args = some args') {v : DV} (hs : aB E f args h = some (v, h')) (hk : uO h h' h.size = true) :
   ∃ A' w g', aB E' f args' g = some (w, g') /\ fJ (rng O A) g g' /\ HR V O A h g' /\ A.le A' /\ rl V A' v = some w := by
 obtain ⟨A', w, g', e1, e2, e3, e4⟩ := pF hE r ha hs; exact ⟨A', w, g', e1, e2.off, r.back e3 e2 (vZ hk), e2.le, e4⟩
end
end Go.DI
end
