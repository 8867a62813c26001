/- Insertion into slices of unknown capacity; rows of structs; slices of plain structs that a law is handed. No condition. -/
import Derived.Deep.Slices
import Derived.KernelRfl
import Derived.Test.YthpciaidbgjoeaaGreatDc
set_option linter.unusedVariables false
set_option linter.unusedSimpArgs false
noncomputable section
namespace Go.DI
open Go.RowKit
section
variable {N0 : Nat} {w0 : World} {m : Mp} {h : H} {w : World}
end
end Go.DI
namespace Go.DI
open Go.RowKit
def pK (h : H) (b N E : Nat) (L : List DV) : Prop := b < h.size /\ L.length <= N /\ ∃ pl t, h.get b = some (.blk ⟨N, E, false, pl, t⟩) /\ ∀ j x, L[j]? = some x -> t.at_ j = some x
section
variable {h h' : H} {b N E : Nat} {L : List DV}
theorem pK.rd (hb : pK h b N E L) {j : Nat} {x : DV} (hj : L[j]? = some x) : rdCell h.get b j = some x := by
 obtain ⟨hlt, hl, pl, t, h1, h2⟩ := hb; rw [oW h1 (Nat.lt_of_lt_of_le (gU hj) hl)]; exact h2 j x hj
theorem pK.cells (hb : pK h b N E L) {o k : Nat} (hk : o + k <= L.length) : rdCells h.get b o k = some ((L.drop o).take k) := by
 have hl : ((L.drop o).take k).length = k := by simp; omega
 have := mK (rd := h.get) (b := b) ((L.drop o).take k) o λ i v hi => hb.rd (by
   rw [List.getElem?_take] at hi; split at hi
   · rw [List.getElem?_drop] at hi; exact hi
   · cases hi)
 rw [hl] at this; exact this
theorem pK.grown (hb : pK h b N E L) (g : aX h h') : pK h' b N E L := by
 obtain ⟨hlt, hl, pl, t, h1, h2⟩ := hb; exact ⟨Nat.lt_of_lt_of_le hlt g.size, hl, pl, t, by rw [g.get b hlt]; exact h1, h2⟩
theorem pK.store (hb : pK h b N E L) {vs : List DV} {o : Nat} (hv : vs.all DV.one = true) (ho : o <= L.length) (hN : o + vs.length <= N) :
   ∃ h', eW vs h b o = some h' /\ pK h' b N E (L.take o ++ vs ++ L.drop (o + vs.length)) /\ qS b h h' := by
 obtain ⟨hlt, hl, pl, t, h1, h2⟩ := hb; obtain ⟨h', t', f1, f2, f3, f4, f5⟩ := qB (h := h) (b := b) (o := o) (vs := vs) h1 rfl hN hv; refine ⟨h', f1, ⟨by rw [f2]; exact hlt, by simp; omega, pl, t', f4, λ j x hj => ?_⟩, ⟨f2, f3⟩⟩
 rw [f5]; have ht : (L.take o).length = o := by simp; omega
 by_cases hjo : o <= j /\ j < o + vs.length
 · rw [if_pos hjo]; rw [List.append_assoc, List.getElem?_append_right (by omega), ht, List.getElem?_append_left (by omega)] at hj
   exact hj
 · rw [if_neg hjo]; apply h2; rcases Nat.lt_or_ge j o with hlt | hge
   · rw [List.append_assoc, List.getElem?_append_left (by omega), List.getElem?_take, if_pos hlt] at hj
     exact hj
   · have hge2 : o + vs.length <= j := by
       rcases Nat.lt_or_ge j (o + vs.length) with h3 | h3
       · exact absurd ⟨hge, h3⟩ hjo
       · exact h3
     rw [List.getElem?_append_right (by simp only [List.length_append, ht]; omega), List.length_append, ht, List.getElem?_drop] at hj
     rw [show j = o + vs.length + (j - (o + vs.length)) from by omega]; exact hj
end
end Go.DI
namespace Go.DI
open Go.RowKit
structure fJ (F : Nat -> Prop) (h h' : H) : Prop where
 size : h.size <= h'.size
 get : ∀ c, c < h.size -> ¬ F c -> h'.get c = h.get c
theorem fJ.refl (F : Nat -> Prop) (h : H) : fJ F h h := ⟨Nat.le_refl _, λ _ _ _ => rfl⟩
theorem fJ.trans {F : Nat -> Prop} {x y z : H} (a : fJ F x y) (b : fJ F y z) : fJ F x z :=
 ⟨Nat.le_trans a.size b.size, λ c hc hf => (b.get c (Nat.lt_of_lt_of_le hc a.size) hf).trans (a.get c hc hf)⟩
theorem fJ.weak {F G : Nat -> Prop} {x y : H} (a : fJ F x y) (h : ∀ c, c < x.size -> F c -> G c) : fJ G x y := ⟨a.size, λ c hc hg => a.get c hc λ hf => hg (h c hc hf)⟩
theorem aX.off {x y : H} (a : aX x y) (F : Nat -> Prop) : fJ F x y := ⟨a.size, λ c hc _ => a.get c hc⟩
theorem qS.off {b : Nat} {x y : H} (a : qS b x y) {F : Nat -> Prop} (hb : F b) : fJ F x y := ⟨by rw [a.size]; exact Nat.le_refl _, λ c _ hf => a.get c λ hh => hf (hh ▸ hb)⟩
section
variable {A A' : Nat -> Prop} {es : Nat} {h h' : H} {v : DV} {L : List DV}
end
def gM (n0 es : Nat) (h : H) (v : DV) (L : List DV) : Prop := (v = .nils /\ L = []) \/ ∃ b n pl t, n0 <= b /\ b < h.size /\ L.length = n * es /\ v = .slc b 0 n n true /\ h.get b = some (.blk ⟨n * es, es, false, pl, t⟩) /\ ∀ j x, L[j]? = some x -> t.at_ j = some x
section
variable {n0 es : Nat} {h h' : H} {v : DV} {L : List DV}
theorem gM.nil : gM n0 es h .nils [] := .inl ⟨rfl, rfl⟩
theorem gM.one (o : gM n0 es h v L) : v.one = true := by rcases o with ⟨rfl, _⟩ | ⟨_, _, _, _, _, _, _, rfl, _⟩ <;> rfl
theorem gM.grown (o : gM n0 es h v L) (g : aX h h') : gM n0 es h' v L := by
 rcases o with o | ⟨b, n, pl, t, hb, hlt, hl, e, g1, ht⟩
 · exact .inl o
 · exact .inr ⟨b, n, pl, t, hb, Nat.lt_of_lt_of_le hlt g.size, hl, e, by rw [g.get b hlt]; exact g1, ht⟩
theorem gM.app (o : gM n0 es h v L) (hn0 : n0 <= h.size) {x : DV} {S : List DV} {k bytes : Nat} (hk : eZ x = some k) (hS : dV es h.get x = some S) (hSl : S.length = k * es) (h1 : S.all DV.one = true) (he : 0 < es)
   (hsz : ∀ n, L.length = n * es -> (n + k) * bytes < aY /\ n + k < aY) : ∃ v' h', cJ es bytes v x h = some (v', h') /\ gM n0 es h' v' (L ++ S) /\ dE n0 h h' := by
 rw [iT]; rcases o with ⟨rfl, rfl⟩ | ⟨b, n, pl, t, hb, hlt, hl, rfl, g, ht⟩
 · simp only [iB, hk, hS, Option.bind_some]; by_cases hk0 : k = 0
   · subst hk0; have : S = [] := List.eq_nil_of_length_eq_zero (by omega)
     subst this; exact ⟨.nils, h, rfl, .inl ⟨rfl, rfl⟩, dE.refl _ _⟩
   · have hb0 : Nat.beq k 0 = false := by rw [Bool.eq_false_iff]; intro hh; exact hk0 (Nat.eq_of_beq_eq_true hh)
     obtain ⟨s1, s2⟩ := hsz 0 (by simp)
     rw [Nat.zero_add] at s1 s2; rw [hb0, cond_false, dK s1, dK s2, Bool.and_self, cond_true, H.pushK_eq]; refine ⟨_, _, rfl, .inr ⟨h.size, k, true, Tr.ofL S, hn0, by simp, by simpa using hSl, rfl, by rw [H.get_push, if_pos rfl], λ j x hj => by rw [Tr.at_ofL]; simpa using hj⟩, dE.push hn0 _⟩
 · simp only [iB, hk, hS, Option.bind_some, aM]; by_cases hk0 : k = 0
   · subst hk0; have : S = [] := List.eq_nil_of_length_eq_zero (by omega)
     subst this; rw [Nat.ble_eq_true_of_le (by omega), cond_true]
     exact ⟨_, h, rfl, .inr ⟨b, n, pl, t, hb, hlt, by simpa using hl, rfl, g, by simpa using ht⟩, dE.refl _ _⟩
   · obtain ⟨s1, s2⟩ := hsz n hl; have e1 : Nat.beq (0 + n * es) (n * es) = true := by rw [Nat.zero_add]; exact Nat.beq_refl _
     have e2 : zN 0 n es ⟨n * es, es, false, pl, t⟩ S h.get b = some (Tr.ofF S (n * es) t) := rfl; rw [qH (by omega), cond_false, dK s1, dK s2, Bool.and_self, cond_true, g]
     simp only [e1, Nat.beq_refl, Bool.not_false, Nat.ble_eq_true_of_le (Nat.le_refl n), h1, Bool.and_self, cond_true, e2, Option.bind_some, H.pushK_eq, H.putK_eq]; refine ⟨_, _, rfl, .inr ⟨h.size, n + k, false, Tr.ofF S (n * es) t, hn0, by simp, by rw [List.length_append, hl, hSl, Nat.add_mul], rfl, ?_, λ j x hj => ?_⟩, ⟨by simp, λ c hc => ?_⟩⟩
     · rw [H.get_put, if_neg (by omega), H.get_push, if_pos rfl]
     · rw [Tr.at_ofF]; by_cases hj2 : n * es <= j
       · have hlt2 : j - L.length < S.length := by
           have := gU hj; rw [List.length_append] at this; omega
         rw [if_pos ⟨hj2, by rw [<- hl]; omega⟩]
         rw [List.getElem?_append_right (by omega), hl] at hj; exact hj
       · rw [if_neg (by omega)]
         rw [List.getElem?_append_left (by omega)] at hj
         exact ht j x hj
     · rw [H.get_put, if_neg (by omega), H.get_push, if_neg (by omega)]
end
end Go.DI
namespace Go.DI
open Go.RowKit
theorem aSQ {h : H} {es : Nat} (L : List DV) (n : Nat) (hn : n = L.length) : aR (h.push (.blk ⟨n, es, false, true, Tr.ofL L⟩)) h.size L := by subst hn; exact aR.pushed
theorem aR.off {h h' : H} {b : Nat} {L : List DV} (o : aR h b L) {F : Nat -> Prop} (k : fJ F h h') (hb : ¬ F b) : aR h' b L := by
 obtain ⟨hlt, es, t, h1, h2⟩ := o; exact ⟨Nat.lt_of_lt_of_le hlt k.size, es, t, by rw [k.get b hlt hb]; exact h1, h2⟩
theorem gF.off {h h' : H} {v : DV} {L : List DV} (r : gF h v L) {F : Nat -> Prop} (k : fJ F h h') (hF : ∀ b o n c op, v = .slc b o n c op -> ¬ F b) : gF h' v L := by
 rcases r with r | ⟨b, o, c, op, e, h1, h2, h3⟩
 · exact .inl r
 · exact .inr ⟨b, o, c, op, e, h1, Nat.lt_of_lt_of_le h2 k.size, λ j x hj => by rw [mZ (k.get b h2 (hF _ _ _ _ _ e))]; exact h3 j x hj⟩
end Go.DI
namespace Go.DI
open Go.RowKit
section
variable {H : Type} {enc : TypeId × Value -> H} {P : Program} {w : World} {base : Nat} {sp : Nat -> Bool} {held : Bool}
end
end Go.DI
namespace Go.DI
def zR {α : Type} (l : List α) : Nat -> List α
 | 0 => []
 | n + 1 => l ++ zR l n
abbrev ii (n : Nat) : DV := .int .i64 (.ofNat n)
abbrev q0 : Pa := .h
abbrev q1 : Pa := .l .h
abbrev q2 : Pa := .r .h
abbrev q3 : Pa := .l (.l .h)
abbrev q4 : Pa := .r (.l .h)
abbrev iA0 (E : aQ) (c : DC) (r : List RV) (J : H -> aL) : Prop := Is E c (bB r) λ σ h => J h
abbrev iA1 (E : aQ) (c : DC) (r : List RV) (J : DV -> H -> aL) : Prop := Is E c (bB r) λ σ h => J (σ q0) h
abbrev iA2 (E : aQ) (c : DC) (r : List RV) (J : DV -> DV -> H -> aL) : Prop := Is E c (bB r) λ σ h => J (σ q0) (σ q1) h
abbrev iA3 (E : aQ) (c : DC) (r : List RV) (J : DV -> DV -> DV -> H -> aL) : Prop := Is E c (bB r) λ σ h => J (σ q0) (σ q1) (σ q2) h
abbrev iA4 (E : aQ) (c : DC) (r : List RV) (J : DV -> DV -> DV -> DV -> H -> aL) : Prop := Is E c (bB r) λ σ h => J (σ q0) (σ q1) (σ q2) (σ q3) h
abbrev iA5 (E : aQ) (c : DC) (r : List RV) (J : DV -> DV -> DV -> DV -> DV -> H -> aL) : Prop := Is E c (bB r) λ σ h => J (σ q0) (σ q1) (σ q2) (σ q3) (σ q4) h
def fA0 (J : H -> aL) : bC := λ args h => a0 args (J h)
def lY (J : DV -> H -> aL) : bC := λ args h => aS args λ r0 args => a0 args (J r0 h)
def jU (J : DV -> DV -> H -> aL) : bC := λ args h => aS args λ r0 args => aS args λ r1 args => a0 args (J r0 r1 h)
def fA3 (J : DV -> DV -> DV -> H -> aL) : bC := λ args h => aS args λ r0 args => aS args λ r1 args => aS args λ r2 args => a0 args (J r0 r1 r2 h)
def fA4 (J : DV -> DV -> DV -> DV -> H -> aL) : bC := λ args h => aS args λ r0 args => aS args λ r1 args => aS args λ r2 args => aS args λ r3 args => a0 args (J r0 r1 r2 r3 h)
def fA5 (J : DV -> DV -> DV -> DV -> DV -> H -> aL) : bC := λ args h => aS args λ r0 args => aS args λ r1 args => aS args λ r2 args => aS args λ r3 args => aS args λ r4 args => a0 args (J r0 r1 r2 r3 r4 h)
abbrev SQ (d : DF) (S : aQ -> bC) : Prop := ∀ E args h, iZ E d args h = S E args h
theorem eA0 {E : aQ} {d : DF} {J : H -> aL} (h : iA0 E d.body d.res J) (hn : d.np = 0) : ∀ args m, iZ E d args m = fA0 J args m := Is.fn0 h hn J λ _ => rfl
theorem eA1 {E : aQ} {d : DF} {J : DV -> H -> aL} (h : iA1 E d.body d.res J) (hn : d.np = 1) : ∀ args m, iZ E d args m = lY J args m := Is.fn1 h hn J λ _ _ => rfl
theorem eA2 {E : aQ} {d : DF} {J : DV -> DV -> H -> aL} (h : iA2 E d.body d.res J) (hn : d.np = 2) : ∀ args m, iZ E d args m = jU J args m := Is.fn2 h hn J λ _ _ _ => rfl
theorem eA3 {E : aQ} {d : DF} {J : DV -> DV -> DV -> H -> aL} (h : iA3 E d.body d.res J) (hn : d.np = 3) : ∀ args m, iZ E d args m = fA3 J args m := Is.fn3 h hn J λ _ _ _ _ => rfl
theorem eA4 {E : aQ} {d : DF} {J : DV -> DV -> DV -> DV -> H -> aL} (h : iA4 E d.body d.res J) (hn : d.np = 4) : ∀ args m, iZ E d args m = fA4 J args m := Is.fn4 h hn J λ _ _ _ _ _ => rfl
theorem eA5 {E : aQ} {d : DF} {J : DV -> DV -> DV -> DV -> DV -> H -> aL} (h : iA5 E d.body d.res J) (hn : d.np = 5) : ∀ args m, iZ E d args m = fA5 J args m := Is.fn5 h hn J λ _ _ _ _ _ _ => rfl
theorem cV (h : H) (n es : Nat) (L : List DV) (hn : n = L.length) : ∃ x, x = h.push (.blk ⟨n, es, false, true, Tr.ofL L⟩) /\ aX h x /\ aR x h.size L := ⟨_, rfl, aX.push _ _, aSQ _ _ hn⟩
theorem nbx {R : Type} {cs : List DV} {h h1 : H} {n : Nat} {k : DV -> H -> Option R} (e : h1 = h.push (.blk ⟨n, n, false, true, Tr.ofL cs⟩)) (hn : n = cs.length) : cY (.agg cs) h k = k (.ptr h.size 0) h1 := by
 subst e; subst hn; exact vX cs h k
end Go.DI
namespace Go.DI
open Go
section
variable (P : Program)
def cmL : Value -> Option DV
 | .bool b => some (.bool b)
 | .int k n => some (.int k n)
 | .string s => some (.str (s.data.toList.map UInt8.toNat))
 | .pointer none => some .nilp
 | .slice none 0 0 => some .nils
 | .map none => some .nilm
 | .nilFunc => some .nilf
 | .nilIface => some .nili
 | .func f a b => bif a.isEmpty && b.isEmpty then some (.fn f [] []) else none
 | _ => none
def uX {α β : Type} (f : α -> Option β) : List α -> Option (List β)
 | [] => some []
 | x :: l => (f x).bind λ y => (uX f l).map λ l => y :: l
def cmV : Value -> Option DV
 | .agg cs => (uX cmL cs.toList).map .agg
 | .tuple cs => (uX cmL cs.toList).map .tup
 | v => cmL v
def tV : Operand -> Option aU
 | .tmp t => some (.r (Pa.of t))
 | .const v => (cmV v).map .c
 | .func f => some (.c (.fn (.func f) [] []))
 | .global _ => none
def bHZ : Option Operand -> Option (Option aU)
 | none => some none
 | some x => (tV x).map some
def wU (t : TypeId) : Option Nat := (P.info? t).map (·.size)
def aPk (t : TypeId) : Option Bool := (P.underlying t).map aMb
def aTk (t : TypeId) : Option (List DV) := (P.info? t).bind λ i => i.zero.bind λ z => uX cmL z.cells.toList
def cmZ (t : TypeId) : Option DV := (P.info? t).bind λ i => i.zero.bind cmV
def bHY (a b : DV) : Bool := match a, b with
 | .int k x, .int k' y => decide (k = k') && decide (x = y)
 | .bool x, .bool y => x == y
 | .nili, .nili => true
 | .nilp, .nilp => true
 | .str [], .str [] => true
 | _, _ => false
def cmZc (l : List DV) : Zs :=
 match l with
 | v :: rest =>
   let n := 1 + (rest.takeWhile (bHY v)).length
   bif Nat.blt n 16 then .list l else bif Nat.beq n l.length then .full n v else .fullThen n v (l.drop n)
 | [] => .list []
def bFi (t : TypeId) (x y : Operand) : Option (Option EqT) := (P.underlying t).bind λ u => match u with
 | .bool => some (some .bool)
 | .int _ => some none
 | .string => some none
 | .pointer _ => some (some .ptr)
 | .interface _ => bif mM x || mM y then some (some .nilI) else some (some .nilD)
 | .slice _ => some (some .nilL)
 | .map _ _ => some (some .nilM)
 | .func _ _ _ => some (some .nilF)
 | _ => none
def aWp (t : TypeId) : Option nW := match P.underlying t with
 | some .bool => some .bool
 | some (.int _) => some .int
 | some .string => some .str
 | _ => none
def aWq : Nat -> TypeId -> Option EqS
 | 0, _ => none
 | n + 1, t => match P.underlying t with
   | some (.struct fs) => fs.toList.foldr (λ f r => r.bind λ s => match P.underlying f.type with
     | some .bool => some (.leaf .bool f.offset s)
     | some (.int _) => some (.leaf .int f.offset s)
     | some .string => some (.leaf .str f.offset s)
     | some (.pointer _) => some (.leaf .ptr f.offset s)
     | some (.struct _) => (wU P f.type).bind λ k => (aWq n f.type).map λ q => .sub f.offset k q s
     | some (.array m el) => (aWp P el).map λ k => .arr k f.offset m s
     | _ => none) (some .nil)
   | _ => none
def aHk (place : Nat -> Option (Nat × Nat)) (ps : Array (Nat × Operand)) : Option (List (Nat × Nat × aU)) :=
 uX (λ q => (place q.1).bind λ ab => (tV q.2).map λ x => (ab.1, ab.2, x)) ps.toList
def cm1 (f : aU -> vN) (x : Operand) : Option DOp := (tV x).map λ a => .e (f a)
def cm2 (f : aU -> aU -> vN) (x y : Operand) : Option DOp := (tV x).bind λ a => (tV y).map λ b => .e (f a b)
def bIa (c : Call) : Option DOp := match c.callee, c.args.toList with
 | .builtin .len, [x] => match P.underlying (c.argTypes.getD 0 0) with
   | some .string => cm1 .lenS x
   | some (.slice _) => cm1 .lenL x
   | some (.map _ _) => cm1 .lenM x
   | some (.array n _) => some (.e (.lenA n))
   | some (.pointer a) => match P.underlying a with
     | some (.array n _) => some (.e (.lenA n))
     | _ => none
   | _ => none
 | .builtin .cap, [x] => match P.underlying (c.argTypes.getD 0 0) with
   | some (.slice _) => cm1 .capL x
   | _ => none
 | .builtin .min, [x, y] => cm2 .mn x y
 | .builtin .max, [x, y] => cm2 .mx x y
 | .builtin .append, [x, y] => match P.underlying (c.argTypes.getD 0 0) with
   | some (.slice el) => (tV x).bind λ a => (tV y).bind λ b => (wU P el).bind λ s => (P.info? el).bind λ i => match P.underlying (c.argTypes.getD 1 0) with
     | some (.int _) => (aTk P el).map λ z => .w (.apz s i.bytes z a b)
     | _ => some (.w (.app s i.bytes a b))
   | _ => none
 | .builtin .clear, [x] => match P.underlying (c.argTypes.getD 0 0) with
   | some (.slice el) => (aTk P el).bind λ z => (tV x).map λ a => .w (.clr z a)
   | some (.map _ _) => (tV x).map λ a => .w (.clm a)
   | _ => none
 | .builtin .copy, [x, y] => match P.underlying (c.argTypes.getD 0 0) with
   | some (.slice el) => (wU P el).bind λ s => (tV x).bind λ a => (tV y).map λ b => .w (.cpy s a b)
   | _ => none
 | .builtin .delete, [x, k] => match P.underlying (c.argTypes.getD 0 0) with
   | some (.map key _) => (aWp P key).bind λ q => (tV x).bind λ x => (tV k).map λ k => .w (.del q x k)
   | _ => none
 | .builtin _, _ => none
 | .value (.func f), as => match P.funcs[f]?, as with
   | some fn, [x, y] =>
     bif fn.body.isNone && fn.name == "internal/bytealg.IndexByteString" then cm2 (.prm .idx) x y
     else bif fn.body.isNone && fn.name == "internal/bytealg.CountString" then cm2 (.prm .cnt) x y
     else bif aDQ P f then cm2 .ovl x y
     else (uX tV as).map λ l => .c (.f f l)
   | _, _ => (uX tV as).map λ l => .c (.f f l)
 | .value x, as => (tV x).bind λ a => (uX tV as).map λ l => .c (.v a l)
 | .invoke x name, as => (tV x).bind λ a => (uX tV as).map λ l => .c (.m ((List.range P.types.size).filterMap λ t => (P.info? t).bind λ i => (i.methods.find? λ m => m.name == name).bind λ m => m.func.bind λ q => bif bCQ P name (t, q.1) && iC P q.1 then some (t, q.1) else none) a l)
def cmE (o : Oper) : Option DOp :=
 match o.op with
 | .move x | .assign x => cm1 .mv x
 | .pick c a b => (tV c).bind λ c => cm2 (.pick c) a b
 | .alloc t => (aTk P t).bind λ z => (wU P t).map λ s => .e (.alc z.length s (cmZc z))
 | .box _ x => cm1 .box x
 | .build t ps => (aTk P t).bind λ z => match P.underlying t with
   | some (.struct fs) => (aHk (iP P fs) ps).map λ q => .e (.bld z q)
   | some (.array _ el) => (wU P el).bind λ s => (aHk (jT s) ps).map λ q => .e (.bld z q)
   | _ => none
 | .buildSlice t n ps => match P.underlying t with
   | some (.slice el) => (wU P el).bind λ s => (aTk P el).bind λ z => (aHk (jT s) ps).map λ q => .e (.bsl n s z q)
   | _ => none
 | .load t a => (aPk P t).bind λ b => bif b then (wU P t).bind λ s => cm1 (.ldN s) a else cm1 .ld a
 | .store t a x => (wU P t).bind λ s => (tV a).bind λ a => (tV x).map λ x => .w (.st s a x)
 | .nilCheck x => cm1 .nilchk x
 | .binOp op t x y _ =>
   match op with
   | .eql => match P.underlying t with
     | some (.struct _) => (aWq P 20 t).bind λ q => cm2 (.eqs false q) x y
     | _ => (bFi P t x y).bind λ q => match q with | some q => cm2 (.eqv q false) x y | none => cm2 (.bin op) x y
   | .neq => match P.underlying t with
     | some (.struct _) => (aWq P 20 t).bind λ q => cm2 (.eqs true q) x y
     | _ => (bFi P t x y).bind λ q => match q with | some q => cm2 (.eqv q true) x y | none => cm2 (.bin op) x y
   | _ => cm2 (.bin op) x y
 | .unOp .not _ x => cm1 .not x
 | .unOp .neg _ x => cm1 .neg x
 | .unOp .xor t x => match P.underlying t with
   | some (.int k) => cm1 (.bin .xor (.c (.int k (bBs k)))) x
   | _ => none
 | .unOp .. => none
 | .convert s t x =>
   match P.underlying s, P.underlying t with
   | some .string, some .string => cm1 .same x
   | some (.slice _), some .string => cm1 .b2s x
   | some .string, some (.slice _) => cm1 .s2b x
   | some (.int _), some (.int k) => cm1 (.conv k) x
   | _, _ => none
 | .makeInterface t x => cm1 (.mkI t) x
 | .makeFunc f a c => (uX tV a.toList).bind λ a => (uX tV c.toList).map λ c => .e (.mkF f a c)
 | .makeMap _ none => some (.e .mkm)
 | .makeSlice t l c => match P.underlying t with
   | some (.slice el) => (P.info? el).bind λ i => (aTk P el).bind λ z => match z with
     | [z] => cm2 (.mks 1 i.bytes z) l c
     | _ => none
   | _ => none
 | .slice t x lo hi none => (bHZ lo).bind λ lo => (bHZ hi).bind λ hi => match P.underlying t with
   | some .string => cm1 (.slS · lo hi) x
   | some (.slice el) => (wU P el).bind λ s => cm1 (.slL s · lo hi) x
   | some (.array n el) => (wU P el).bind λ s => cm1 (.slA n s · lo hi) x
   | _ => none
 | .slice t x lo (some hi) (some mx) => (bHZ lo).bind λ lo => match P.underlying t with
   | some (.slice el) => (wU P el).bind λ s => (tV x).bind λ x => cm2 (.slM s x lo) hi mx
   | _ => none
 | .slice .. => none
 | .fieldAddr s x f => (wD P s f).bind λ d => cm1 (.fa d.offset) x
 | .field s x f => (wD P s f).bind λ d => (wU P d.type).bind λ n => (aPk P d.type).bind λ b => cm1 (.fld d.offset n b) x
 | .indexAddr t x i => match P.underlying t with
   | some (.slice el) => (wU P el).bind λ s => cm2 (.iaS s) x i
   | some (.array n el) => (wU P el).bind λ s => cm2 (.iaA n s) x i
   | _ => none
 | .index t x i => match P.underlying t with
   | some .string => cm2 .ixS x i
   | some (.array n el) => (wU P el).bind λ s => (aPk P el).bind λ b => cm2 (.ixA n s b) x i
   | _ => none
 | .extract x i => cm1 (.ext i) x
 | .typeAssert x _ t ok => match P.underlying t with
   | some (.interface _) => none
   | some _ => (cmZ P t).bind λ z => cm1 (.tas t z ok) x
   | none => none
 | .lookup t x k ok => match P.underlying t with
   | some (.map key el) => (aWp P key).bind λ q => (cmZ P el).bind λ z => cm2 (.lkp q z ok) x k
   | _ => none
 | .mapUpdate t x k y => match P.underlying t with
   | some (.map key _) => (aWp P key).bind λ q => (tV x).bind λ x => (tV k).bind λ k => (tV y).map λ y => .w (.mup q x k y)
   | _ => none
 | .call c => bIa P c
 | .range t x => match P.underlying t with
   | some (.map _ _) => (tV x).map λ x => .w (.rng x)
   | _ => none
 | .entry x => (tV x).map λ x => .w (.ent x)
 | .mapEntry t x k => match P.underlying t with
   | some (.map key el) => (aWp P key).bind λ q => (cmZ P el).bind λ z => (tV x).bind λ x => (tV k).map λ k => .w (.men q z x k)
   | _ => none
 | .entryStore _ x k y => (tV x).bind λ x => (tV k).bind λ k => (tV y).map λ y => .w (.est x k y)
 | _ => none
def cmG (ops : Array Oper) (o : Oper) : DG where
 dst := o.dst.map Pa.of
 guard := o.guard.bind λ jb => ((ops[jb.1]?).bind (·.dst)).map λ t => (Pa.of t, jb.2)
 op := (cmE P o).getD (.e .bad)
def bFh (ops : Array Oper) (gs : List DG) (ms : Ln) (sy w : List Bool) : Nat -> Ln -> List DR -> List DR
 | 0, _, out => out.reverse
 | n + 1, done, out =>
   let rdy := (List.range ops.size).filter λ i => !done.any (Nat.beq i) && (match ops[i]? with | some o => (pN o).all λ d => done.any (Nat.beq d) | none => false)
   match (match rdy.filter (λ i => !w.getD i false) with | i :: _ => some i | [] => rdy.head?) with
   | none => out.reverse
   | some i => match gs[i]? with
     | none => out.reverse
     | some g => bFh ops gs ms sy w n (i :: done) ({ i := i, g := g, re := bif w.getD i false then (out.filter λ x => x.g.op.rd && !aBV ms x.i i).map (·.i) else [], sy := sy.getD i false } :: out)
def bCN (ops : Array Oper) (gs : List DG) (ms : Ln) : List DR :=
 let n := ops.size
 let sy := (List.range n).map λ i => match gs[i]? with
   | some g => !g.op.isW && (List.range n).any λ j => !Nat.beq j i && (!aBV ms i j && (match gs[j]? with | some y => aFE g.dst y.looks || uK ops i j | none => false))
   | none => false
 let w := (List.range n).map λ i => sy.getD i false || (match gs[i]? with | some g => g.op.isW | none => false)
 bFh ops gs ms sy w n [] []
def bCO : Code -> Ln
 | .goto l => [l]
 | .seq a b | .cond _ a b => bCO a ++ bCO b
 | .block _ a | .loop a => bCO a
 | _ => []
def cmNx (o : Oper) : Option (Pa × aU) := match o.op, o.dst with
 | .next it false, some t => (tV it).map λ x => (Pa.of t, x)
 | _, _ => none
def cmIt : Code -> Option Nat
 | .loop (.seq (.region _ ops _) _) => match ((ops.toList.head?).map (λ o : Oper => o.op)) with
   | some (Op.next (Operand.tmp t) false) => some t
   | _ => none
 | _ => none
def aPj : Code -> Ln
 | .region _ ops _ => ops.toList.filterMap λ o => match o.op, o.guard, o.dst with
   | .alloc _, none, some t => some t
   | .box .., none, some t => some t
   | .buildSlice .., none, some t => some t
   | _, _, _ => none
 | .seq a b => aPj a ++ aPj b
 | .block _ a => aPj a
 | _ => []
def bQO (l : Ln) (d : DC) : DC := l.foldl (λ d t => .fin t (Pa.of t) d) d
def bQN : Code -> Option (Code × Code × Code)
 | .seq (.region i ops d) (.seq c b) => match ((ops.toList.head?).map (λ o : Oper => o.op)) with
   | some (Op.next _ false) => some (.region i ops d, c, b)
   | _ => none
 | _ => none
def cmC : Nat -> Code -> DC
 | 0, _ => .bad
 | n + 1, c => match c with
   | .skip | .label _ => .skip
   | .region _ ops draw =>
     let gs := ops.toList.map (cmG P ops)
     bif draw then .drg (bCN ops gs (aDe [] ops.toList)) else match ops.toList.head?.bind λ o => cmNx o with
       | some (p, x) => .nxt p x gs.tail
       | none => .reg gs
   | .seq a b => .seq (cmC n a) (cmC n b)
   | .cond c a b => match tV c with
     | some c => .cond c (cmC n a) (cmC n b)
     | none => .bad
   | .block id a => match cmIt a with
     | some t => .fin t (Pa.of t) (.block id (cmC n a))
     | none => .block id (cmC n a)
   | .loop a => match bQN a with
     | some (s, c, b) => .loop (.seq (cmC n s) (.seq (cmC n c) (bQO (aPj b) (cmC n b))))
     | none => .loop (cmC n a)
   | .exit id => .exit id
   | .ret => .ret
   | .scope a => match bCO a with
     | [] => .scope (cmC n a)
     | l :: _ => match findLabel a l with
       | some r => .jump (4294967296 + l) (cmC n a) (cmC n r)
       | none => .bad
   | .goto l => .exit (4294967296 + l)
   | _ => .bad
def cmF (f : Nat) : DF := match P.funcs[f]? with
 | some fn => ⟨fn.params.size + fn.nfree, fn.ntmps, (match fn.body with | some b => cmC P 1000 b | none => .bad), fn.results.toList.map λ r => match r with
   | .tmp t => .r (Pa.of t)
   | .cell a t => match aPk P t, wU P t with
     | some true, some s => .cells (Pa.of a) s
     | _, _ => .cell (Pa.of a)⟩
 | none => ⟨0, 0, .bad, []⟩
end
end Go.DI
namespace Go.DI
def cl (c : DC) : DC := match c with
 | .seq a _ => a
 | .cond _ a _ => a
 | .block _ a => a
 | .loop a => a
 | .scope a => a
 | .fin _ _ a => a
 | .jump _ a _ => a
 | _ => .bad
def cr (c : DC) : DC := match c with
 | .seq _ b => b
 | .cond _ _ b => b
 | .jump _ _ b => b
 | _ => .bad
def cc (c : DC) : aU := match c with
 | .cond x _ _ => x
 | _ => .c .nils
def isq (c : DC) : Bool := match c with | .seq _ _ => true | _ => false
def icd (c : DC) : Bool := match c with | .cond _ _ _ => true | _ => false
def ibk (i : Nat) (c : DC) : Bool := match c with | .block j _ => Nat.beq j i | _ => false
def ilp (c : DC) : Bool := match c with | .loop _ => true | _ => false
def isc (c : DC) : Bool := match c with | .scope _ => true | _ => false
def ijm (i : Nat) (c : DC) : Bool := match c with | .jump j _ _ => Nat.beq j i | _ => false
def ifn (p : Pa) (c : DC) : Bool := match c with | .fin _ q _ => sQ q p | _ => false
section
variable {R : Type} [Agr R] {E : aQ} {K : gS R} {c : DC} {S Sa Sb : Rg -> H -> Option R}
theorem Is.rf (e : ∀ σ h, iN E c σ h K = S σ h := by intro σ h; kernel_rfl) : Is E c K S := e
theorem Is.aq (h : Is E c K Sa) (e : ∀ σ m, Sa σ m = S σ m := by intro σ h; kernel_rfl) : Is E c K S := h.as e
theorem Is.sq (hb : Is E (cr c) K Sb) (ha : Is E (cl c) (bU Sb K) Sa) (h : isq c = true := by kernel_rfl) : Is E c K Sa := by
 cases c <;> first | exact Is.seq hb ha | exact absurd h (by simp [isq])
theorem Is.cd (ha : Is E (cl c) K Sa) (hb : Is E (cr c) K Sb) (h : icd c = true := by kernel_rfl) : Is E c K λ σ h => bK (e2 σ (cc c)) (Sa σ h) (Sb σ h) := by
 cases c <;> first | exact Is.cond ha hb | exact absurd h (by simp [icd])
theorem Is.bk {i : Nat} (ha : Is E (cl c) (bF i K) Sa) (h : ibk i c = true := by kernel_rfl) : Is E c K Sa := by
 cases c with
 | block j a =>
   have : j = i := Nat.eq_of_beq_eq_true h; subst this; exact Is.block ha
 | _ => exact absurd h (by simp [ibk])
theorem Is.sc (ha : Is E (cl c) (yZ K) Sa) (h : isc c = true := by kernel_rfl) : Is E c K Sa := by
 cases c <;> first | exact Is.scope ha | exact absurd h (by simp [isc])
theorem Is.lp (S : Nat -> Rg -> H -> Option R) (hs : ∀ n, Is E (cl c) (bU (S n) K) (S (n + 1))) (h0 : S 0 = λ _ _ => none := by kernel_rfl) (h : ilp c = true := by kernel_rfl) : Is E c K (S aK) := by
 cases c <;> first | exact Is.loop S h0 hs | exact absurd h (by simp [ilp])
theorem Is.jm {g : Nat} (S : Nat -> Rg -> H -> Option R) (hs : ∀ n, Is E (cr c) (yA g (S n) K) (S (n + 1))) (ha : Is E (cl c) (yA g (S aK) K) Sa) (h0 : S 0 = λ _ _ => none := by kernel_rfl) (h : ijm g c = true := by kernel_rfl) : Is E c K Sa := by
 cases c with
 | jump j a r =>
   have : j = g := Nat.eq_of_beq_eq_true h; subst this; exact Is.jump S h0 hs ha
 | _ => exact absurd h (by simp [ijm])
end
attribute [irreducible] cl cr isq icd ibk ilp isc ijm ifn
abbrev iB0 (E : aQ) (d : DF) (J : H -> aL) : Prop := iA0 E d.body d.res J
abbrev lZ (E : aQ) (d : DF) (J : DV -> H -> aL) : Prop := iA1 E d.body d.res J
abbrev jY (E : aQ) (d : DF) (J : DV -> DV -> H -> aL) : Prop := iA2 E d.body d.res J
abbrev iB3 (E : aQ) (d : DF) (J : DV -> DV -> DV -> H -> aL) : Prop := iA3 E d.body d.res J
abbrev iB4 (E : aQ) (d : DF) (J : DV -> DV -> DV -> DV -> H -> aL) : Prop := iA4 E d.body d.res J
abbrev iB5 (E : aQ) (d : DF) (J : DV -> DV -> DV -> DV -> DV -> H -> aL) : Prop := iA5 E d.body d.res J
section
variable {d : DF}
theorem eB0 {J : aQ -> H -> aL} (h : ∀ E, iB0 E d (J E)) (hn : d.np = 0 := by kernel_rfl) : SQ d λ E => fA0 (J E) := λ E => eA0 (h E) hn
theorem mD {J : aQ -> DV -> H -> aL} (h : ∀ E, lZ E d (J E)) (hn : d.np = 1 := by kernel_rfl) : SQ d λ E => lY (J E) := λ E => eA1 (h E) hn
theorem kG {J : aQ -> DV -> DV -> H -> aL} (h : ∀ E, jY E d (J E)) (hn : d.np = 2 := by kernel_rfl) : SQ d λ E => jU (J E) := λ E => eA2 (h E) hn
theorem eB3 {J : aQ -> DV -> DV -> DV -> H -> aL} (h : ∀ E, iB3 E d (J E)) (hn : d.np = 3 := by kernel_rfl) : SQ d λ E => fA3 (J E) := λ E => eA3 (h E) hn
theorem eB4 {J : aQ -> DV -> DV -> DV -> DV -> H -> aL} (h : ∀ E, iB4 E d (J E)) (hn : d.np = 4 := by kernel_rfl) : SQ d λ E => fA4 (J E) := λ E => eA4 (h E) hn
theorem eB5 {J : aQ -> DV -> DV -> DV -> DV -> DV -> H -> aL} (h : ∀ E, iB5 E d (J E)) (hn : d.np = 5 := by kernel_rfl) : SQ d λ E => fA5 (J E) := λ E => eA5 (h E) hn
end
end Go.DI
end
