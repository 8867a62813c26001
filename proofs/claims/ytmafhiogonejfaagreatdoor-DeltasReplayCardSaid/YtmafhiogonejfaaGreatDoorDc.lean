/- D once more, its registers a function; plain functions that are D's; functions told by what they compute; deferred closures that recover. No condition beyond the theorems' own. -/
import Derived.Recover
import Derived.SliceStrings
import Derived.SizedLaws
import Derived.WideShapes
import Derived.Lib.Join
import Derived.Test.YtmafhiogonejfaaGreatDoorDb
set_option linter.unusedVariables false
set_option linter.unusedSimpArgs false
noncomputable section
namespace Go.DI
open Go.RowKit
theorem gR.mono {P : Program} {f : FuncId} {F G : cF} (hF : gR P f F) (h : ∀ args h r, G args h = some r -> F args h = some r) : gR P f G :=
 λ N0 w0 m hh w args args' v h' hr ht hw => hF N0 w0 m hh w args args' v h' (h _ _ _ hr) ht hw
structure aH (h h' : H) : Prop where
 size : h.size <= h'.size
 get : ∀ b, b < h.size -> h'.get b = h.get b
theorem aH.refl (h : H) : aH h h := ⟨Nat.le_refl _, λ _ _ => rfl⟩
theorem aH.trans {a b c : H} (x : aH a b) (y : aH b c) : aH a c :=
 ⟨Nat.le_trans x.size y.size, λ i hi => (y.get i (Nat.lt_of_lt_of_le hi x.size)).trans (x.get i hi)⟩
theorem aH.push (h : H) (o : jH) : aH h (h.push o) := ⟨by simp, λ b hb => by rw [H.get_push, if_neg (by omega)]⟩
def pE (v : DV) : Prop := ∀ m m' : Mp, tr m v = tr m' v
theorem dB.forget {N0 : Nat} {w0 : World} {m m' : Mp} {h h' : H} {w w' : World} (hw : dB N0 w0 m h w) (hw' : dB N0 w0 m' h' w') (he : lW m h m' h') (hg : aH h h') : dB N0 w0 m h w' := by
 have hgb : ∀ b i, m b = some i -> h'.get b = h.get b := λ b i e => hg.get b (hw.lt b i e).1
 refine ⟨λ b i e => ⟨(hw.lt b i e).1, (hw'.lt b i (he.le b i e)).2⟩, λ b i e => ?_, hw.inj, hw'.below, hw'.base, hw.wf⟩
 obtain ⟨o, g, r, n⟩ := hw.has b i e; obtain ⟨o', g', r', n'⟩ := hw'.has b i (he.le b i e); rw [hgb b i e, g] at g'; cases g'; refine ⟨o, g, ?_, n⟩; cases o with
 | blk B =>
   obtain ⟨⟨c, el, fr, h1, h2, h3⟩, _, _⟩ := r; obtain ⟨⟨c', el', fr', h1', h2', h3'⟩, hf', hp'⟩ := r'; refine ⟨⟨c', el', fr', h1', h2', λ j hj => ?_⟩, hf', hp'⟩
   rcases h3 j hj with ⟨v, v', a, b', d⟩ | hx
   · rcases h3' j hj with ⟨u, u', a', b'', d'⟩ | ⟨_, hx⟩
     · rw [a] at a'; cases a'; rw [fO he.le _ _ b'] at b''; cases b''; exact .inl ⟨v, v', a, b', d'⟩
     · rw [a] at hx; cases hx
   · exact .inr hx
 | dead => trivial
 | map ds clock =>
   obtain ⟨es, h1, h2⟩ := r; obtain ⟨es', h1', h2'⟩ := r'; refine ⟨es', h1', ?_⟩; have same : ∀ {ds : List zK} {es es' : List MapEntry}, gX m ds es -> gX m' ds es' -> gX m ds es' := by
     intro ds
     induction ds with
     | nil => intro es es' a b; cases es' <;> first | trivial | exact b.elim
     | cons d ds ih =>
       intro es es' a b; cases es with
       | nil => exact a.elim
       | cons e es =>
         cases es' with
         | nil => exact b.elim
         | cons e' es' =>
           refine ⟨⟨?_, ?_, b.1.2.2⟩, ih a.2 b.2⟩
           · have := fO he.le _ _ a.1.1; rw [b.1.1] at this; rw [a.1.1, this]
           · have := fO he.le _ _ a.1.2.1; rw [b.1.2.1] at this; rw [a.1.2.1, this]
   exact same h2 h2'
theorem gR.forget {P : Program} {f : FuncId} {F G : cF} (hF : gR P f F)
   (hG : ∀ args h v h', G args h = some (v, h') -> h' = h /\ pE v /\ ∃ h1, F args h = some (v, h1) /\ aH h h1) : gR P f G := by
 intro N0 w0 m h w args args' v h' hr ht hw; obtain ⟨rfl, hv, h1, h2, h3⟩ := hG _ _ _ _ hr; refine (hF N0 w0 m h' w args args' v h1 h2 ht hw).mono λ e w' hh => ?_
 obtain ⟨m', v', e1, e2, e3, e4⟩ := hh; exact ⟨m, v', e1, by rw [hv m m']; exact e2, hw.forget e3 e4 h3, lW.refl _ _⟩
theorem pE.int (k : IntKind) (n : Int) : pE (.int k n) := λ _ _ => rfl
theorem pE.str (s : Ln) : pE (.str s) := λ _ _ => rfl
theorem pE.tup2 {a b : DV} (ha : pE a) (hb : pE b) : pE (.tup [a, b]) := λ m m' => by simp only [tr, trs, ha m m', hb m m']
end Go.DI
namespace Go.DI
open Go.RowKit
section
variable {R : Type}
def vK (o : Option DV) (k : DV -> Option R) : Option R := Option.rec (motive := λ _ => Option R) none k o
def wK (o : Option (DV × H)) (k : DV -> H -> Option R) : Option R := Option.rec (motive := λ _ => Option R) none (λ x => Prod.rec (motive := λ _ => Option R) k x) o
def bK (x : DV) (a b : Option R) : Option R := match x with
 | .bool c => Bool.rec b a c
 | _ => none
def gK (x : DV) (t : Bool) (a b : Option R) : Option R := match x with
 | .bool c => Bool.rec (Bool.rec a b t) (Bool.rec b a t) c
 | _ => b
def vL (o : Option DV) (v : DV) : Bool := Option.rec (motive := λ _ => Bool) false (λ u => rB u v) o
theorem bFa (o : Option DV) (k : DV -> Option R) : vK o k = o.bind k := by cases o <;> rfl
theorem bEZ (o : Option (DV × H)) (k : DV -> H -> Option R) : wK o k = o.bind λ x => k x.1 x.2 := by cases o <;> rfl
end
theorem qS (n a : Nat) (ha : a < 2 ^ n) : (BitVec.ofInt n (Int.ofNat a)).toNat = a := by
 rw [BitVec.toNat_ofInt]; have h2 : (Int.ofNat a) % ((2 ^ n : Nat) : Int) = (a : Int) := by
   rw [Int.ofNat_eq_natCast, <- Int.natCast_emod, Nat.mod_eq_of_lt ha]
 have h3 : ∀ z : Int, z = ((2 ^ n : Nat) : Int) -> ((Int.ofNat a) % z).toNat = a := by
   intro z hz; rw [hz, h2]; rfl
 exact h3 _ (by simp)
def fb (f : Nat -> Nat -> Nat) (s : IntKind -> Int -> Int -> Option DV) (k : IntKind) (x y : Int) : Option DV :=
 Int.rec (motive := λ _ => Option DV) (λ a => Int.rec (motive := λ _ => Option DV) (λ b => bif Nat.blt a (2 ^ k.bits) && Nat.blt b (2 ^ k.bits) then jG k (.ofNat (f a b)) else s k x y) (λ _ => s k x y) y) (λ _ => s k x y) x
theorem aYI {f : Nat -> Nat -> Nat} {s : IntKind -> Int -> Int -> Option DV} {k : IntKind} (h : ∀ a b, a < 2 ^ k.bits -> b < 2 ^ k.bits -> s k (.ofNat a) (.ofNat b) = jG k (.ofNat (f a b))) (x y : Int) : fb f s k x y = s k x y := by
 cases x with
 | negSucc a => rfl
 | ofNat a =>
   cases y with
   | negSucc b => rfl
   | ofNat b =>
     show (bif Nat.blt a (2 ^ k.bits) && Nat.blt b (2 ^ k.bits) then jG k (.ofNat (f a b)) else s k (.ofNat a) (.ofNat b)) = _; cases hb : (Nat.blt a (2 ^ k.bits) && Nat.blt b (2 ^ k.bits)) with
     | false => rfl
     | true =>
       rw [Bool.and_eq_true, Nat.blt_eq, Nat.blt_eq] at hb; exact (h a b hb.1 hb.2).symm
def aTy : IntKind -> Int -> Int -> Option DV := fb Nat.land aTW
def bCr : IntKind -> Int -> Int -> Option DV := fb Nat.lor bDi
def aNR : IntKind -> Int -> Int -> Option DV := fb Nat.xor aTM
theorem aYK (k : IntKind) (x y : Int) : aTy k x y = aTW k x y := aYI (λ a b ha hb => by
 unfold aTW pG; rw [BitVec.toNat_and, qS _ _ ha, qS _ _ hb]; rfl) x y
theorem bCq (k : IntKind) (x y : Int) : bCr k x y = bDi k x y := aYI (λ a b ha hb => by
 unfold bDi pG; rw [BitVec.toNat_or, qS _ _ ha, qS _ _ hb]; rfl) x y
theorem aYJ (k : IntKind) (x y : Int) : aNR k x y = aTM k x y := aYI (λ a b ha hb => by
 unfold aTM pG; rw [BitVec.toNat_xor, qS _ _ ha, qS _ _ hb]; rfl) x y
def wY (f : IntKind -> Int -> Int -> Option DV) (g : Ln -> Ln -> Option DV) (a b : DV) : Option DV := match a, b with
 | .int k x, .int k' y => bif kEq k k' then f k x y else none
 | .str s, .str t => g s t
 | _, _ => none
def zF (s t : Ln) : Option DV := none
def bFk (s t : Ln) : Option DV := bif Nat.blt (s.length + t.length) fQ then zI (s ++ t) else none
def bFj (s t : Ln) : Option DV := fF (sEq s t)
def bFf (s t : Ln) : Option DV := fF (!sEq s t)
def aSY (s t : Ln) : Option DV := fF (tY s t)
def bFg (s t : Ln) : Option DV := fF (tY s t || sEq s t)
def bFh (s t : Ln) : Option DV := fF (!(tY s t || sEq s t))
def bFi (s t : Ln) : Option DV := fF (!tY s t)
def bDh (op : BinOp) (a b : DV) : Option DV := match a, b with
 | .int k x, .int _ y => qQ op k x y
 | _, _ => none
def bN : DV -> DV -> Option DV := wY aTX bFk
def fM : DV -> DV -> Option DV := wY aTN zF
def zM : DV -> DV -> Option DV := wY aTQ zF
def aSJ : DV -> DV -> Option DV := wY aTO zF
def bPQ : DV -> DV -> Option DV := wY aZw zF
def aAQ : DV -> DV -> Option DV := wY aTy zF
def aPE : DV -> DV -> Option DV := wY bCr zF
def aDr : DV -> DV -> Option DV := wY aNR zF
def aEC : DV -> DV -> Option DV := bDh .shl
def vO : DV -> DV -> Option DV := bDh .shr
def aXs : DV -> DV -> Option DV := wY aFW zF
def cG : DV -> DV -> Option DV := wY aTV bFj
def dC : DV -> DV -> Option DV := wY aTP bFf
def dA : DV -> DV -> Option DV := wY aTR aSY
def aEF : DV -> DV -> Option DV := wY aTS bFg
def eI : DV -> DV -> Option DV := wY aTT bFh
def oG : DV -> DV -> Option DV := wY aTU bFi
def aSO (op : BinOp) : DV -> DV -> Option DV :=
 BinOp.rec (motive := λ _ => DV -> DV -> Option DV) bN fM zM aSJ bPQ aAQ aPE aDr aEC vO aXs cG dC dA aEF eI oG op
theorem jO {op : BinOp} (hs : pL op = false) {f : IntKind -> Int -> Int -> Option DV} {g : Ln -> Ln -> Option DV} (hf : ∀ k x y, f k x y = yQ op k x y) (hg : ∀ s t, g s t = yP op s t) (a b : DV) : wY f g a b = aFN op a b := by
 cases a <;> cases b <;> first | rfl | (simp only [wY, aFN, aYs, hs, cond_false, hf, hg])
theorem aTK {op : BinOp} (hs : pL op = true) (hg : ∀ s t, yP op s t = none) (a b : DV) : bDh op a b = aFN op a b := by
 cases a <;> cases b <;> first | rfl | (simp only [bDh, aFN, hs, cond_true, hg])
theorem aXr (op : BinOp) (a b : DV) : aSO op a b = aFN op a b := by
 cases op
 · exact jO (op := .add) (f := aTX) (g := bFk) rfl (λ k x y => by show jG k (aYw x y) = jG k (x + y); rw [aJU]) (λ _ _ => rfl) a b
 · exact jO (op := .sub) (f := aTN) (g := zF) rfl (λ _ _ _ => rfl) (λ _ _ => rfl) a b
 · exact jO (op := .mul) (f := aTQ) (g := zF) rfl (λ _ _ _ => rfl) (λ _ _ => rfl) a b
 · exact jO (op := .quo) (f := aTO) (g := zF) rfl (λ _ _ _ => rfl) (λ _ _ => rfl) a b
 · exact jO (op := .rem) (f := aZw) (g := zF) rfl (λ _ _ _ => rfl) (λ _ _ => rfl) a b
 · exact jO (op := .and) (f := aTy) (g := zF) rfl (λ k x y => aYK k x y) (λ _ _ => rfl) a b
 · exact jO (op := .or) (f := bCr) (g := zF) rfl (λ k x y => bCq k x y) (λ _ _ => rfl) a b
 · exact jO (op := .xor) (f := aNR) (g := zF) rfl (λ k x y => aYJ k x y) (λ _ _ => rfl) a b
 · exact aTK (op := .shl) rfl (λ _ _ => rfl) a b
 · exact aTK (op := .shr) rfl (λ _ _ => rfl) a b
 · exact jO (op := .andNot) (f := aFW) (g := zF) rfl (λ _ _ _ => rfl) (λ _ _ => rfl) a b
 · exact jO (op := .eql) (f := aTV) (g := bFj) rfl (λ _ _ _ => rfl) (λ _ _ => rfl) a b
 · exact jO (op := .neq) (f := aTP) (g := bFf) rfl (λ _ _ _ => rfl) (λ _ _ => rfl) a b
 · exact jO (op := .lss) (f := aTR) (g := aSY) rfl (λ _ _ _ => rfl) (λ _ _ => rfl) a b
 · exact jO (op := .leq) (f := aTS) (g := bFg) rfl (λ _ _ _ => rfl) (λ _ _ => rfl) a b
 · exact jO (op := .gtr) (f := aTT) (g := bFh) rfl (λ _ _ _ => rfl) (λ _ _ => rfl) a b
 · exact jO (op := .geq) (f := aTU) (g := bFi) rfl (λ _ _ _ => rfl) (λ _ _ => rfl) a b
def aJF (rd : Rd) (b j : Nat) : Option DV := match rd b with
 | some (.blk B) => bif Nat.blt j B.n then B.t.at_ j else none
 | _ => none
theorem cL (rd : Rd) (b j : Nat) : aJF rd b j = rdCell rd b j := by
 unfold aJF rdCell; cases rd b with
 | none => rfl
 | some o =>
   cases o with
   | blk B =>
     show (bif Nat.blt j B.n then B.t.at_ j else none) = if j < B.n then B.t.at_ j else none
     by_cases h : j < B.n
     · rw [if_pos h, show Nat.blt j B.n = true from by rw [Nat.blt_eq]; exact h]; rfl
     · rw [if_neg h, show Nat.blt j B.n = false from by rw [Bool.eq_false_iff, ne_eq, Nat.blt_eq]; exact h]; rfl
   | dead => rfl
   | map a b => rfl
def aYx (t : Tr DV) (n : Nat) : Nat -> Option (List DV) :=
 Nat.rec (motive := λ _ => Nat -> Option (List DV)) (λ _ => some []) (λ _ ih j => Option.rec (motive := λ _ => Option (List DV)) none (λ v => eH (Nat.succ j) λ j => Option.rec (motive := λ _ => Option (List DV)) none (λ vs => some (v :: vs)) (ih j)) (t.at_ j)) n
theorem aNK {rd : Rd} {b : Nat} {B : Blk} (h : rd b = some (.blk B)) : ∀ (n j : Nat), j + n <= B.n -> aYx B.t n j = rdCells rd b j n
 | 0, j, _ => rfl
 | n + 1, j, hl => by
   show Option.rec (motive := λ _ => Option (List DV)) none (λ v => eH (Nat.succ j) λ j => Option.rec (motive := λ _ => Option (List DV)) none (λ vs => some (v :: vs)) (aYx B.t n j)) (B.t.at_ j) = _
   simp only [bD, rdCells]; rw [aNK h n (j + 1) (by omega)]
   have e : rdCell rd b j = B.t.at_ j := by simp only [rdCell, h]; rw [if_pos (by omega)]
   rw [e]; cases B.t.at_ j with
   | none => rfl
   | some v => cases rdCells rd b (j + 1) n <;> rfl
theorem uI {rd : Rd} {b : Nat} : ∀ (n j : Nat), (∀ B, rd b = some (.blk B) -> B.n < j + n) -> 0 < n -> rdCells rd b j n = none
 | 0, j, _, h => absurd h (by omega)
 | n + 1, j, hb, _ => by
   simp only [rdCells]; cases hc : rdCell rd b j with
   | none => rfl
   | some v =>
     have : 0 < n := by
       unfold rdCell at hc; split at hc
       · rename_i B hB; split at hc
         · have := hb B hB; omega
         · cases hc
       · cases hc
     rw [uI n (j + 1) (λ B hB => by have := hb B hB; omega) this]
def oN (rd : Rd) (b j n : Nat) : Option (List DV) := bif Nat.beq n 0 then some [] else match rd b with
 | some (.blk B) => bif Nat.ble (j + n) B.n then aYx B.t n j else none
 | _ => none
theorem cM (rd : Rd) (b j n : Nat) : oN rd b j n = rdCells rd b j n := by
 unfold oN; by_cases h0 : n = 0
 · subst h0; rfl
 · rw [show Nat.beq n 0 = false from by cases h : Nat.beq n 0; rfl; exact absurd (Nat.eq_of_beq_eq_true h) h0, cond_false]
   split
   · rename_i B hB; by_cases hl : j + n <= B.n
     · rw [Nat.ble_eq_true_of_le hl, cond_true]; exact aNK hB n j hl
     · rw [show Nat.ble (j + n) B.n = false from by cases h : Nat.ble (j + n) B.n; rfl; exact absurd (Nat.le_of_ble_eq_true h) hl, cond_false]
       exact (uI n j (λ B' hB' => by rw [hB] at hB'; cases hB'; omega) (by omega)).symm
   · rename_i hn; exact (uI n j (λ B' hB' => absurd hB' (hn B')) (by omega)).symm
def aSW {β : Type} (vs : List DV) : Nat -> Tr DV -> (Tr DV -> β) -> β :=
 List.rec (motive := λ _ => Nat -> Tr DV -> (Tr DV -> β) -> β) (λ _ t k => k t) (λ v _ ih o t k => Tr.setK v (Pa.of o) t λ t => eH (Nat.succ o) λ o => ih o t k) vs
def aMK : List DV -> Nat -> Tr DV -> Tr DV
 | [], _, t => t
 | v :: vs, o, t => aMK vs (o + 1) (Tr.set v (Pa.of o) t)
theorem aEU {β : Type} : ∀ (vs : List DV) (o : Nat) (t : Tr DV) (k : Tr DV -> β), aSW vs o t k = k (aMK vs o t)
 | [], _, _, _ => rfl
 | v :: vs, o, t, k => by
   show (Tr.setK v (Pa.of o) t λ t => eH (Nat.succ o) λ o => aSW vs o t k) = _
   rw [Tr.setK_eq, bD, aEU vs]; rfl
theorem Tr.set_set {α : Type} (x y : α) : ∀ (p : Pa) (t : Tr α), Tr.set y p (Tr.set x p t) = Tr.set y p t
 | .h, .e => rfl
 | .h, .n _ _ _ => rfl
 | .l p, .e => by show Tr.n (Tr.set y p (Tr.set x p .e)) none .e = Tr.n (Tr.set y p .e) none .e; rw [Tr.set_set x y p]
 | .l p, .n l v r => by show Tr.n (Tr.set y p (Tr.set x p l)) v r = Tr.n (Tr.set y p l) v r; rw [Tr.set_set x y p]
 | .r p, .e => by show Tr.n .e none (Tr.set y p (Tr.set x p .e)) = Tr.n .e none (Tr.set y p .e); rw [Tr.set_set x y p]
 | .r p, .n l v r => by show Tr.n l v (Tr.set y p (Tr.set x p r)) = Tr.n l v (Tr.set y p r); rw [Tr.set_set x y p]
theorem H.put_put (h : H) (b : Nat) (x y : jH) : (h.put b x).put b y = h.put b y := by
 unfold H.put Tr.put; simp only [Tr.set_set]
def aBC (vs : List DV) (h : H) (b o : Nat) : Option H := match vs with
 | [] => some h
 | v :: vs => match h.get b with
   | some (.blk B) => bif (!B.ro) && Nat.ble (o + (v :: vs).length) B.n && (v :: vs).all DV.one then
       aSW (v :: vs) o B.t λ t => h.putK b (.blk { B with t := t }) some
     else none
   | _ => none
theorem aCu : ∀ (vs : List DV) (h : H) (b o : Nat) (B : Blk), h.get b = some (.blk B) -> vs ≠ [] ->
   iH vs h b o = if (!B.ro) = true /\ o + vs.length <= B.n /\ vs.all DV.one = true then some (h.put b (.blk { B with t := aMK vs o B.t })) else none
 | [], _, _, _, _, _, h => absurd rfl h
 | v :: vs, h, b, o, B, hB, _ => by
   simp only [iH, hB]; by_cases hc : ((!B.ro) && Nat.blt o B.n && v.one) = true
   · rw [hc, cond_true, Tr.setK_eq, H.putK_eq, bD]; rw [Bool.and_eq_true, Bool.and_eq_true, Nat.blt_eq] at hc; obtain ⟨⟨h1, h2⟩, h3⟩ := hc; cases vs with
     | nil =>
       rw [if_pos ⟨h1, by simp only [List.length_cons, List.length_nil]; omega, by simp [h3]⟩]; rfl
     | cons u us =>
       rw [aCu (u :: us) _ b (o + 1) { B with t := Tr.set v (Pa.of o) B.t } (by rw [H.get_put, if_pos rfl]) (by simp)]
       simp only [H.put_put]; by_cases hd : (!B.ro) = true /\ o + 1 + (u :: us).length <= B.n /\ (u :: us).all DV.one = true
       · rw [if_pos hd, if_pos ⟨h1, by have := hd.2.1; simp only [List.length_cons] at this ⊢; omega, by rw [List.all_cons, h3, hd.2.2]; rfl⟩]; rfl
       · rw [if_neg hd, if_neg]; intro hh; apply hd; refine ⟨h1, by have := hh.2.1; simp only [List.length_cons] at this ⊢; omega, ?_⟩
         have := hh.2.2; rw [List.all_cons, Bool.and_eq_true] at this; exact this.2
   · have hc' : ((!B.ro) && Nat.blt o B.n && v.one) = false := by simpa using hc
     rw [hc', cond_false, if_neg]; intro hh; apply hc; rw [Bool.and_eq_true, Bool.and_eq_true, Nat.blt_eq]; have h3 := hh.2.2; rw [List.all_cons, Bool.and_eq_true] at h3; exact ⟨⟨hh.1, by have := hh.2.1; simp only [List.length_cons] at this; omega⟩, h3.1⟩
theorem aAn (vs : List DV) (h : H) (b o : Nat) : aBC vs h b o = iH vs h b o := by
 unfold aBC; split
 · rfl
 · rename_i v vs; split
   · rename_i B hB; rw [aCu (v :: vs) h b o B hB (by simp)]
     by_cases hd : (!B.ro) = true /\ o + (v :: vs).length <= B.n /\ (v :: vs).all DV.one = true
     · rw [if_pos hd, hd.1, Nat.ble_eq_true_of_le hd.2.1, hd.2.2]; simp only [Bool.and_self, cond_true, aEU, H.putK_eq]
     · rw [if_neg hd]; have : ((!B.ro) && Nat.ble (o + (v :: vs).length) B.n && (v :: vs).all DV.one) = false := by
         rw [Bool.eq_false_iff]; intro hh; rw [Bool.and_eq_true, Bool.and_eq_true] at hh; exact hd ⟨hh.1.1, Nat.le_of_ble_eq_true hh.1.2, hh.2⟩
       rw [this, cond_false]
   · rename_i hn; simp only [iH]
def bY (n : Nat) (a x : DV) (h : H) : Option (DV × H) :=
 match a with
 | .ptr b o => bif Nat.beq x.cells.length n then (aBC x.cells h b o).map λ h => (.tup [], h) else none
 | _ => none
theorem aBD (n : Nat) (a x : DV) (h : H) : bY n a x h = dSt n a x h := by unfold bY dSt; simp only [aAn]; cases a <;> rfl
def aCc (es : Nat) (rd : Rd) (x : DV) : Option (List DV) :=
 match x with
 | .nils => some []
 | .slE _ _ _ => some []
 | .slc b o n _ _ => oN rd b o (n * es)
 | .str s => bif Nat.beq es 1 then some (s.map λ b => .int .u8 (.ofNat b)) else none
 | _ => none
theorem aJq (es : Nat) (rd : Rd) (x : DV) : aCc es rd x = dR es rd x := by unfold aCc dR; simp only [cM]; cases x <;> rfl
def aQU (o len es : Nat) (B : Blk) (new : List DV) (rd : Rd) (b : Nat) : Option (Tr DV) := bif Nat.beq o 0 then aSW new (len * es) B.t some else (oN rd b o (len * es)).map λ old => Tr.ofL (old ++ new)
def cE (es bytes : Nat) (s x : DV) (h : H) : Option (DV × H) :=
 (srcLen x).bind λ n => (aCc es h.get x).bind λ new =>
 match s with
 | .nils => bif Nat.beq n 0 then some (.nils, h) else
     bif Nat.blt (n * bytes) aR && Nat.blt n aR then h.pushK (.blk ⟨n * es, es, false, true, Tr.ofL new⟩) λ h' => some (.slc h.size 0 n n true, h') else none
 | .slE b o o2 => bif Nat.beq n 0 then some (.slE b o o2, h) else none
 | .slc b o len cap op => eH (len + n) λ need =>
     bif Nat.ble need cap then (aBC new h b (o + len * es)).map λ h => (.slc b o need cap op, h)
     else bif Nat.blt (need * bytes) aR && Nat.blt need aR then
       match h.get b with
       | some (.blk B) =>
         bif op then
           bif Nat.beq (o + cap * es) B.n && Nat.beq B.es es && (!B.ro) && Nat.ble len cap && new.all DV.one then
             (aQU o len es B new h.get b).bind λ t => eH (need * es) λ n' => h.pushK (.blk ⟨n', es, false, false, t⟩) λ h' => h'.putK b .dead λ h'' => some (.slc h.size 0 need need true, h'')
           else none
         else
           (oN h.get b o (len * es)).bind λ old => eH (need * es) λ n' => h.pushK (.blk ⟨n', es, false, true, Tr.ofL (old ++ new)⟩) λ h' => some (.slc h.size 0 need need true, h')
       | _ => none
     else none
 | _ => none
theorem aCd : ∀ (vs : List DV) (o : Nat) (t : Tr DV), aMK vs o t = Tr.ofF vs o t
 | [], _, _ => rfl
 | v :: vs, o, t => aCd vs (o + 1) _
theorem aWx (o len es : Nat) (B : Blk) (new : List DV) (rd : Rd) (b : Nat) : aQU o len es B new rd b = aBm o len es B new rd b := by
 unfold aQU aBm; rw [aEU, aCd, cM]
theorem eN (es bytes : Nat) (s x : DV) (h : H) : cE es bytes s x h = fR es bytes s x h := by
 unfold cE fR; simp only [aJq, aAn, cM, aWx]; cases srcLen x with
 | none => rfl
 | some n =>
   simp only [Option.bind_some]; cases dR es h.get x with
   | none => rfl
   | some new =>
     simp only [Option.bind_some]; cases s <;> rfl
def aER (es k : Nat) (rd : Rd) (x : DV) : Option (List DV) :=
 match x with
 | .nils => some []
 | .slE _ _ _ => some []
 | .slc b o _ _ _ => oN rd b o (k * es)
 | .str s => bif Nat.beq es 1 then some ((s.take k).map λ b => .int .u8 (.ofNat b)) else none
 | _ => none
theorem aMH (es k : Nat) (rd : Rd) (x : DV) : aER es k rd x = rI es k rd x := by unfold aER rI; simp only [cM]; cases x <;> rfl
def mE (es : Nat) (d x : DV) (h : H) : Option (DV × H) :=
 (srcLen x).bind λ n => match d with
 | .nils => some (.int .i64 0, h)
 | .slE _ _ _ => some (.int .i64 0, h)
 | .slc b o len _ _ => eH (bif Nat.ble n len then n else len) λ k => (aER es k h.get x).bind λ new => (aBC new h b o).map λ h => (.int .i64 (.ofNat k), h)
 | _ => none
theorem aCv (es : Nat) (d x : DV) (h : H) : mE es d x h = aFM es d x h := by
 unfold mE aFM; simp only [aMH, aAn]; cases srcLen x with
 | none => rfl
 | some n => cases d <;> rfl
def aJb (x y : DV) : Option DV := match x, y with
 | .str s, .int .u8 (.ofNat c) => bif Nat.blt c 256 then aNS (rA c s) λ n => some (.int .i64 n) else none
 | _, _ => none
def aPG (x y : DV) : Option DV := match x, y with
 | .str s, .int .u8 (.ofNat c) => bif Nat.blt c 256 then eH (aEc c s) λ n => some (.int .i64 (.ofNat n)) else none
 | _, _ => none
def aSK (k : Prm) : DV -> DV -> Option DV := Prm.rec (motive := λ _ => DV -> DV -> Option DV) aJb aPG k
def aSM (kt : LfK) (z : DV) (ok : Bool) (rd : Rd) (x k : DV) : Option DV := (match x with
   | .nilm => some none
   | .mp b => match rd b with
     | some (.map es _) => aIE kt k es
     | _ => none
   | _ => none).map λ r => match r with
     | some v => bif ok then .tup [v, .bool true] else v
     | none => bif ok then .tup [z, .bool false] else z
def zL (es : Nat) (x : DV) (lo : Option DV) (hi mx : DV) : Option DV := match mx with
   | .int _ (.ofNat k) => (match x with
     | .nils => bif Nat.beq k 0 then dL 0 0 lo (some hi) λ l h => some .nils else none
     | .slc b o len cap op => bif Nat.ble k cap then dL len k lo (some hi) λ l h =>
         bif Nat.blt l k then (eH (o + l * es) λ o => eH (h - l) λ n => eH (k - l) λ c => some (.slc b o n c false)) else some (.slc b o 0 0 false) else none
     | _ => none)
   | _ => none
def bE (c a b : DV) : Option DV := match c with
   | .bool t => some (Bool.rec b a t)
   | _ => none
def eM (t : EqT) (neg : Bool) (rd : Rd) (x y : DV) : Option DV := (dEq rd t x y).bind λ b => fF (bif neg then !b else b)
def aEG (neg : Bool) (s : EqS) (rd : Rd) (x y : DV) : Option DV := match x, y with
   | .agg xs, .agg ys => (sH rd s xs ys).bind λ b => fF (bif neg then !b else b)
   | _, _ => none
def oE (x : DV) : Option DV := match x with
   | .bool b => fF (!b)
   | _ => none
def aED (x : DV) : Option DV := match x with
   | .int k n => jG k (0 - n)
   | _ => none
def fH (k : IntKind) (x : DV) : Option DV := match x with
   | .int _ n => jG k n
   | _ => none
def aIZ (x : DV) : Option DV := match x with
   | .str s => some (.str s)
   | _ => none
def nG (rd : Rd) (x : DV) : Option DV := match x with
   | .nils => some (.str [])
   | .slE _ _ _ => some (.str [])
   | .slc b o len _ _ => ((oN rd b o len).bind oA).bind zI
   | _ => none
def aF (rd : Rd) (x : DV) : Option DV := match x with
   | .ptr b o => aJF rd b o
   | _ => none
def aM (n : Nat) (rd : Rd) (x : DV) : Option DV := match x with
   | .ptr b o => (oN rd b o n).map .agg
   | _ => none
def aW (x : DV) : Option DV := match x with
   | .ptr b o => some (.ptr b o)
   | _ => none
def aI (off : Nat) (x : DV) : Option DV := match x with
   | .ptr b o => eH (o + off) λ o => some (.ptr b o)
   | _ => none
def aSN (off n : Nat) (agg : Bool) (x : DV) : Option DV := match x with
   | .agg cs => bif agg then (bif Nat.ble (off + n) cs.length then some (.agg ((cs.drop off).take n)) else none) else cs[off]?
   | _ => none
def pF (len es : Nat) (x i : DV) : Option DV := match x with
   | .ptr b o => qR len i λ n => eH (o + n * es) λ o => some (.ptr b o)
   | _ => none
def cD (es : Nat) (x i : DV) : Option DV := match x with
   | .slc b o len _ _ => qR len i λ n => eH (o + n * es) λ o => some (.ptr b o)
   | _ => none
def aDs (len es : Nat) (agg : Bool) (x i : DV) : Option DV := match x with
   | .agg cs => qR len i λ n => bif agg then (bif Nat.ble (n * es + es) cs.length then some (.agg ((cs.drop (n * es)).take es)) else none) else cs[n * es]?
   | _ => none
def gY (x i : DV) : Option DV := match x with
   | .str s => qR s.length i λ n => (s[n]?).map λ b => .int .u8 (.ofNat b)
   | _ => none
def iE (x : DV) (lo hi : Option DV) : Option DV := match x with
   | .str s => dL s.length s.length lo hi λ l h => zI ((s.take h).drop l)
   | _ => none
def dU (es : Nat) (x : DV) (lo hi : Option DV) : Option DV := match x with
   | .nils => dL 0 0 lo hi λ l h => some .nils
   | .slc b o len cap op => dL len cap lo hi λ l h =>
       bif Nat.blt l cap then (eH (o + l * es) λ o => eH (h - l) λ n => eH (cap - l) λ c => some (.slc b o n c op))
       else bif op then (eH (o + l * es) λ o2 => some (.slE b o o2)) else some (.slc b o 0 0 false)
   | .slE b o o2 => dL 0 0 lo hi λ l h => some (.slE b o o2)
   | _ => none
def aSI (n es : Nat) (x : DV) (lo hi : Option DV) : Option DV := match x with
   | .ptr b o => dL n n lo hi λ l h =>
       bif Nat.blt l n then (eH (o + l * es) λ o => eH (h - l) λ m => eH (n - l) λ c => some (.slc b o m c false))
       else some (.slc b o 0 0 false)
   | _ => none
def aG (i : Nat) (x : DV) : Option DV := match x with
   | .tup vs => vs[i]?
   | _ => none
def cJ (x : DV) : Option DV := match x with
   | .str s => eH s.length λ n => some (.int .i64 (.ofNat n))
   | _ => none
def cA (x : DV) : Option DV := match x with
   | .nils => some (.int .i64 (.ofNat 0))
   | .slc _ _ n _ _ => some (.int .i64 (.ofNat n))
   | .slE _ _ _ => some (.int .i64 (.ofNat 0))
   | _ => none
abbrev aEH (x : DV) : Option DV := aTE x
abbrev aMn (rd : Rd) (x y : DV) : Option DV := aKn rd x y
def aJa (rd : Rd) (x : DV) : Option DV := match x with
   | .nilm => some (.int .i64 (.ofNat 0))
   | .mp b => match rd b with
     | some (.map es _) => eH es.length λ n => some (.int .i64 (.ofNat n))
     | _ => none
   | _ => none
def aAP (a b : DV) : Option DV := match a, b with
   | .int k x, .int k' y => some (.int k (bif iLt y x then y else x))
   | _, _ => none
def aBT (a b : DV) : Option DV := match a, b with
   | .int k x, .int k' y => some (.int k (bif iLt x y then y else x))
   | _, _ => none
def dO (zero : List DV) (parts : List (Nat × Nat × DV)) : Option DV := (gP zero parts).map .agg
def nF (t : Nat) (zero : DV) (ok : Bool) (x : DV) : Option DV := match x with
   | .nili => bif ok then some (.tup [zero, .bool false]) else none
   | .ifc u v => bif Nat.beq u t then some (bif ok then .tup [v, .bool true] else v) else bif ok then some (.tup [zero, .bool false]) else none
   | _ => none
section
variable {R : Type}
def dP (n es : Nat) (z : Zs) (h : H) (k : DV -> H -> Option R) : Option R := h.pushK (.blk ⟨n, es, false, true, z.tr⟩) λ h' => k (.ptr h.size 0) h'
def dV (x : DV) (h : H) (k : DV -> H -> Option R) : Option R := eH x.cells.length λ n => h.pushK (.blk ⟨n, n, false, true, Tr.ofL x.cells⟩) λ h' => k (.ptr h.size 0) h'
def fG (n es : Nat) (zero : List DV) (parts : List (Nat × Nat × DV)) (h : H) (k : DV -> H -> Option R) : Option R :=
 (gP (gM zero n) parts).bind λ cs => h.pushK (.blk ⟨n * es, es, false, true, Tr.ofL cs⟩) λ h' => k (.slc h.size 0 n n false) h'
def vG (es bytes : Nat) (zero : DV) (l c : DV) (h : H) (k : DV -> H -> Option R) : Option R := match l, c with
   | .int _ (.ofNat l), .int _ (.ofNat c) =>
     bif Nat.ble l c && Nat.blt (bytes * c) 140737488355328 && Nat.blt c 140737488355328 then
       h.pushK (.blk ⟨c, 1, false, true, Tr.full zero 48⟩) λ h' => k (.slc h.size 0 l c false) h'
     else none
   | _, _ => none
def aYi (h : H) (k : DV -> H -> Option R) : Option R := h.pushK (.map [] 0) λ h' => k (.mp h.size) h'
def aIj (x : DV) (h : H) (k : DV -> H -> Option R) : Option R := match x with
   | .str s => eH s.length λ n => h.pushK (.blk ⟨n, 1, false, false, Tr.ofL (s.map λ b => .int .u8 (.ofNat b))⟩) λ h' => k (.slc h.size 0 n n true) h'
   | _ => none
end
end Go.DI
namespace Go.DI
open Go.RowKit
abbrev Rg := Pa -> DV
def e2 (σ : Rg) (x : bP) : DV := bP.rec (motive := λ _ => DV) (λ p => σ p) (λ v => v) x
def fset (p : Pa) (v : DV) (σ : Rg) : Rg := λ q => Bool.rec (σ q) v (aAa q p)
def reg (ρ : Tr DV) : Rg := λ p => ev ρ (.r p)
theorem aZb (ρ : Tr DV) (x : bP) : e2 (reg ρ) x = ev ρ x := by cases x <;> rfl
theorem cZ (ρ : Tr DV) : e2 (reg ρ) = ev ρ := funext (aZb ρ)
theorem bCb (ρ : Tr DV) (p : Pa) (v : DV) : reg (Tr.set v p ρ) = fset p v (reg ρ) := by
 funext q
 unfold reg fset; rw [aAl]; by_cases h : q = p
 · subst h; rw [if_pos rfl, yA]
 · rw [if_neg h]; cases e : aAa q p with
   | true => exact absurd (kH e) h
   | false => rfl
section
variable {R : Type}
abbrev bQB (σ : Rg) (h : H) (k : DV -> H -> Option R) : Option R := none
abbrev bQf (q : Prm) (x y : bP) (σ : Rg) (h : H) (k : DV -> H -> Option R) : Option R := vK (aSK q (e2 σ x) (e2 σ y)) λ v => k v h
abbrev bQn (kt : LfK) (z : DV) (ok : Bool) (x y : bP) (σ : Rg) (h : H) (k : DV -> H -> Option R) : Option R := vK (aSM kt z ok h.get (e2 σ x) (e2 σ y)) λ v => k v h
abbrev bQb (es : Nat) (x : bP) (lo : Option bP) (hi mx : bP) (σ : Rg) (h : H) (k : DV -> H -> Option R) : Option R := vK (zL es (e2 σ x) (lo.map (e2 σ)) (e2 σ hi) (e2 σ mx)) λ v => k v h
abbrev bGB (c a b : bP) (σ : Rg) (h : H) (k : DV -> H -> Option R) : Option R := vK (bE (e2 σ c) (e2 σ a) (e2 σ b)) λ v => k v h
abbrev bQA (op : BinOp) (x y : bP) (σ : Rg) (h : H) (k : DV -> H -> Option R) : Option R := vK (aSO op (e2 σ x) (e2 σ y)) λ v => k v h
abbrev bQv (t : EqT) (neg : Bool) (x y : bP) (σ : Rg) (h : H) (k : DV -> H -> Option R) : Option R := vK (eM t neg h.get (e2 σ x) (e2 σ y)) λ v => k v h
abbrev bQw (neg : Bool) (s : EqS) (x y : bP) (σ : Rg) (h : H) (k : DV -> H -> Option R) : Option R := vK (aEG neg s h.get (e2 σ x) (e2 σ y)) λ v => k v h
abbrev bQh (x : bP) (σ : Rg) (h : H) (k : DV -> H -> Option R) : Option R := vK (oE (e2 σ x)) λ v => k v h
abbrev bQi (x : bP) (σ : Rg) (h : H) (k : DV -> H -> Option R) : Option R := vK (aED (e2 σ x)) λ v => k v h
abbrev bGG (q : IntKind) (x : bP) (σ : Rg) (h : H) (k : DV -> H -> Option R) : Option R := vK (fH q (e2 σ x)) λ v => k v h
abbrev bGA (x : bP) (σ : Rg) (h : H) (k : DV -> H -> Option R) : Option R := vK (aIZ (e2 σ x)) λ v => k v h
abbrev bQC (x : bP) (σ : Rg) (h : H) (k : DV -> H -> Option R) : Option R := vK (nG h.get (e2 σ x)) λ v => k v h
abbrev o_ld (x : bP) (σ : Rg) (h : H) (k : DV -> H -> Option R) : Option R := vK (aF h.get (e2 σ x)) λ v => k v h
abbrev bQo (n : Nat) (x : bP) (σ : Rg) (h : H) (k : DV -> H -> Option R) : Option R := vK (aM n h.get (e2 σ x)) λ v => k v h
abbrev aYg (x : bP) (σ : Rg) (h : H) (k : DV -> H -> Option R) : Option R := vK (aW (e2 σ x)) λ v => k v h
abbrev o_fa (off : Nat) (x : bP) (σ : Rg) (h : H) (k : DV -> H -> Option R) : Option R := vK (aI off (e2 σ x)) λ v => k v h
abbrev bQt (off n : Nat) (agg : Bool) (x : bP) (σ : Rg) (h : H) (k : DV -> H -> Option R) : Option R := vK (aSN off n agg (e2 σ x)) λ v => k v h
abbrev bQs (len es : Nat) (x i : bP) (σ : Rg) (h : H) (k : DV -> H -> Option R) : Option R := vK (pF len es (e2 σ x) (e2 σ i)) λ v => k v h
abbrev bQr (es : Nat) (x i : bP) (σ : Rg) (h : H) (k : DV -> H -> Option R) : Option R := vK (cD es (e2 σ x) (e2 σ i)) λ v => k v h
abbrev bQq (len es : Nat) (agg : Bool) (x i : bP) (σ : Rg) (h : H) (k : DV -> H -> Option R) : Option R := vK (aDs len es agg (e2 σ x) (e2 σ i)) λ v => k v h
abbrev bQp (x i : bP) (σ : Rg) (h : H) (k : DV -> H -> Option R) : Option R := vK (gY (e2 σ x) (e2 σ i)) λ v => k v h
abbrev bQa (x : bP) (lo hi : Option bP) (σ : Rg) (h : H) (k : DV -> H -> Option R) : Option R := vK (iE (e2 σ x) (lo.map (e2 σ)) (hi.map (e2 σ))) λ v => k v h
abbrev bQc (es : Nat) (x : bP) (lo hi : Option bP) (σ : Rg) (h : H) (k : DV -> H -> Option R) : Option R := vK (dU es (e2 σ x) (lo.map (e2 σ)) (hi.map (e2 σ))) λ v => k v h
abbrev bQd (n es : Nat) (x : bP) (lo hi : Option bP) (σ : Rg) (h : H) (k : DV -> H -> Option R) : Option R := vK (aSI n es (e2 σ x) (lo.map (e2 σ)) (hi.map (e2 σ))) λ v => k v h
abbrev bQu (i : Nat) (x : bP) (σ : Rg) (h : H) (k : DV -> H -> Option R) : Option R := vK (aG i (e2 σ x)) λ v => k v h
abbrev bGC (x : bP) (σ : Rg) (h : H) (k : DV -> H -> Option R) : Option R := vK (cJ (e2 σ x)) λ v => k v h
abbrev bGE (x : bP) (σ : Rg) (h : H) (k : DV -> H -> Option R) : Option R := vK (cA (e2 σ x)) λ v => k v h
abbrev bGD (x : bP) (σ : Rg) (h : H) (k : DV -> H -> Option R) : Option R := vK (aJa h.get (e2 σ x)) λ v => k v h
abbrev bGH (x : bP) (σ : Rg) (h : H) (k : DV -> H -> Option R) : Option R := vK (aEH (e2 σ x)) λ v => k v h
abbrev bQg (x y : bP) (σ : Rg) (h : H) (k : DV -> H -> Option R) : Option R := vK (aMn h.get (e2 σ x) (e2 σ y)) λ v => k v h
abbrev o_mn (a b : bP) (σ : Rg) (h : H) (k : DV -> H -> Option R) : Option R := vK (aAP (e2 σ a) (e2 σ b)) λ v => k v h
abbrev o_mx (a b : bP) (σ : Rg) (h : H) (k : DV -> H -> Option R) : Option R := vK (aBT (e2 σ a) (e2 σ b)) λ v => k v h
abbrev bQz (zero : List DV) (parts : List (Nat × Nat × bP)) (σ : Rg) (h : H) (k : DV -> H -> Option R) : Option R := vK (dO zero (parts.map λ p => (p.1, p.2.1, e2 σ p.2.2))) λ v => k v h
abbrev bPZ (t : Nat) (zero : DV) (ok : Bool) (x : bP) (σ : Rg) (h : H) (k : DV -> H -> Option R) : Option R := vK (nF t zero ok (e2 σ x)) λ v => k v h
abbrev o_mv (x : bP) (σ : Rg) (h : H) (k : DV -> H -> Option R) : Option R := k (e2 σ x) h
abbrev bQl (t : Nat) (x : bP) (σ : Rg) (h : H) (k : DV -> H -> Option R) : Option R := k (.ifc t (e2 σ x)) h
abbrev bQm (f : Fn) (a c : List bP) (σ : Rg) (h : H) (k : DV -> H -> Option R) : Option R := k (.fn f (a.map (e2 σ)) (c.map (e2 σ))) h
abbrev bGF (n : Nat) (σ : Rg) (h : H) (k : DV -> H -> Option R) : Option R := k (.int .i64 (.ofNat n)) h
abbrev bQD (n es : Nat) (z : Zs) (σ : Rg) (h : H) (k : DV -> H -> Option R) : Option R := dP n es z h k
abbrev bQy (x : bP) (σ : Rg) (h : H) (k : DV -> H -> Option R) : Option R := dV (e2 σ x) h k
abbrev bQx (n es : Nat) (zero : List DV) (parts : List (Nat × Nat × bP)) (σ : Rg) (h : H) (k : DV -> H -> Option R) : Option R := fG n es zero (parts.map λ p => (p.1, p.2.1, e2 σ p.2.2)) h k
abbrev bQj (es bytes : Nat) (zero : DV) (l c : bP) (σ : Rg) (h : H) (k : DV -> H -> Option R) : Option R := vG es bytes zero (e2 σ l) (e2 σ c) h k
abbrev bQk  (σ : Rg) (h : H) (k : DV -> H -> Option R) : Option R := aYi h k
abbrev bQe (x : bP) (σ : Rg) (h : H) (k : DV -> H -> Option R) : Option R := aIj (e2 σ x) h k
abbrev bCl (d : EOp) : Rg -> H -> (DV -> H -> Option R) -> Option R :=
 EOp.rec (motive := λ _ => Rg -> H -> (DV -> H -> Option R) -> Option R) bQB bQf bQn bQb o_mv bGB bQA bQv bQw bQh bQi bGG bGA bQC bQl bQm o_ld bQo aYg o_fa bQt bQs bQr bQq bQp bQa bQc bQd bQu bGC bGE bGD bGH bQg bGF o_mn o_mx bQz bPZ bQD bQy bQx bQj bQk bQe d
end
def bFu (q : Prm) (x y : bP) (σ : Rg) (rd : Rd) : Option DV := aSK q (e2 σ x) (e2 σ y)
def bFA (kt : LfK) (z : DV) (ok : Bool) (x y : bP) (σ : Rg) (rd : Rd) : Option DV := aSM kt z ok rd (e2 σ x) (e2 σ y)
def bFr (es : Nat) (x : bP) (lo : Option bP) (hi mx : bP) (σ : Rg) (rd : Rd) : Option DV := zL es (e2 σ x) (lo.map (e2 σ)) (e2 σ hi) (e2 σ mx)
def aYz (c a b : bP) (σ : Rg) (rd : Rd) : Option DV := bE (e2 σ c) (e2 σ a) (e2 σ b)
def bFL (op : BinOp) (x y : bP) (σ : Rg) (rd : Rd) : Option DV := aSO op (e2 σ x) (e2 σ y)
def bFI (t : EqT) (neg : Bool) (x y : bP) (σ : Rg) (rd : Rd) : Option DV := eM t neg rd (e2 σ x) (e2 σ y)
def bFJ (neg : Bool) (s : EqS) (x y : bP) (σ : Rg) (rd : Rd) : Option DV := aEG neg s rd (e2 σ x) (e2 σ y)
def bFw (x : bP) (σ : Rg) (rd : Rd) : Option DV := oE (e2 σ x)
def bFx (x : bP) (σ : Rg) (rd : Rd) : Option DV := aED (e2 σ x)
def aYE (q : IntKind) (x : bP) (σ : Rg) (rd : Rd) : Option DV := fH q (e2 σ x)
def aYy (x : bP) (σ : Rg) (rd : Rd) : Option DV := aIZ (e2 σ x)
def bFM (x : bP) (σ : Rg) (rd : Rd) : Option DV := nG rd (e2 σ x)
def g_ld (x : bP) (σ : Rg) (rd : Rd) : Option DV := aF rd (e2 σ x)
def bFB (n : Nat) (x : bP) (σ : Rg) (rd : Rd) : Option DV := aM n rd (e2 σ x)
def aNL (x : bP) (σ : Rg) (rd : Rd) : Option DV := aW (e2 σ x)
def g_fa (off : Nat) (x : bP) (σ : Rg) (rd : Rd) : Option DV := aI off (e2 σ x)
def bFG (off n : Nat) (agg : Bool) (x : bP) (σ : Rg) (rd : Rd) : Option DV := aSN off n agg (e2 σ x)
def bFF (len es : Nat) (x i : bP) (σ : Rg) (rd : Rd) : Option DV := pF len es (e2 σ x) (e2 σ i)
def bFE (es : Nat) (x i : bP) (σ : Rg) (rd : Rd) : Option DV := cD es (e2 σ x) (e2 σ i)
def bFD (len es : Nat) (agg : Bool) (x i : bP) (σ : Rg) (rd : Rd) : Option DV := aDs len es agg (e2 σ x) (e2 σ i)
def bFC (x i : bP) (σ : Rg) (rd : Rd) : Option DV := gY (e2 σ x) (e2 σ i)
def bFq (x : bP) (lo hi : Option bP) (σ : Rg) (rd : Rd) : Option DV := iE (e2 σ x) (lo.map (e2 σ)) (hi.map (e2 σ))
def bFs (es : Nat) (x : bP) (lo hi : Option bP) (σ : Rg) (rd : Rd) : Option DV := dU es (e2 σ x) (lo.map (e2 σ)) (hi.map (e2 σ))
def bFt (n es : Nat) (x : bP) (lo hi : Option bP) (σ : Rg) (rd : Rd) : Option DV := aSI n es (e2 σ x) (lo.map (e2 σ)) (hi.map (e2 σ))
def bFH (i : Nat) (x : bP) (σ : Rg) (rd : Rd) : Option DV := aG i (e2 σ x)
def aYA (x : bP) (σ : Rg) (rd : Rd) : Option DV := cJ (e2 σ x)
def aYC (x : bP) (σ : Rg) (rd : Rd) : Option DV := cA (e2 σ x)
def aYB (x : bP) (σ : Rg) (rd : Rd) : Option DV := aJa rd (e2 σ x)
def aYF (x : bP) (σ : Rg) (rd : Rd) : Option DV := aEH (e2 σ x)
def bFv (x y : bP) (σ : Rg) (rd : Rd) : Option DV := aMn rd (e2 σ x) (e2 σ y)
def g_mn (a b : bP) (σ : Rg) (rd : Rd) : Option DV := aAP (e2 σ a) (e2 σ b)
def g_mx (a b : bP) (σ : Rg) (rd : Rd) : Option DV := aBT (e2 σ a) (e2 σ b)
def bFK (zero : List DV) (parts : List (Nat × Nat × bP)) (σ : Rg) (rd : Rd) : Option DV := dO zero (parts.map λ p => (p.1, p.2.1, e2 σ p.2.2))
def bFp (t : Nat) (zero : DV) (ok : Bool) (x : bP) (σ : Rg) (rd : Rd) : Option DV := nF t zero ok (e2 σ x)
def g_mv (x : bP) (σ : Rg) (rd : Rd) : Option DV := some (e2 σ x)
def bFy (t : Nat) (x : bP) (σ : Rg) (rd : Rd) : Option DV := some (.ifc t (e2 σ x))
def bFz (f : Fn) (a c : List bP) (σ : Rg) (rd : Rd) : Option DV := some (.fn f (a.map (e2 σ)) (c.map (e2 σ)))
def aYD (n : Nat) (σ : Rg) (rd : Rd) : Option DV := some (.int .i64 (.ofNat n))
def bQS (n es : Nat) (z : Zs) (σ : Rg) (rd : Rd) : Option DV := none
def bQQ (x : bP) (σ : Rg) (rd : Rd) : Option DV := none
def bQP (n es : Nat) (zero : List DV) (parts : List (Nat × Nat × bP)) (σ : Rg) (rd : Rd) : Option DV := none
def bQL (es bytes : Nat) (zero : DV) (l c : bP) (σ : Rg) (rd : Rd) : Option DV := none
def bQM  (σ : Rg) (rd : Rd) : Option DV := none
def bQH (x : bP) (σ : Rg) (rd : Rd) : Option DV := none
def bQR  (σ : Rg) (rd : Rd) : Option DV := none
def fA (d : EOp) : Rg -> Rd -> Option DV :=
 EOp.rec (motive := λ _ => Rg -> Rd -> Option DV) bQR bFu bFA bFr g_mv aYz bFL bFI bFJ bFw bFx aYE aYy bFM bFy bFz g_ld bFB aNL g_fa bFG bFF bFE bFD bFC bFq bFs bFt bFH aYA aYC aYB aYF bFv aYD g_mn g_mx bFK bFp bQS bQQ bQP bQL bQM bQH d
def aTw : EOp -> Bool
 | .alc _ _ _ | .box _ | .bsl _ _ _ _ | .mks _ _ _ _ _ | .mkm | .s2b _ | .bad => true
 | _ => false
theorem bCB (q : Prm) (x y : bP) (ρ : Tr DV) (rd : Rd) : dJ (.prm q x y) ρ rd = (aSK q (ev ρ x) (ev ρ y)).map .val := by
 simp only [dJ, aSK]; generalize ev ρ x = x'; generalize ev ρ y = y'; cases x' <;> (try (cases q <;> rfl))
 cases y' <;> (try (cases q <;> rfl))
 rename_i s kk n; cases kk <;> (try (cases q <;> rfl))
 cases n <;> (try (cases q <;> rfl))
 rename_i c; cases q
 · show (bif Nat.blt c 256 then _ else none) = (bif Nat.blt c 256 then _ else none : Option DV).map _; cases Nat.blt c 256 <;> simp only [cond_false, cond_true, pN] <;> rfl
 · show (bif Nat.blt c 256 then _ else none) = (bif Nat.blt c 256 then _ else none : Option DV).map _; cases Nat.blt c 256 <;> simp only [cond_false, cond_true, bD] <;> rfl
theorem bCH (kt : LfK) (z : DV) (ok : Bool) (x y : bP) (ρ : Tr DV) (rd : Rd) : dJ (.lkp kt z ok x y) ρ rd = (aSM kt z ok rd (ev ρ x) (ev ρ y)).map .val := by
 simp only [dJ, aSM, Option.map_map]
 congr 1; funext r; cases r <;> rfl
theorem bCx (es : Nat) (x : bP) (lo : Option bP) (hi mx : bP) (ρ : Tr DV) (rd : Rd) : dJ (.slM es x lo hi mx) ρ rd = (zL es (ev ρ x) (lo.map (ev ρ)) (ev ρ hi) (ev ρ mx)).map .val := by
 simp only [dJ, zL]; generalize ev ρ x = x'; generalize ev ρ hi = hi'; generalize ev ρ mx = mx'; cases mx' <;> try rfl
 rename_i k n; cases n <;> try rfl
 rename_i n; cases x' <;> try rfl
 · show (bif Nat.beq n 0 then _ else none) = (bif Nat.beq n 0 then _ else none : Option DV).map _; cases Nat.beq n 0 <;> rfl
 · rename_i a b c d e; show (bif Nat.ble n d then _ else none) = (bif Nat.ble n d then _ else none : Option DV).map _; cases Nat.ble n d <;> rfl
theorem aYT (c a b : bP) (ρ : Tr DV) (rd : Rd) : dJ (.pick c a b) ρ rd = (bE (ev ρ c) (ev ρ a) (ev ρ b)).map .val := by
 simp only [dJ, bE]; generalize ev ρ c = c'; generalize ev ρ a = a'; generalize ev ρ b = b'; cases c' <;> try rfl
 rename_i t; cases t <;> rfl
theorem bCS (op : BinOp) (x y : bP) (ρ : Tr DV) (rd : Rd) : dJ (.bin op x y) ρ rd = (aSO op (ev ρ x) (ev ρ y)).map .val := by
 rw [aXr]; rfl
theorem bCP (t : EqT) (neg : Bool) (x y : bP) (ρ : Tr DV) (rd : Rd) : dJ (.eqv t neg x y) ρ rd = (eM t neg rd (ev ρ x) (ev ρ y)).map .val := by
 rfl
theorem bCQ (neg : Bool) (s : EqS) (x y : bP) (ρ : Tr DV) (rd : Rd) : dJ (.eqs neg s x y) ρ rd = (aEG neg s rd (ev ρ x) (ev ρ y)).map .val := by
 simp only [dJ, aEG]; generalize ev ρ x = x'; generalize ev ρ y = y'; cases x' <;> cases y' <;> rfl
theorem bCD (x : bP) (ρ : Tr DV) (rd : Rd) : dJ (.not x) ρ rd = (oE (ev ρ x)).map .val := by
 simp only [dJ, oE, cL, cM]; generalize ev ρ x = x'; cases x' <;> rfl
theorem bCE (x : bP) (ρ : Tr DV) (rd : Rd) : dJ (.neg x) ρ rd = (aED (ev ρ x)).map .val := by
 simp only [dJ, aED, cL, cM]; generalize ev ρ x = x'; cases x' <;> rfl
theorem aYY (q : IntKind) (x : bP) (ρ : Tr DV) (rd : Rd) : dJ (.conv q x) ρ rd = (fH q (ev ρ x)).map .val := by
 simp only [dJ, fH, cL, cM]; generalize ev ρ x = x'; cases x' <;> rfl
theorem aYS (x : bP) (ρ : Tr DV) (rd : Rd) : dJ (.same x) ρ rd = (aIZ (ev ρ x)).map .val := by
 simp only [dJ, aIZ, cL, cM]; generalize ev ρ x = x'; cases x' <;> rfl
theorem bCT (x : bP) (ρ : Tr DV) (rd : Rd) : dJ (.b2s x) ρ rd = (nG rd (ev ρ x)).map .val := by
 simp only [dJ, nG, cL, cM]; generalize ev ρ x = x'; cases x' <;> rfl
theorem bGW (x : bP) (ρ : Tr DV) (rd : Rd) : dJ (.ld x) ρ rd = (aF rd (ev ρ x)).map .val := by
 simp only [dJ, aF, cL, cM]; generalize ev ρ x = x'; cases x' <;> rfl
theorem bCI (n : Nat) (x : bP) (ρ : Tr DV) (rd : Rd) : dJ (.ldN n x) ρ rd = (aM n rd (ev ρ x)).map .val := by
 simp only [dJ, aM, cL, cM]; generalize ev ρ x = x'; cases x' <;> rfl
theorem aRh (x : bP) (ρ : Tr DV) (rd : Rd) : dJ (.nilchk x) ρ rd = (aW (ev ρ x)).map .val := by
 simp only [dJ, aW, cL, cM]; generalize ev ρ x = x'; cases x' <;> rfl
theorem bGX (off : Nat) (x : bP) (ρ : Tr DV) (rd : Rd) : dJ (.fa off x) ρ rd = (aI off (ev ρ x)).map .val := by
 simp only [dJ, aI, bD]; generalize ev ρ x = x'; cases x' <;> rfl
theorem bCN (off n : Nat) (agg : Bool) (x : bP) (ρ : Tr DV) (rd : Rd) : dJ (.fld off n agg x) ρ rd = (aSN off n agg (ev ρ x)).map .val := by
 simp only [dJ, aSN]; generalize ev ρ x = x'; cases x' <;> try rfl
 rename_i cs; cases agg <;> try rfl
 show (bif Nat.ble (off + n) cs.length then _ else none) = (bif Nat.ble (off + n) cs.length then _ else none : Option DV).map _; cases Nat.ble (off + n) cs.length <;> rfl
theorem bCM (len es : Nat) (x i : bP) (ρ : Tr DV) (rd : Rd) : dJ (.iaA len es x i) ρ rd = (pF len es (ev ρ x) (ev ρ i)).map .val := by
 simp only [dJ, pF, cL, cM]; generalize ev ρ x = x'; generalize ev ρ i = i'; cases x' <;> rfl
theorem bCL (es : Nat) (x i : bP) (ρ : Tr DV) (rd : Rd) : dJ (.iaS es x i) ρ rd = (cD es (ev ρ x) (ev ρ i)).map .val := by
 simp only [dJ, cD, cL, cM]; generalize ev ρ x = x'; generalize ev ρ i = i'; cases x' <;> rfl
theorem bCK (len es : Nat) (agg : Bool) (x i : bP) (ρ : Tr DV) (rd : Rd) : dJ (.ixA len es agg x i) ρ rd = (aDs len es agg (ev ρ x) (ev ρ i)).map .val := by
 simp only [dJ, aDs, cL, cM]; generalize ev ρ x = x'; generalize ev ρ i = i'; cases x' <;> rfl
theorem bCJ (x i : bP) (ρ : Tr DV) (rd : Rd) : dJ (.ixS x i) ρ rd = (gY (ev ρ x) (ev ρ i)).map .val := by
 simp only [dJ, gY, cL, cM]; generalize ev ρ x = x'; generalize ev ρ i = i'; cases x' <;> rfl
theorem bCw (x : bP) (lo hi : Option bP) (ρ : Tr DV) (rd : Rd) : dJ (.slS x lo hi) ρ rd = (iE (ev ρ x) (lo.map (ev ρ)) (hi.map (ev ρ))).map .val := by
 simp only [dJ, iE, cL, cM]; generalize ev ρ x = x'; cases x' <;> rfl
theorem bCy (es : Nat) (x : bP) (lo hi : Option bP) (ρ : Tr DV) (rd : Rd) : dJ (.slL es x lo hi) ρ rd = (dU es (ev ρ x) (lo.map (ev ρ)) (hi.map (ev ρ))).map .val := by
 simp only [dJ, dU, cL, cM]; generalize ev ρ x = x'; cases x' <;> rfl
theorem bCz (n es : Nat) (x : bP) (lo hi : Option bP) (ρ : Tr DV) (rd : Rd) : dJ (.slA n es x lo hi) ρ rd = (aSI n es (ev ρ x) (lo.map (ev ρ)) (hi.map (ev ρ))).map .val := by
 simp only [dJ, aSI, cL, cM]; generalize ev ρ x = x'; cases x' <;> rfl
theorem bCO (i : Nat) (x : bP) (ρ : Tr DV) (rd : Rd) : dJ (.ext i x) ρ rd = (aG i (ev ρ x)).map .val := by
 simp only [dJ, aG, cL, cM]; generalize ev ρ x = x'; cases x' <;> rfl
theorem aYU (x : bP) (ρ : Tr DV) (rd : Rd) : dJ (.lenS x) ρ rd = (cJ (ev ρ x)).map .val := by
 simp only [dJ, cJ, bD]; generalize ev ρ x = x'; cases x' <;> rfl
theorem aYW (x : bP) (ρ : Tr DV) (rd : Rd) : dJ (.lenL x) ρ rd = (cA (ev ρ x)).map .val := by
 simp only [dJ, cA, cL, cM]; generalize ev ρ x = x'; cases x' <;> rfl
theorem aYV (x : bP) (ρ : Tr DV) (rd : Rd) : dJ (.lenM x) ρ rd = (aJa rd (ev ρ x)).map .val := by
 simp only [dJ, aJa, bD]; generalize ev ρ x = x'; cases x' <;> try rfl
 rename_i b; simp only []; cases rd b with
 | none => rfl
 | some o => cases o <;> rfl
theorem aYZ (x : bP) (ρ : Tr DV) (rd : Rd) : dJ (.capL x) ρ rd = (aEH (ev ρ x)).map .val := by
 rfl
theorem bCC (x y : bP) (ρ : Tr DV) (rd : Rd) : dJ (.ovl x y) ρ rd = (aMn rd (ev ρ x) (ev ρ y)).map .val := by
 rfl
theorem bGV (a b : bP) (ρ : Tr DV) (rd : Rd) : dJ (.mn a b) ρ rd = (aAP (ev ρ a) (ev ρ b)).map .val := by
 simp only [dJ, aAP]; generalize ev ρ a = a'; generalize ev ρ b = b'; cases a' <;> cases b' <;> rfl
theorem bGT (a b : bP) (ρ : Tr DV) (rd : Rd) : dJ (.mx a b) ρ rd = (aBT (ev ρ a) (ev ρ b)).map .val := by
 simp only [dJ, aBT]; generalize ev ρ a = a'; generalize ev ρ b = b'; cases a' <;> cases b' <;> rfl
theorem bCR (zero : List DV) (parts : List (Nat × Nat × bP)) (ρ : Tr DV) (rd : Rd) : dJ (.bld zero parts) ρ rd = (dO zero (parts.map λ p => (p.1, p.2.1, ev ρ p.2.2))).map .val := by
 rfl
theorem bCv (t : Nat) (zero : DV) (ok : Bool) (x : bP) (ρ : Tr DV) (rd : Rd) : dJ (.tas t zero ok x) ρ rd = (nF t zero ok (ev ρ x)).map .val := by
 simp only [dJ, nF]; generalize ev ρ x = x'; cases x' <;> try rfl
 · cases ok <;> rfl
 · rename_i u v; simp only []; cases Nat.beq u t <;> cases ok <;> rfl
theorem bGU (x : bP) (ρ : Tr DV) (rd : Rd) : dJ (.mv x) ρ rd = (some (ev ρ x) : Option DV).map .val := rfl
theorem bCF (t : Nat) (x : bP) (ρ : Tr DV) (rd : Rd) : dJ (.mkI t x) ρ rd = (some (.ifc t (ev ρ x)) : Option DV).map .val := rfl
theorem bCG (f : Fn) (a c : List bP) (ρ : Tr DV) (rd : Rd) : dJ (.mkF f a c) ρ rd = (some (.fn f (a.map (ev ρ)) (c.map (ev ρ))) : Option DV).map .val := rfl
theorem aYX (n : Nat) (ρ : Tr DV) (rd : Rd) : dJ (.lenA n) ρ rd = (some (.int .i64 (.ofNat n)) : Option DV).map .val := rfl
theorem aIy {d : EOp} (hd : aTw d = false) (ρ : Tr DV) (rd : Rd) : dJ d ρ rd = (fA d (reg ρ) rd).map .val := by
 cases d
 · cases hd
 · rw [bCB]; simp only [fA, bFu, cZ]
 · rw [bCH]; simp only [fA, bFA, cZ]
 · rw [bCx]; simp only [fA, bFr, cZ]
 · rw [bGU]; simp only [fA, g_mv, cZ]
 · rw [aYT]; simp only [fA, aYz, cZ]
 · rw [bCS]; simp only [fA, bFL, cZ]
 · rw [bCP]; simp only [fA, bFI, cZ]
 · rw [bCQ]; simp only [fA, bFJ, cZ]
 · rw [bCD]; simp only [fA, bFw, cZ]
 · rw [bCE]; simp only [fA, bFx, cZ]
 · rw [aYY]; simp only [fA, aYE, cZ]
 · rw [aYS]; simp only [fA, aYy, cZ]
 · rw [bCT]; simp only [fA, bFM, cZ]
 · rw [bCF]; simp only [fA, bFy, cZ]
 · rw [bCG]; simp only [fA, bFz, cZ]
 · rw [bGW]; simp only [fA, g_ld, cZ]
 · rw [bCI]; simp only [fA, bFB, cZ]
 · rw [aRh]; simp only [fA, aNL, cZ]
 · rw [bGX]; simp only [fA, g_fa, cZ]
 · rw [bCN]; simp only [fA, bFG, cZ]
 · rw [bCM]; simp only [fA, bFF, cZ]
 · rw [bCL]; simp only [fA, bFE, cZ]
 · rw [bCK]; simp only [fA, bFD, cZ]
 · rw [bCJ]; simp only [fA, bFC, cZ]
 · rw [bCw]; simp only [fA, bFq, cZ]
 · rw [bCy]; simp only [fA, bFs, cZ]
 · rw [bCz]; simp only [fA, bFt, cZ]
 · rw [bCO]; simp only [fA, bFH, cZ]
 · rw [aYU]; simp only [fA, aYA, cZ]
 · rw [aYW]; simp only [fA, aYC, cZ]
 · rw [aYV]; simp only [fA, aYB, cZ]
 · rw [aYZ]; simp only [fA, aYF, cZ]
 · rw [bCC]; simp only [fA, bFv, cZ]
 · rw [aYX]; simp only [fA, aYD, cZ]
 · rw [bGV]; simp only [fA, g_mn, cZ]
 · rw [bGT]; simp only [fA, g_mx, cZ]
 · rw [bCR]; simp only [fA, bFK, cZ]
 · rw [bCv]; simp only [fA, bFp, cZ]
 · cases hd
 · cases hd
 · cases hd
 · cases hd
 · cases hd
 · cases hd
section
variable {R : Type}
theorem aYe {d : EOp} (hd : aTw d = false) (σ : Rg) (h : H) (k : DV -> H -> Option R) : bCl d σ h k = vK (fA d σ h.get) λ v => k v h := by
 cases d <;> first | (cases hd; done) | rfl
theorem bCk (E : bJ) (d : EOp) (ρ : Tr DV) (h : H) (k : DV -> H -> Option R) : bCl d (reg ρ) h k = (odo E (.e d) ρ h).bind λ x => k x.1 x.2 := by
 cases hd : aTw d with
 | false =>
   rw [aYe hd]; simp only [odo, aEo]; rw [aIy hd]; cases fA d (reg ρ) h.get <;> rfl
 | true =>
   simp only [odo, aEo]; cases d <;> first | (cases hd; done) | skip
   · rfl
   · rename_i n es z; simp only [dJ, H.pushK_eq, Option.bind_some]; show dP n es z h k = _; simp only [dP, H.pushK_eq]
   · rename_i x; simp only [dJ, H.pushK_eq, bD, Option.bind_some]; show dV (e2 (reg ρ) x) h k = _; simp only [dV, H.pushK_eq, bD, cZ]
   · rename_i n es zero parts; show fG n es zero (parts.map λ p => (p.1, p.2.1, e2 (reg ρ) p.2.2)) h k = _
     simp only [dJ, fG, cZ]; cases gP (gM zero n) (parts.map λ p => (p.1, p.2.1, ev ρ p.2.2)) with
     | none => rfl
     | some cs => simp only [Option.bind_some, Option.map_some, H.pushK_eq]
   · rename_i es bytes zero l c; show vG es bytes zero (e2 (reg ρ) l) (e2 (reg ρ) c) h k = _; simp only [dJ, vG, cZ]; generalize ev ρ l = l'; generalize ev ρ c = c'; cases l' <;> try rfl
     rename_i k1 n1; cases n1 <;> try rfl
     rename_i n1; cases c' <;> try rfl
     rename_i k2 n2; cases n2 <;> try rfl
     rename_i n2; simp only []; cases (Nat.ble n1 n2 && Nat.blt (bytes * n2) 140737488355328 && Nat.blt n2 140737488355328) with
     | false => rfl
     | true => simp only [cond_true, H.pushK_eq, Option.bind_some]
   · simp only [dJ, H.pushK_eq, Option.bind_some]; show aYi h k = _; simp only [aYi, H.pushK_eq]
   · rename_i x; show aIj (e2 (reg ρ) x) h k = _; simp only [dJ, aIj, cZ]; generalize ev ρ x = x'; cases x' <;> try rfl
     simp only [bD, H.pushK_eq, Option.bind_some]
end
end Go.DI
namespace Go.DI
open Go.RowKit
def kZ (E : bJ) (f : DV) (args : List DV) (h : H) : Option (DV × H) := match f with
 | .fn (.func g) first captured => aE E g (first ++ args ++ captured) h
 | _ => none
def wX (E : bJ) (tbl : List (Nat × Nat)) (x : DV) (args : List DV) (h : H) : Option (DV × H) := match x with
 | .ifc t v => match look t tbl with
   | some f => aE E f (v :: args) h
   | none => none
 | _ => none
def aBo (dst : Option Pa) (v : DV) (σ : Rg) : Rg := Option.rec (motive := λ _ => Rg) σ (λ p => fset p v σ) dst
section
variable {R : Type}
def odoW (d : WOp) : Rg -> H -> (DV -> H -> Option R) -> Option R :=
 WOp.rec (motive := λ _ => Rg -> H -> (DV -> H -> Option R) -> Option R)
   (λ n a x σ h k => wK (bY n (e2 σ a) (e2 σ x) h) k)
   (λ es bytes x y σ h k => wK (cE es bytes (e2 σ x) (e2 σ y) h) k)
   (λ es x y σ h k => wK (mE es (e2 σ x) (e2 σ y) h) k)
   (λ kt x q y σ h k => wK (aZk kt (e2 σ x) (e2 σ q) (e2 σ y) h) k)
   (λ zs x σ h k => wK (wS zs (e2 σ x) h) k)
   (λ x σ h k => wK (aBE (e2 σ x) h) k)
   (λ es bytes zs x y σ h k => wK (aOs es bytes zs (e2 σ x) (e2 σ y) h) k) d
def odoC (E : bJ) (d : COp) : Rg -> H -> (DV -> H -> Option R) -> Option R :=
 COp.rec (motive := λ _ => Rg -> H -> (DV -> H -> Option R) -> Option R)
   (λ f args σ h k => wK (aE E f (args.map (e2 σ)) h) k)
   (λ f args σ h k => wK (kZ E (e2 σ f) (args.map (e2 σ)) h) k)
   (λ tbl x args σ h k => wK (wX E tbl (e2 σ x) (args.map (e2 σ)) h) k) d
def aYf (E : bJ) (d : DOp) : Rg -> H -> (DV -> H -> Option R) -> Option R :=
 DOp.rec (motive := λ _ => Rg -> H -> (DV -> H -> Option R) -> Option R) bCl odoW (odoC E) d
def bR (c : DV) (t : Bool) (op : (DV -> H -> Option R) -> Option R) (h : H) (k : DV -> H -> Option R) : Option R := gK c t (op k) (k (.tup []) h)
def aRg (E : bJ) (g : DG) (σ : Rg) (h : H) (k : Rg -> H -> Option R) : Option R :=
 Option.rec (motive := λ _ => Option R) (aYf E g.op σ h λ v h => k (aBo g.dst v σ) h)
   (λ x => bR (σ x.1) x.2 (λ kk => aYf E g.op σ h kk) h λ v h => k (aBo g.dst v σ) h) g.guard
def aJW (E : bJ) (l : List DG) : Rg -> H -> (Rg -> H -> Option R) -> Option R :=
 List.rec (motive := λ _ => Rg -> H -> (Rg -> H -> Option R) -> Option R) (λ σ h k => k σ h) (λ g _ ih σ h k => aRg E g σ h λ σ h => ih σ h k) l
def gB (c : DV) (t : Bool) (x : Bool) : Bool := match c with
 | .bool c => Bool.rec (Bool.rec x true t) (Bool.rec true x t) c
 | _ => true
def bCd (d : DOp) (dst : Option Pa) (σ : Rg) (h : H) : Bool :=
 DOp.rec (motive := λ _ => Bool) (λ e => Option.rec (motive := λ _ => Bool) false (λ p => vL (fA e σ h.get) (σ p)) dst) (λ _ => false) (λ _ => false) d
def pQ (g : DG) (σ : Rg) (h : H) : Bool :=
 Option.rec (motive := λ _ => Bool) (bCd g.op g.dst σ h) (λ x => gB (σ x.1) x.2 (bCd g.op g.dst σ h)) g.guard
def rK (b : Bool) (x : Option R) : Option R := Bool.rec none x b
def reK (pre : List DR) (σ : Rg) (h : H) (x : Option R) (l : Ln) : Option R :=
 List.rec (motive := λ _ => Option R) x (λ q _ ih => rK (Option.rec (motive := λ _ => Bool) false (λ g => pQ g σ h) (aBq q pre)) ih) l
def aRf (E : bJ) (l : List DR) : List DR -> Rg -> H -> (Rg -> H -> Option R) -> Option R :=
 List.rec (motive := λ _ => List DR -> Rg -> H -> (Rg -> H -> Option R) -> Option R) (λ _ σ h k => k σ h)
   (λ x _ ih pre σ h k => aRg E x.g σ h λ σ h => reK pre σ h (ih (x :: pre) σ h k) x.re) l
abbrev iY (R : Type) := DX -> Rg -> H -> Option R
def aCb (k : Rg -> H -> Option R) (K : iY R) : iY R := λ x σ h =>
 DX.rec (motive := λ _ => Option R) (k σ h) (λ id => K (.exit id) σ h) (K .ret σ h) x
def aTL (id : Nat) (K : iY R) : iY R := λ x σ h =>
 DX.rec (motive := λ _ => Option R) (K .normal σ h) (λ i => Bool.rec (K (.exit i) σ h) (K .normal σ h) (Nat.beq i id)) (K .ret σ h) x
def aSX (K : iY R) : iY R := λ x σ h =>
 DX.rec (motive := λ _ => Option R) (K .normal σ h) (λ i => Bool.rec none (K (.exit i) σ h) (Nat.blt i 4294967296)) (K .ret σ h) x
def aCn (g : Nat) (k : Rg -> H -> Option R) (K : iY R) : iY R := λ x σ h =>
 DX.rec (motive := λ _ => Option R) (K .normal σ h) (λ i => Bool.rec (Bool.rec none (K (.exit i) σ h) (Nat.blt i 4294967296)) (k σ h) (Nat.beq i g)) (K .ret σ h) x
def aAh (body : Rg -> H -> iY R -> Option R) (g : Nat) (K : iY R) (n : Nat) : Rg -> H -> Option R :=
 Nat.rec (motive := λ _ => Rg -> H -> Option R) (λ _ _ => none) (λ _ ih σ h => body σ h (aCn g ih K)) n
def wI (body : Rg -> H -> iY R -> Option R) (K : iY R) (n : Nat) : Rg -> H -> Option R :=
 Nat.rec (motive := λ _ => Rg -> H -> Option R) (λ _ _ => none) (λ _ ih σ h => body σ h (aCb ih K)) n
def kW (E : bJ) (c : DC) : Rg -> H -> iY R -> Option R :=
 DC.rec (motive := λ _ => Rg -> H -> iY R -> Option R)
   (λ σ h K => K .normal σ h)
   (λ l σ h K => aJW E l σ h λ σ h => K .normal σ h)
   (λ _ _ ia ib σ h K => ia σ h (aCb (λ σ h => ib σ h K) K))
   (λ c _ _ ia ib σ h K => bK (e2 σ c) (ia σ h K) (ib σ h K))
   (λ id _ ia σ h K => ia σ h (aTL id K))
   (λ _ ia σ h K => wI ia K aQ σ h)
   (λ id σ h K => K (.exit id) σ h)
   (λ σ h K => K .ret σ h)
   (λ _ ia σ h K => ia σ h (aSX K))
   (λ l σ h K => aRf E l [] σ h λ σ h => K .normal σ h)
   (λ _ _ _ => none)
   (λ g _ _ ia ir σ h K => ia σ h (aCn g (aAh ir g K aQ) K)) c
end
def rv2 (σ : Rg) (h : H) (r : RV) (k : DV -> Option (DV × H)) : Option (DV × H) :=
 RV.rec (motive := λ _ => Option (DV × H)) (λ p => k (σ p)) (λ p => vK (aF h.get (σ p)) k) (λ p n => vK (aM n h.get (σ p)) k) r
def aXK (σ : Rg) (h : H) (l : List RV) : (List DV -> Option (DV × H)) -> Option (DV × H) :=
 List.rec (motive := λ _ => (List DV -> Option (DV × H)) -> Option (DV × H)) (λ k => k []) (λ r _ ih k => rv2 σ h r λ v => ih λ vs => k (v :: vs)) l
def aTf (res : List RV) : iY (DV × H) := λ x σ h =>
 DX.rec (motive := λ _ => Option (DV × H)) (aXK σ h res λ vs => some (sS vs, h)) (λ _ => none) (aXK σ h res λ vs => some (sS vs, h)) x
def aQb (E : bJ) (d : DF) : cF := λ args h => Bool.rec none (kW E d.body (reg (Tr.ofL args)) h (aTf d.res)) (Nat.beq args.length d.np)
section
variable {R : Type} {E : bJ} {ρ : Tr DV}
theorem aTq (d : DOp) (ρ : Tr DV) (h : H) (k : DV -> H -> Option R) : aYf E d (reg ρ) h k = (odo E d ρ h).bind λ x => k x.1 x.2 := by
 cases d with
 | e d => exact bCk E d ρ h k
 | w d =>
   rw [<- bEZ]; cases d <;> (show wK _ k = wK _ k; simp only [odo, wdo, cZ, aBD, eN, aCv])
 | c d =>
   rw [<- bEZ]; cases d with
   | f f args => show wK (aE E f (args.map (e2 (reg ρ))) h) k = wK (aE E f (args.map (ev ρ)) h) k; rw [cZ]
   | v f args => show wK (kZ E (e2 (reg ρ) f) (args.map (e2 (reg ρ))) h) k = wK (kZ E (ev ρ f) (args.map (ev ρ)) h) k; rw [cZ]
   | m tbl x args => show wK (wX E tbl (e2 (reg ρ) x) (args.map (e2 (reg ρ))) h) k = wK (wX E tbl (ev ρ x) (args.map (ev ρ)) h) k; rw [cZ]
theorem aXS (dst : Option Pa) (v : DV) (ρ : Tr DV) : reg (tW dst v ρ) = aBo dst v (reg ρ) := by
 cases dst with
 | none => rfl
 | some p => exact bCb ρ p v
theorem bQT (p : Pa) (t : Bool) (a b : Option R) : gK (reg ρ p) t a b = bif fJ ρ (some (p, t)) then a else b := by
 show gK (ev ρ (.r p)) t a b = _; unfold fJ; simp only []; generalize ev ρ (.r p) = x; cases x <;> try rfl
 rename_i c; cases c <;> cases t <;> rfl
theorem bQU (p : Pa) (t : Bool) (x : Bool) : gB (reg ρ p) t x = bif fJ ρ (some (p, t)) then x else true := by
 show gB (ev ρ (.r p)) t x = _; unfold fJ; simp only []; generalize ev ρ (.r p) = y; cases y <;> try rfl
 rename_i c; cases c <;> cases t <;> rfl
theorem aIw (g : DG) (h : H) (k : Tr DV -> H -> Option R) (k2 : Rg -> H -> Option R) (hk : ∀ ρ h, k ρ h = k2 (reg ρ) h) : wM E g ρ h k = aRg E g (reg ρ) h k2 := by
 obtain ⟨dst, guard, op⟩ := g; unfold wM; simp only [rJ, hk, aXS]; cases guard with
 | none =>
   show (odo E op ρ h).bind (λ x => k2 (aBo dst x.1 (reg ρ)) x.2) = aYf E op (reg ρ) h λ v h => k2 (aBo dst v (reg ρ)) h
   rw [aTq]
 | some x =>
   obtain ⟨p, t⟩ := x; show _ = gK (reg ρ p) t (aYf E op (reg ρ) h λ v h => k2 (aBo dst v (reg ρ)) h) (k2 (aBo dst (.tup []) (reg ρ)) h)
   rw [bQT, aTq]
theorem aFE : ∀ (l : List DG) (ρ : Tr DV) (h : H) (k : Tr DV -> H -> Option R) (k2 : Rg -> H -> Option R), (∀ ρ h, k ρ h = k2 (reg ρ) h) -> aJX E l ρ h k = aJW E l (reg ρ) h k2
 | [], ρ, h, k, k2, hk => hk ρ h
 | g :: l, ρ, h, k, k2, hk => aIw g h _ (λ σ h => aJW E l σ h k2) λ ρ h => aFE l ρ h k k2 hk
theorem bCc (g : DG) (h : H) : aBh g ρ h = pQ g (reg ρ) h := by
 obtain ⟨dst, guard, op⟩ := g; have key : (match op, dst with
     | .e d, some p => match dJ d ρ h.get with
       | some (.val v) => rB v (ev ρ (.r p))
       | _ => false
     | _, _ => false) = bCd op dst (reg ρ) h := by
   cases op with
   | w d => rfl
   | c d => rfl
   | e d =>
     cases dst with
     | none => rfl
     | some p =>
       show _ = vL (fA d (reg ρ) h.get) (reg ρ p); simp only []; cases hd : aTw d with
       | false =>
         rw [aIy hd]; cases fA d (reg ρ) h.get <;> rfl
       | true =>
         have e1 : fA d (reg ρ) h.get = none := by cases d <;> first | (cases hd; done) | rfl
         rw [e1]; show _ = false; split
         · rename_i v hv
           exfalso
           cases d <;> first | (cases hd; done) | skip
           · cases hv
           · cases hv
           · simp only [dJ, bD] at hv; cases hv
           · rename_i a b c d; simp only [dJ] at hv; cases hq : gP (gM c a) (d.map λ p => (p.1, p.2.1, ev ρ p.2.2)) with
             | none => rw [hq] at hv; cases hv
             | some cs => rw [hq] at hv; cases hv
           · simp only [dJ] at hv; split at hv
             · obtain ⟨_, hv⟩ := bM hv; cases hv
             · cases hv
           · cases hv
           · simp only [dJ, bD] at hv; split at hv <;> cases hv
         · rfl
 unfold aBh pQ; cases guard with
 | none => exact key
 | some x =>
   obtain ⟨p, t⟩ := x; show _ = gB (reg ρ p) t (bCd op dst (reg ρ) h); rw [bQU, <- key]
   rfl
theorem aXU (pre : List DR) (h : H) (x : Option R) : ∀ l : Ln, (bif l.all (nU pre ρ h) then x else none) = reK pre (reg ρ) h x l
 | [] => rfl
 | q :: l => by
   show _ = rK (Option.rec (motive := λ _ => Bool) false (λ g => pQ g (reg ρ) h) (aBq q pre)) (reK pre (reg ρ) h x l)
   rw [<- aXU pre h x l]; have e : nU pre ρ h q = Option.rec (motive := λ _ => Bool) false (λ g => pQ g (reg ρ) h) (aBq q pre) := by
     unfold nU; cases aBq q pre with
     | none => rfl
     | some g => exact bCc g h
   rw [<- e, List.all_cons]; cases nU pre ρ h q <;> rfl
theorem aIv : ∀ (l pre : List DR) (ρ : Tr DV) (h : H) (k : Tr DV -> H -> Option R) (k2 : Rg -> H -> Option R), (∀ ρ h, k ρ h = k2 (reg ρ) h) -> vI E l pre ρ h k = aRf E l pre (reg ρ) h k2
 | [], pre, ρ, h, k, k2, hk => hk ρ h
 | x :: l, pre, ρ, h, k, k2, hk => by
   refine aIw x.g h (λ ρ h => bif x.re.all (nU pre ρ h) then vI E l (x :: pre) ρ h k else none) (λ σ h => reK pre σ h (aRf E l (x :: pre) σ h k2) x.re) λ ρ h => ?_
   rw [<- aIv l (x :: pre) ρ h k k2 hk]; exact aXU pre h _ x.re
theorem aYP : ∀ (d : DC) (ρ : Tr DV) (h : H) (K : KT R) (K2 : iY R), (∀ x ρ h, K x ρ h = K2 x (reg ρ) h) -> wN E d ρ h K = kW E d (reg ρ) h K2 := by
 intro d
 induction d with
 | skip => intro ρ h K K2 hk; exact hk .normal ρ h
 | reg l => intro ρ h K K2 hk; exact aFE l ρ h _ _ λ ρ h => hk .normal ρ h
 | seq a b iha ihb =>
   intro ρ h K K2 hk; refine iha ρ h _ (aCb (λ σ h => kW E b σ h K2) K2) λ x ρ h => ?_
   cases x with
   | normal => exact ihb ρ h K K2 hk
   | exit i => exact hk (.exit i) ρ h
   | ret => exact hk .ret ρ h
 | cond c a b iha ihb =>
   intro ρ h K K2 hk; show aEz c a b (wN E a) (wN E b) ρ h K = bK (e2 (DI.reg ρ) c) (kW E a (DI.reg ρ) h K2) (kW E b (DI.reg ρ) h K2); rw [<- iha ρ h K K2 hk, <- ihb ρ h K K2 hk, aZb]; unfold aEz bK; cases ev ρ c <;> try rfl
   rename_i t; cases t <;> rfl
 | block id a iha =>
   intro ρ h K K2 hk; refine iha ρ h _ (aTL id K2) λ x ρ h => ?_
   cases x with
   | normal => exact hk .normal ρ h
   | exit i =>
     show (bif Nat.beq i id then K .normal ρ h else K (.exit i) ρ h) = Bool.rec (K2 (.exit i) (DI.reg ρ) h) (K2 .normal (DI.reg ρ) h) (Nat.beq i id); cases Nat.beq i id
     · exact hk (.exit i) ρ h
     · exact hk .normal ρ h
   | ret => exact hk .ret ρ h
 | loop a iha =>
   intro ρ h K K2 hk; show aTv (wN E a) K aQ ρ h = wI (kW E a) K2 aQ (DI.reg ρ) h; generalize aQ = n
   induction n generalizing ρ h with
   | zero => rfl
   | succ n ih =>
     refine iha ρ h _ (aCb (wI (kW E a) K2 n) K2) λ x ρ h => ?_
     cases x with
     | normal => exact ih ρ h
     | exit i => exact hk (.exit i) ρ h
     | ret => exact hk .ret ρ h
 | exit id => intro ρ h K K2 hk; exact hk (.exit id) ρ h
 | ret => intro ρ h K K2 hk; exact hk .ret ρ h
 | scope a iha =>
   intro ρ h K K2 hk; refine iha ρ h _ (aSX K2) λ x ρ h => ?_
   cases x with
   | normal => exact hk .normal ρ h
   | exit i =>
     show (bif Nat.blt i 4294967296 then K (.exit i) ρ h else none) = Bool.rec none (K2 (.exit i) (DI.reg ρ) h) (Nat.blt i 4294967296); cases Nat.blt i 4294967296
     · rfl
     · exact hk (.exit i) ρ h
   | ret => exact hk .ret ρ h
 | jump g a r iha ihr =>
   intro ρ h K K2 hk; have jk : ∀ (k : Tr DV -> H -> Option R) (k2 : Rg -> H -> Option R), (∀ ρ h, k ρ h = k2 (DI.reg ρ) h) -> ∀ x ρ h, aNB g k K x ρ h = aCn g k2 K2 x (DI.reg ρ) h := by
     intro k k2 hkk x ρ h; cases x with
     | normal => exact hk .normal ρ h
     | exit i =>
       show (bif Nat.beq i g then k ρ h else bif Nat.blt i 4294967296 then K (.exit i) ρ h else none) = Bool.rec (Bool.rec none (K2 (.exit i) (DI.reg ρ) h) (Nat.blt i 4294967296)) (k2 (DI.reg ρ) h) (Nat.beq i g); cases Nat.beq i g
       · cases Nat.blt i 4294967296
         · rfl
         · exact hk (.exit i) ρ h
       · exact hkk ρ h
     | ret => exact hk .ret ρ h
   have key : ∀ n ρ h, aIl (wN E r) g K n ρ h = aAh (kW E r) g K2 n (DI.reg ρ) h := by
     intro n
     induction n with
     | zero => intro ρ h; rfl
     | succ n ih => intro ρ h; exact ihr ρ h _ (aCn g (aAh (kW E r) g K2 n) K2) (jk _ _ ih)
   exact iha ρ h _ (aCn g (aAh (kW E r) g K2 aQ) K2) (jk _ _ (key aQ))
 | drg l => intro ρ h K K2 hk; exact aIv l [] ρ h _ _ λ ρ h => hk .normal ρ h
 | bad => intro ρ h K K2 hk; rfl
theorem aTb (h : H) : ∀ (l : List RV) (k : List DV -> Option (DV × H)), aXK (reg ρ) h l k = (rL ρ h l).bind k
 | [], k => rfl
 | r :: l, k => by
   show rv2 (reg ρ) h r (λ v => aXK (reg ρ) h l λ vs => k (v :: vs)) = _
   simp only [aTb h l]; have e : ∀ q : DV -> Option (DV × H), rv2 (reg ρ) h r q = (aJt ρ h r).bind q := by
     intro q; cases r with
     | r p => rfl
     | cell p =>
       show vK (aF h.get (ev ρ (.r p))) q = _; rw [bFa]; simp only [aJt, aF, cL]; generalize ev ρ (.r p) = y; cases y <;> rfl
     | cells p n =>
       show vK (aM n h.get (ev ρ (.r p))) q = _; rw [bFa]; simp only [aJt, aM, cM]; generalize ev ρ (.r p) = y; cases y <;> rfl
   rw [e]; simp only [rL]; cases aJt ρ h r with
   | none => rfl
   | some v =>
     simp only [Option.bind_some]; cases rL ρ h l <;> rfl
theorem aVV (E : bJ) (d : DF) (args : List DV) (h : H) : mS E d args h = aQb E d args h := by
 unfold mS aQb; cases Nat.beq args.length d.np with
 | false => rfl
 | true =>
   show wN E d.body (Tr.ofL args) h (retK d.res) = kW E d.body (reg (Tr.ofL args)) h (aTf d.res); refine aYP d.body _ h _ _ λ x ρ h => ?_
   have e : ((rL ρ h d.res).map λ vs => (sS vs, h)) = aXK (reg ρ) h d.res λ vs => some (sS vs, h) := by
     rw [aTb]; cases rL ρ h d.res <;> rfl
   cases x with
   | normal => exact e
   | exit i => rfl
   | ret => exact e
end
section
variable {R : Type}
abbrev bPW (d : WOp) : Rg -> H -> (DV -> H -> Option R) -> Option R :=
 WOp.rec (motive := λ _ => Rg -> H -> (DV -> H -> Option R) -> Option R)
   (λ n a x σ h k => wK (bY n (e2 σ a) (e2 σ x) h) k)
   (λ es bytes x y σ h k => wK (cE es bytes (e2 σ x) (e2 σ y) h) k)
   (λ es x y σ h k => wK (mE es (e2 σ x) (e2 σ y) h) k)
   (λ kt x q y σ h k => wK (aZk kt (e2 σ x) (e2 σ q) (e2 σ y) h) k)
   (λ zs x σ h k => wK (wS zs (e2 σ x) h) k)
   (λ x σ h k => wK (aBE (e2 σ x) h) k)
   (λ es bytes zs x y σ h k => wK (aOs es bytes zs (e2 σ x) (e2 σ y) h) k) d
abbrev bPX (E : bJ) (d : COp) : Rg -> H -> (DV -> H -> Option R) -> Option R :=
 COp.rec (motive := λ _ => Rg -> H -> (DV -> H -> Option R) -> Option R)
   (λ f args σ h k => wK (aE E f (args.map (e2 σ)) h) k)
   (λ f args σ h k => wK (kZ E (e2 σ f) (args.map (e2 σ)) h) k)
   (λ tbl x args σ h k => wK (wX E tbl (e2 σ x) (args.map (e2 σ)) h) k) d
abbrev odo3 (E : bJ) (d : DOp) : Rg -> H -> (DV -> H -> Option R) -> Option R :=
 DOp.rec (motive := λ _ => Rg -> H -> (DV -> H -> Option R) -> Option R) bCl bPW (bPX E) d
abbrev aYN (E : bJ) (g : DG) (σ : Rg) (h : H) (k : Rg -> H -> Option R) : Option R :=
 Option.rec (motive := λ _ => Option R) (odo3 E g.op σ h λ v h => k (aBo g.dst v σ) h)
   (λ x => bR (σ x.1) x.2 (λ kk => odo3 E g.op σ h kk) h λ v h => k (aBo g.dst v σ) h) g.guard
abbrev bCs (E : bJ) (l : List DG) : Rg -> H -> (Rg -> H -> Option R) -> Option R :=
 List.rec (motive := λ _ => Rg -> H -> (Rg -> H -> Option R) -> Option R) (λ σ h k => k σ h) (λ g _ ih σ h k => aYN E g σ h λ σ h => ih σ h k) l
abbrev reK3 (pre : List DR) (σ : Rg) (h : H) (x : Option R) (l : Ln) : Option R :=
 List.rec (motive := λ _ => Option R) x (λ q _ ih => rK (Option.rec (motive := λ _ => Bool) false (λ g => pQ g σ h) (aBq q pre)) ih) l
abbrev bGR (E : bJ) (l : List DR) : List DR -> Rg -> H -> (Rg -> H -> Option R) -> Option R :=
 List.rec (motive := λ _ => List DR -> Rg -> H -> (Rg -> H -> Option R) -> Option R) (λ _ σ h k => k σ h)
   (λ x _ ih pre σ h k => aYN E x.g σ h λ σ h => reK3 pre σ h (ih (x :: pre) σ h k) x.re) l
abbrev cP (k : Rg -> H -> Option R) (K : iY R) : iY R := λ x σ h =>
 DX.rec (motive := λ _ => Option R) (k σ h) (λ id => K (.exit id) σ h) (K .ret σ h) x
abbrev bV (id : Nat) (K : iY R) : iY R := λ x σ h =>
 DX.rec (motive := λ _ => Option R) (K .normal σ h) (λ i => Bool.rec (K (.exit i) σ h) (K .normal σ h) (Nat.beq i id)) (K .ret σ h) x
abbrev aAY (K : iY R) : iY R := λ x σ h =>
 DX.rec (motive := λ _ => Option R) (K .normal σ h) (λ i => Bool.rec none (K (.exit i) σ h) (Nat.blt i 4294967296)) (K .ret σ h) x
abbrev aYt (g : Nat) (k : Rg -> H -> Option R) (K : iY R) : iY R := λ x σ h =>
 DX.rec (motive := λ _ => Option R) (K .normal σ h) (λ i => Bool.rec (Bool.rec none (K (.exit i) σ h) (Nat.blt i 4294967296)) (k σ h) (Nat.beq i g)) (K .ret σ h) x
abbrev mN (E : bJ) (c : DC) : Rg -> H -> iY R -> Option R :=
 DC.rec (motive := λ _ => Rg -> H -> iY R -> Option R)
   (λ σ h K => K .normal σ h)
   (λ l σ h K => bCs E l σ h λ σ h => K .normal σ h)
   (λ _ _ ia ib σ h K => ia σ h (cP (λ σ h => ib σ h K) K))
   (λ c _ _ ia ib σ h K => bK (e2 σ c) (ia σ h K) (ib σ h K))
   (λ id _ ia σ h K => ia σ h (bV id K))
   (λ _ ia σ h K => wI ia K aQ σ h)
   (λ id σ h K => K (.exit id) σ h)
   (λ σ h K => K .ret σ h)
   (λ _ ia σ h K => ia σ h (aAY K))
   (λ l σ h K => bGR E l [] σ h λ σ h => K .normal σ h)
   (λ _ _ _ => none)
   (λ g _ _ ia ir σ h K => ia σ h (aYt g (aAh ir g K aQ) K)) c
end
abbrev rv3 (σ : Rg) (h : H) (r : RV) (k : DV -> Option (DV × H)) : Option (DV × H) :=
 RV.rec (motive := λ _ => Option (DV × H)) (λ p => k (σ p)) (λ p => vK (aF h.get (σ p)) k) (λ p n => vK (aM n h.get (σ p)) k) r
abbrev rvs3 (σ : Rg) (h : H) (l : List RV) : (List DV -> Option (DV × H)) -> Option (DV × H) :=
 List.rec (motive := λ _ => (List DV -> Option (DV × H)) -> Option (DV × H)) (λ k => k []) (λ r _ ih k => rv3 σ h r λ v => ih λ vs => k (v :: vs)) l
abbrev bX (res : List RV) : iY (DV × H) := λ x σ h =>
 DX.rec (motive := λ _ => Option (DV × H)) (rvs3 σ h res λ vs => some (sS vs, h)) (λ _ => none) (rvs3 σ h res λ vs => some (sS vs, h)) x
theorem aYO {R : Type} (E : bJ) (c : DC) (σ : Rg) (h : H) (K : iY R) : mN E c σ h K = kW E c σ h K := by
 induction c generalizing σ h K with
 | skip => rfl
 | reg l => rfl
 | seq a b iha ihb =>
   show mN E a σ h (cP (λ σ h => mN E b σ h K) K) = kW E a σ h (aCb (λ σ h => kW E b σ h K) K)
   rw [iha, show (λ σ h => mN E b σ h K) = λ σ h => kW E b σ h K from funext λ σ => funext λ h => ihb σ h K]
   rfl
 | cond c a b iha ihb =>
   show bK (e2 σ c) (mN E a σ h K) (mN E b σ h K) = bK (e2 σ c) (kW E a σ h K) (kW E b σ h K); rw [iha, ihb]
 | block id a iha => exact iha σ h _
 | loop a iha =>
   have e : mN (R := R) E a = kW E a := funext λ σ => funext λ h => funext λ K => iha σ h K
   show wI (mN E a) K aQ σ h = wI (kW E a) K aQ σ h; rw [e]
 | exit id => rfl
 | ret => rfl
 | scope a iha => exact iha σ h _
 | drg l => rfl
 | bad => rfl
 | jump g a r iha ihr =>
   have e : mN (R := R) E r = kW E r := funext λ σ => funext λ h => funext λ K => ihr σ h K
   show mN E a σ h (aYt g (aAh (mN E r) g K aQ) K) = kW E a σ h (aCn g (aAh (kW E r) g K aQ) K); rw [e, iha]; rfl
def Is {R : Type} (E : bJ) (c : DC) (K : iY R) (S : Rg -> H -> Option R) : Prop := ∀ σ h, mN E c σ h K = S σ h
section
variable {R : Type} {E : bJ} {K : iY R}
theorem Is.leaf (c : DC) : Is E c K λ σ h => mN E c σ h K := λ _ _ => rfl
theorem Is.seq {a b : DC} {Sa Sb : Rg -> H -> Option R} (hb : Is E b K Sb) (ha : Is E a (cP Sb K) Sa) : Is E (.seq a b) K Sa := λ σ h => by
 have e : (λ σ h => mN E b σ h K) = Sb := funext λ σ => funext λ h => hb σ h
 show mN E a σ h (cP (λ σ h => mN E b σ h K) K) = _
 rw [e]; exact ha σ h
theorem Is.block {id : Nat} {a : DC} {Sa : Rg -> H -> Option R} (ha : Is E a (bV id K) Sa) : Is E (.block id a) K Sa := ha
theorem Is.scope {a : DC} {Sa : Rg -> H -> Option R} (ha : Is E a (aAY K) Sa) : Is E (.scope a) K Sa := ha
theorem Is.loop {a : DC} (S : Nat -> Rg -> H -> Option R) (h0 : S 0 = λ _ _ => none) (hs : ∀ n, Is E a (cP (S n) K) (S (n + 1))) : Is E (.loop a) K (S aQ) := by
 have key : ∀ n, wI (mN E a) K n = S n := by
   intro n
   induction n with
   | zero => exact h0.symm
   | succ n ih =>
     funext σ h
     show mN E a σ h (aCb (wI (mN E a) K n) K) = _; rw [ih]; exact hs n σ h
 exact λ σ h => congrFun (congrFun (key aQ) σ) h
theorem Is.as {c : DC} {S T : Rg -> H -> Option R} (h : Is E c K S) (e : ∀ σ m, S σ m = T σ m) : Is E c K T := λ σ m => (h σ m).trans (e σ m)
end
end Go.DI
namespace Go.DI
open Go.RowKit
def a0 {R : Type} (args : List DV) (x : Option R) : Option R := List.rec (motive := λ _ => Option R) x (λ _ _ _ => none) args
def aS {R : Type} (args : List DV) (k : DV -> List DV -> Option R) : Option R := List.rec (motive := λ _ => Option R) none (λ v vs _ => k v vs) args
abbrev aV := Option (DV × H)
theorem Is.fn {E : bJ} {d : DF} {S : Rg -> H -> aV} (h : Is E d.body (bX d.res) S) {np : Nat} (hn : d.np = np) (F : cF) (hF : ∀ args h, args.length = np -> S (reg (Tr.ofL args)) h = F args h) (h0 : ∀ args h, args.length ≠ np -> F args h = none) (args : List DV) (m : H) : mS E d args m = F args m := by
 rw [aVV]; unfold aQb; have e0 : ∀ σ m, kW E d.body σ m (aTf d.res) = S σ m := λ σ m => (aYO E d.body σ m (aTf d.res)).symm.trans (h σ m)
 subst hn; by_cases e : args.length = d.np
 · rw [e, Nat.beq_refl]; exact (e0 _ m).trans (hF args m e)
 · have : Nat.beq args.length d.np = false := by
     cases hb : Nat.beq args.length d.np
     · rfl
     · exact absurd (Nat.eq_of_beq_eq_true hb) e
   rw [this]; exact (h0 args m e).symm
theorem Is.fn0 {E : bJ} {d : DF} {S : Rg -> H -> aV} (h : Is E d.body (bX d.res) S) (hn : d.np = 0) (J : H -> aV) (e : ∀ h, S (reg (Tr.ofL [])) h = J h) (args : List DV) (m : H) : mS E d args m = a0 args (J m) :=
 h.fn hn (λ args h => a0 args (J h)) (λ args h hl => by
   match args, hl with
   | [], _ => exact e h) (λ args h hl => by
   match args, hl with
   | [], hl => exact absurd rfl hl
   | _ :: _, _ => rfl) args m
theorem Is.fn1 {E : bJ} {d : DF} {S : Rg -> H -> aV} (h : Is E d.body (bX d.res) S) (hn : d.np = 1) (J : DV -> H -> aV) (e : ∀ r0 h, S (reg (Tr.ofL [r0])) h = J r0 h) (args : List DV) (m : H) : mS E d args m = (λ args h => aS args λ r0 args => a0 args (J r0 h)) args m :=
 h.fn hn (λ args h => aS args λ r0 args => a0 args (J r0 h)) (λ args h hl => by
   match args, hl with
   | [r0], _ => exact e r0 h) (λ args h hl => by
   match args, hl with
   | [], _ => rfl
   | [r0], hl => exact absurd rfl hl
   | _ :: _ :: _, _ => rfl) args m
theorem Is.fn2 {E : bJ} {d : DF} {S : Rg -> H -> aV} (h : Is E d.body (bX d.res) S) (hn : d.np = 2) (J : DV -> DV -> H -> aV) (e : ∀ r0 r1 h, S (reg (Tr.ofL [r0, r1])) h = J r0 r1 h) (args : List DV) (m : H) : mS E d args m = (λ args h => aS args λ r0 args => aS args λ r1 args => a0 args (J r0 r1 h)) args m :=
 h.fn hn (λ args h => aS args λ r0 args => aS args λ r1 args => a0 args (J r0 r1 h)) (λ args h hl => by
   match args, hl with
   | [r0, r1], _ => exact e r0 r1 h) (λ args h hl => by
   match args, hl with
   | [], _ => rfl
   | [_], _ => rfl
   | [r0, r1], hl => exact absurd rfl hl
   | _ :: _ :: _ :: _, _ => rfl) args m
theorem Is.fn3 {E : bJ} {d : DF} {S : Rg -> H -> aV} (h : Is E d.body (bX d.res) S) (hn : d.np = 3) (J : DV -> DV -> DV -> H -> aV) (e : ∀ r0 r1 r2 h, S (reg (Tr.ofL [r0, r1, r2])) h = J r0 r1 r2 h) (args : List DV) (m : H) : mS E d args m = (λ args h => aS args λ r0 args => aS args λ r1 args => aS args λ r2 args => a0 args (J r0 r1 r2 h)) args m :=
 h.fn hn (λ args h => aS args λ r0 args => aS args λ r1 args => aS args λ r2 args => a0 args (J r0 r1 r2 h)) (λ args h hl => by
   match args, hl with
   | [r0, r1, r2], _ => exact e r0 r1 r2 h) (λ args h hl => by
   match args, hl with
   | [], _ => rfl
   | [_], _ => rfl
   | [_, _], _ => rfl
   | [r0, r1, r2], hl => exact absurd rfl hl
   | _ :: _ :: _ :: _ :: _, _ => rfl) args m
theorem Is.fn4 {E : bJ} {d : DF} {S : Rg -> H -> aV} (h : Is E d.body (bX d.res) S) (hn : d.np = 4) (J : DV -> DV -> DV -> DV -> H -> aV) (e : ∀ r0 r1 r2 r3 h, S (reg (Tr.ofL [r0, r1, r2, r3])) h = J r0 r1 r2 r3 h) (args : List DV) (m : H) : mS E d args m = (λ args h => aS args λ r0 args => aS args λ r1 args => aS args λ r2 args => aS args λ r3 args => a0 args (J r0 r1 r2 r3 h)) args m :=
 h.fn hn (λ args h => aS args λ r0 args => aS args λ r1 args => aS args λ r2 args => aS args λ r3 args => a0 args (J r0 r1 r2 r3 h)) (λ args h hl => by
   match args, hl with
   | [r0, r1, r2, r3], _ => exact e r0 r1 r2 r3 h) (λ args h hl => by
   match args, hl with
   | [], _ => rfl
   | [_], _ => rfl
   | [_, _], _ => rfl
   | [_, _, _], _ => rfl
   | [r0, r1, r2, r3], hl => exact absurd rfl hl
   | _ :: _ :: _ :: _ :: _ :: _, _ => rfl) args m
structure FD where
 f : Nat
 d : DF
 s : bJ -> cF
def xR : List FD -> Prop
 | [] => True
 | x :: l => (∀ E args h, mS E x.d args h = x.s E args h) /\ xR l
theorem xR.mem : ∀ {l : List FD}, xR l -> ∀ x ∈ l, ∀ E args h, mS E x.d args h = x.s E args h
 | y :: l, h, x, hx => by
   rcases List.mem_cons.1 hx with rfl | hx
   · exact h.1
   · exact h.2.mem x hx
theorem xR.append : ∀ {l m : List FD}, xR l -> xR m -> xR (l ++ m)
 | [], _, _, h => h
 | _ :: _, _, h, k => ⟨h.1, h.2.append k⟩
def aFQ (P : Program) (l : List FD) : Bool := l.all λ x => aOB P x.f x.d
theorem aKs {P : Program} {l m : List FD} (h : aFQ P l = true) (k : aFQ P m = true) : aFQ P (l ++ m) = true := by
 unfold aFQ at *; rw [List.all_append, h, k]; rfl
def bCf : List FD -> Tr (bJ -> cF) -> Tr (bJ -> cF)
 | [], t => t
 | x :: l, t => bCf l (Tr.set x.s (Pa.of x.f) t)
theorem aTj : ∀ (l : List FD) (t : Tr (bJ -> cF)) (f : Nat) (s : bJ -> cF), (bCf l t).at_ f = some s -> t.at_ f = some s \/ ∃ x ∈ l, x.f = f /\ x.s = s
 | [], t, f, d, h => .inl h
 | x :: l, t, f, d, h => by
   rcases aTj l _ f d h with h | ⟨y, hy, h⟩
   · have := Tr.at_put t x.f f x.s; unfold Tr.put at this; rw [this] at h; split at h
     · rename_i hh; cases h; exact .inr ⟨x, by simp, hh.symm, rfl⟩
     · exact .inl h
   · exact .inr ⟨y, List.mem_cons_of_mem _ hy, h⟩
def SE (B : bJ) (T : Tr (bJ -> cF)) (n : Nat) : bJ := Nat.rec (motive := λ _ => bJ) (λ _ => none) (λ _ ih f =>
 Option.rec (motive := λ _ => Option cF) (Option.rec (motive := λ _ => Option cF) none (λ s => some (s ih)) (T.at_ f)) some (B f)) n
structure aIM (P : Program) (T : Tr (bJ -> cF)) : Prop where
 ok : ∀ f s, T.at_ f = some s -> lU P f = true /\ ∀ E, lN P E -> gR P f (s E)
theorem bPR {P : Program} {l : List FD} {T : Tr (bJ -> cF)} (hT : bCf l .e = T) (hc : aFQ P l = true) (he : xR l) : aIM P T := by
 refine ⟨λ f s h => ?_⟩
 rw [<- hT] at h; rcases aTj l _ f s h with h | ⟨x, hx, rfl, rfl⟩
 · rw [Tr.at_e] at h; cases h
 · have hk := List.all_eq_true.1 hc x hx; refine ⟨aOD hk, λ E hE => ?_⟩
   have e : x.s E = mS E x.d := funext λ args => funext λ h => (he.mem x hx E args h).symm
   rw [e]; exact aYG hE hk
theorem aUa {P : Program} {B : bJ} {T : Tr (bJ -> cF)} (hB : lN P B) (hT : aIM P T) : ∀ n, lN P (SE B T n)
 | 0 => λ f F hF => by cases hF
 | n + 1 => λ f F hF => by
   replace hF : Option.rec (motive := λ _ => Option cF) (Option.rec (motive := λ _ => Option cF) none (λ s => some (s (SE B T n))) (T.at_ f)) some (B f) = some F := hF
   cases hb : B f with
   | some G => rw [hb] at hF; cases hF; exact hB f F hb
   | none =>
     rw [hb] at hF; cases hs : T.at_ f with
     | none => rw [hs] at hF; cases hF
     | some s =>
       rw [hs] at hF; cases hF; exact ⟨(hT.ok f s hs).1, (hT.ok f s hs).2 _ (aUa hB hT n)⟩
theorem aOC {P : Program} {B : bJ} {T : Tr (bJ -> cF)} {f : FuncId} {s : bJ -> cF} (hB : lN P B) (hT : aIM P T) (hf : T.at_ f = some s) {n : Nat} {args : List DV} {args' : List Value} (hargs : trs (λ _ => none) args = some args')
   (hrun : (s (SE B T n) args H0).map (·.1) = some (.bool true)) (w : World) :
   Calls P f args'.toArray w λ e w' => e = .returned (.bool true) /\ Below w.heap.size w w' := by
 cases hr : s (SE B T n) args H0 with
 | none => rw [hr] at hrun; cases hrun
 | some r =>
   obtain ⟨v, h'⟩ := r; rw [hr] at hrun; simp only [Option.map_some, Option.some.injEq] at hrun; subst hrun; refine ((hT.ok f s hf).2 _ (aUa hB hT n) w.heap.size w _ H0 w args args' _ h' hr hargs (dB.start w)).mono λ e w' hh => ?_
   obtain ⟨m', v', rfl, h2, h3, h4⟩ := hh; rw [kF h2]; exact ⟨rfl, h3.below⟩
end Go.DI
namespace Go.DI
open Go.RowKit
section
variable {R : Type}
@[simp] theorem aA (v : DV) (k : DV -> Option R) : vK (some v) k = k v := id rfl
@[simp] theorem bWu (k : DV -> Option R) : vK none k = none := id rfl
@[simp] theorem aB (v : DV) (h : H) (k : DV -> H -> Option R) : wK (some (v, h)) k = k v h := id rfl
@[simp] theorem bWt (k : DV -> H -> Option R) : wK none k = none := id rfl
@[simp] theorem aD (a b : Option R) : bK (.bool true) a b = a := id rfl
@[simp] theorem aC (a b : Option R) : bK (.bool false) a b = b := id rfl
@[simp] theorem eQ (a : Option R) : rK true a = a := id rfl
@[simp] theorem bWF (v : DV) (vs : List DV) (k : DV -> List DV -> Option R) : aS (v :: vs) k = k v vs := id rfl
@[simp] theorem aS_nil (k : DV -> List DV -> Option R) : aS [] k = none := id rfl
@[simp] theorem a0_nil (x : Option R) : a0 [] x = x := id rfl
@[simp] theorem bWG (v : DV) (vs : List DV) (x : Option R) : a0 (v :: vs) x = none := id rfl
end
theorem dS {a b : Nat} (h : a < b) : Nat.blt a b = true := by rw [Nat.blt_eq]; exact h
theorem cN {E : bJ} {f : Nat} {F : cF} (h : E f = some F) (args : List DV) (m : H) : aE E f args m = F args m := by unfold aE; rw [h]
theorem iU (k : IntKind) : kEq k k = true := by cases k <;> rfl
theorem aBY (k : IntKind) (a b : Int) : bN (.int k a) (.int k b) = some (.int k (k.wrap (a + b))) := by
 show (bif kEq k k then aTX k a b else none) = _; rw [iU]; show jG k (aYw a b) = _; rw [aJU, iW]
theorem aBS (k : IntKind) (a b : Int) : fM (.int k a) (.int k b) = some (.int k (k.wrap (a - b))) := by
 show (bif kEq k k then aTN k a b else none) = _; rw [iU]; show jG k (a - b) = _; rw [iW]
theorem eY (k : IntKind) (a b : Int) : dA (.int k a) (.int k b) = some (.bool (decide (a < b))) := by
 show (bif kEq k k then aTR k a b else none) = _; rw [iU]; show fF (iLt a b) = _; rw [gH, nN]
theorem xW (k : IntKind) (a b : Int) : eI (.int k a) (.int k b) = some (.bool (decide (b < a))) := by
 show (bif kEq k k then aTT k a b else none) = _; rw [iU]; show fF (iLt b a) = _; rw [gH, nN]
theorem aHT (k : IntKind) (a b : Nat) (ha : a < 2 ^ k.bits) (hb : b < 2 ^ k.bits) : aAQ (.int k (.ofNat a)) (.int k (.ofNat b)) = some (.int k (k.wrap (.ofNat (a &&& b)))) := by
 show (bif kEq k k then aTy k (.ofNat a) (.ofNat b) else none) = _; rw [iU]; show (bif Nat.blt a (2 ^ k.bits) && Nat.blt b (2 ^ k.bits) then jG k (.ofNat (Nat.land a b)) else _) = _; rw [dS ha, dS hb]; exact iW _ _
theorem xT (k : IntKind) (a b : Nat) (ha : a < 2 ^ k.bits) (hb : b < 2 ^ k.bits) : aDr (.int k (.ofNat a)) (.int k (.ofNat b)) = some (.int k (k.wrap (.ofNat (a ^^^ b)))) := by
 show (bif kEq k k then aNR k (.ofNat a) (.ofNat b) else none) = _; rw [iU]; show (bif Nat.blt a (2 ^ k.bits) && Nat.blt b (2 ^ k.bits) then jG k (.ofNat (Nat.xor a b)) else _) = _; rw [dS ha, dS hb]; exact iW _ _
theorem aVD (k k' : IntKind) (a b : Nat) (hb : b <= k.bits) : vO (.int k (.ofNat a)) (.int k' (.ofNat b)) = some (.int k (.ofNat (a / 2 ^ b))) := by
 show qQ .shr k (.ofNat a) (.ofNat b) = _; unfold qQ; rw [show iLt (.ofNat b) 0 = false from by rw [nN]; simp]
 simp only [cond_false, pN]; rw [show min (Int.ofNat b).toNat k.bits = b from by simp [Nat.min_eq_left hb]]
 congr 2
 show Int.fdiv (a : Int) (2 ^ b) = ((a / 2 ^ b : Nat) : Int); rw [Int.fdiv_eq_ediv_of_nonneg _ (by exact_mod_cast Nat.zero_le _)]
 simp
theorem kM (k k' : IntKind) (a : Int) : fH k (.int k' a) = some (.int k (k.wrap a)) := iW _ _
theorem aY (s : Ln) : cJ (.str s) = some (.int .i64 (.ofNat s.length)) := by
 simp only [cJ, bD]
theorem mG {s : Ln} {i b : Nat} (h : s[i]? = some b) (k : IntKind) : gY (.str s) (.int k (.ofNat i)) = some (.int .u8 (.ofNat b)) := by
 have hi : i < s.length := by
   rcases Nat.lt_or_ge i s.length with h1 | h1
   · exact h1
   · rw [List.getElem?_eq_none h1] at h; cases h
 simp only [gY, qR]; rw [dS hi, h]; rfl
theorem wrap_i64 {n : Nat} (h : n < 9223372036854775808) : IntKind.i64.wrap (.ofNat n) = .ofNat n := by
 rw [rC] <;> simp only [Int.ofNat_eq_natCast] <;> omega
@[simp] theorem dQ {R : Type} (op : (DV -> H -> Option R) -> Option R) (h : H) (k : DV -> H -> Option R) : bR (.bool false) false op h k = op k := id rfl
@[simp] theorem gT {R : Type} (op : (DV -> H -> Option R) -> Option R) (h : H) (k : DV -> H -> Option R) : bR (.bool true) true op h k = op k := id rfl
@[simp] theorem fL {R : Type} (op : (DV -> H -> Option R) -> Option R) (h : H) (k : DV -> H -> Option R) : bR (.bool true) false op h k = k (.tup []) h := id rfl
@[simp] theorem wJ {R : Type} (op : (DV -> H -> Option R) -> Option R) (h : H) (k : DV -> H -> Option R) : bR (.bool false) true op h k = k (.tup []) h := id rfl
@[simp] theorem bZ (a b : DV) : bE (.bool true) a b = some a := id rfl
@[simp] theorem bT (a b : DV) : bE (.bool false) a b = some b := id rfl
theorem gJ (b : Bool) : oE (.bool b) = some (.bool (!b)) := gH _
theorem aVF (k : IntKind) (a b : Int) : dC (.int k a) (.int k b) = some (.bool (a != b)) := by
 show (bif kEq k k then aTP k a b else none) = _; rw [iU]; show fF (!iEq a b) = _; rw [gH, uQ]; rfl
theorem hH (k : IntKind) (a b : Int) : cG (.int k a) (.int k b) = some (.bool (a == b)) := by
 show (bif kEq k k then aTV k a b else none) = _; rw [iU]; show fF (iEq a b) = _; rw [gH, uQ]
theorem aVH (k : IntKind) (a b : Int) : zM (.int k a) (.int k b) = some (.int k (k.wrap (a * b))) := by
 show (bif kEq k k then aTQ k a b else none) = _; rw [iU]; show jG k (a * b) = _; rw [iW]
def eW (b : Nat) : DV := .int .u8 (.ofNat b)
def bU (s : Ln) : List DV := s.map eW
theorem wZ : ∀ {s : Ln}, bB s = true -> oA (bU s) = some s
 | [], _ => rfl
 | b :: s, h => by
   simp only [bB, Bool.and_eq_true, Nat.blt_eq] at h; have hb : aFT (eW b) = some b := by
     show (bif Nat.blt b 256 then some b else none) = some b; rw [dS h.1]; rfl
   show (match aFT (eW b), oA (bU s) with
     | some b, some bs => some (b :: bs)
     | _, _ => none) = _
   rw [hb, wZ h.2]
theorem sK (s : Ln) : (bU s).all DV.one = true := by
 rw [List.all_eq_true]; intro x hx; obtain ⟨b, _, rfl⟩ := List.mem_map.1 hx
 rfl
theorem mB {rd : Rd} {b : Nat} : ∀ (vs : List DV) (j : Nat), (∀ i v, vs[i]? = some v -> rdCell rd b (j + i) = some v) -> rdCells rd b j vs.length = some vs
 | [], j, _ => rfl
 | v :: vs, j, h => by
   simp only [List.length_cons, rdCells]; have h0 := h 0 v rfl; rw [Nat.add_zero] at h0; rw [h0, mB vs (j + 1) (λ i u hi => by rw [show j + 1 + i = j + (i + 1) from by omega]; exact h (i + 1) u hi)]
theorem rU {h : H} {b o : Nat} {B : Blk} {vs : List DV} (hg : h.get b = some (.blk B)) (hr : B.ro = false) (hl : o + vs.length <= B.n) (h1 : vs.all DV.one = true) :
   ∃ h' t', iH vs h b o = some h' /\ h'.size = h.size /\ (∀ c, c ≠ b -> h'.get c = h.get c) /\ h'.get b = some (.blk { B with t := t' }) /\ ∀ j, t'.at_ j = if o <= j /\ j < o + vs.length then vs[j - o]? else B.t.at_ j := by
 cases vs with
 | nil => exact ⟨h, B.t, rfl, rfl, λ _ _ => rfl, hg, λ j => by rw [if_neg (by simp only [List.length_nil]; omega)]⟩
 | cons v vs =>
   refine ⟨_, aMK (v :: vs) o B.t, by rw [aCu (v :: vs) h b o B hg (by simp), if_pos ⟨by simp [hr], hl, h1⟩], by simp, λ c hc => by rw [H.get_put, if_neg hc], by rw [H.get_put, if_pos rfl], λ j => ?_⟩
   rw [aCd, Tr.at_ofF]
theorem kT {rd : Rd} {b j : Nat} {B : Blk} (h : rd b = some (.blk B)) (hj : j < B.n) : rdCell rd b j = B.t.at_ j := by
 unfold rdCell; rw [h]; simp only []; rw [if_pos hj]
theorem kS {rd rd' : Rd} {b j : Nat} (h : rd' b = rd b) : rdCell rd' b j = rdCell rd b j := by unfold rdCell; rw [h]
theorem gR.or {P : Program} {f : FuncId} {F G : cF} (hF : gR P f F) (hG : gR P f G) : gR P f λ args h => Option.rec (motive := λ _ => Option (DV × H)) (G args h) some (F args h) := by
 intro N0 w0 m h w args args' v h' hr ht hw; cases hf : F args h with
 | some r =>
   have hr' : some r = some (v, h') := by rw [<- hr]; show _ = Option.rec (motive := λ _ => Option (DV × H)) (G args h) some (F args h); rw [hf]
   cases hr'; exact hF N0 w0 m h w args args' v h' hf ht hw
 | none =>
   have hr' : G args h = some (v, h') := by rw [<- hr]; show _ = Option.rec (motive := λ _ => Option (DV × H)) (G args h) some (F args h); rw [hf]
   exact hG N0 w0 m h w args args' v h' hr' ht hw
def aCj (s : Ln) : Bool := List.rec (motive := λ _ => Bool) true (λ b _ ih => bif Nat.blt b 256 then ih else false) s
theorem yC : ∀ s, aCj s = bB s
 | [] => rfl
 | b :: s => by
   show (bif Nat.blt b 256 then aCj s else false) = (Nat.blt b 256 && bB s); rw [yC s]; cases Nat.blt b 256 <;> rfl
end Go.DI
namespace Go.DI
open Go.RowKit
section
variable {P : Program} {N0 : Nat} {w0 : World} {E : bJ}
end
end Go.DI
namespace Go.DI
open Go.RowKit
section
variable {P : Program} {N0 : Nat} {w0 : World} {E : bJ}
section
variable {n : Nat} {ds : List Deferred} {ops : Array Oper} {m0 : Mp} {h0 : H} {σ pfx rest0 : List DR} {x : DR} {res : Tr DV × H} {Q : Exit -> Act -> World -> Prop}
end
end
end Go.DI
namespace Go.DI
open Go.RowKit
section
variable {P : Program} {N0 : Nat} {w0 : World} {E : bJ}
end
section
variable {P : Program} {N0 : Nat} {w0 : World} {E : bJ}
end
end Go.DI
namespace Go.DI
open Go.RowKit
theorem aDC (n : Nat) : bB (List.replicate n 0) = true := by
 rw [fS]; intro b hb; have := List.eq_of_mem_replicate hb; omega
structure zD (b : Nat) (h h' : H) : Prop where
 size : h'.size = h.size
 get : ∀ c, c ≠ b -> h'.get c = h.get c
theorem zD.trans {b : Nat} {x y z : H} (h : zD b x y) (k : zD b y z) : zD b x z := ⟨k.size.trans h.size, λ c hc => (k.get c hc).trans (h.get c hc)⟩
theorem zD.grown {h0 h h' : H} (g : aH h0 h) {b : Nat} (hb : h0.size <= b) (k : zD b h h') : aH h0 h' :=
 ⟨by rw [k.size]; exact g.size, λ i hi => (k.get i (by omega)).trans (g.get i hi)⟩
theorem aFq {R : Type} {h : H} {n : Nat} (hn : n < 140737488355328) (k : DV -> H -> Option R) : vG 1 1 (.int .u8 (.ofNat 0)) (.int .i64 (.ofNat n)) (.int .i64 (.ofNat n)) h k = k (.slc h.size 0 n n false) (h.push (.blk ⟨n, 1, false, true, Tr.full (.int .u8 (.ofNat 0)) 48⟩)) := by
 simp only [vG]; rw [Nat.ble_eq_true_of_le (Nat.le_refl _), dS (show 1 * n < 140737488355328 by omega), dS hn]
 simp only [Bool.and_self, cond_true, H.pushK_eq]
theorem wrap_u8 {n : Nat} (h : n < 256) : IntKind.u8.wrap (.ofNat n) = .ofNat n := by
 rw [IntKind.wrap_u8]; simp only [Int.ofNat_eq_natCast]; omega
theorem aEE (k k' : IntKind) (a b : Nat) : aBT (.int k (.ofNat a)) (.int k' (.ofNat b)) = some (.int k (.ofNat (max a b))) := by
 simp only [aBT, nN]
 congr 2
 by_cases h : a < b
 · rw [show decide (Int.ofNat a < Int.ofNat b) = true from by simp only [Int.ofNat_eq_natCast, decide_eq_true_iff]; omega]
   show Int.ofNat b = _; congr 1; omega
 · rw [show decide (Int.ofNat a < Int.ofNat b) = false from by simp only [Int.ofNat_eq_natCast, decide_eq_false_iff_not]; omega]
   show Int.ofNat a = _; congr 1; omega
theorem aBX {b n c j : Nat} {op : Bool} (hj : j < n) (k : IntKind) : cD 1 (.slc b 0 n c op) (.int k (.ofNat j)) = some (.ptr b j) := by
 simp only [cD, qR, bD]; rw [dS hj]; simp
theorem aYl (a b : Nat) : decide (Int.ofNat a < Int.ofNat b) = decide (a < b) := by
 rw [decide_eq_decide]; simp only [Int.ofNat_eq_natCast]; omega
theorem eZ {i : Nat} (h : i + 1 < 9223372036854775808) : bN (.int .i64 (.ofNat i)) (.int .i64 (.ofNat 1)) = some (.int .i64 (.ofNat (i + 1))) := by
 rw [aBY, show Int.ofNat i + Int.ofNat 1 = Int.ofNat (i + 1) from rfl, wrap_i64 h]
theorem vN {s : Ln} {j : Nat} (h : j <= s.length) (k : IntKind) : iE (.str s) none (some (.int k (.ofNat j))) = some (.str (s.take j)) := by
 simp only [iE, dL, dHi, dLo]; rw [Nat.ble_eq_true_of_le h, cond_true, Nat.ble_eq_true_of_le (Nat.zero_le _), cond_true, iV]; rfl
theorem tP {s : Ln} {j : Nat} (h : j <= s.length) (k : IntKind) : iE (.str s) (some (.int k (.ofNat j))) none = some (.str (s.drop j)) := by
 simp only [iE, dL, dHi, dLo]; rw [Nat.ble_eq_true_of_le (Nat.le_refl _), cond_true, Nat.ble_eq_true_of_le h, cond_true, iV, List.take_length]
theorem gI (s t : Ln) : cG (.str s) (.str t) = some (.bool (s == t)) := by
 show fF (sEq s t) = _; rw [gH, tZ]
theorem cB (k : IntKind) (a b : Nat) : cG (.int k (.ofNat a)) (.int k (.ofNat b)) = some (.bool (decide (a = b))) := by
 rw [hH]; congr 2; rw [Bool.eq_iff_iff, beq_iff_eq, decide_eq_true_iff]; simp only [Int.ofNat_eq_natCast]; omega
end Go.DI
namespace Go.DI
open Go.RowKit
theorem aAg {a b : Nat} (h : a ≠ b) : Nat.beq a b = false := by
 cases hb : Nat.beq a b
 · rfl
 · exact absurd (Nat.eq_of_beq_eq_true hb) h
theorem jC {a b : Nat} (h : ¬ a <= b) : Nat.ble a b = false := by
 cases hb : Nat.ble a b
 · rfl
 · exact absurd (Nat.le_of_ble_eq_true hb) h
def bW (h : H) (b : Nat) (L : List DV) : Prop := b < h.size /\ ∃ pl t, h.get b = some (.blk ⟨L.length, 1, false, pl, t⟩) /\ ∀ j x, L[j]? = some x -> t.at_ j = some x
section
variable {h h' : H} {b : Nat} {L : List DV}
theorem bW.rd (hb : bW h b L) {j : Nat} {x : DV} (hj : L[j]? = some x) : rdCell h.get b j = some x := by
 obtain ⟨hlt, pl, t, h1, h2⟩ := hb; have hjl : j < L.length := by
   rcases Nat.lt_or_ge j L.length with h3 | h3
   · exact h3
   · rw [List.getElem?_eq_none h3] at hj; cases hj
 rw [kT h1 hjl]; exact h2 j x hj
theorem bW.cells (hb : bW h b L) {o k : Nat} (hk : o + k <= L.length) : rdCells h.get b o k = some ((L.drop o).take k) := by
 have hl : ((L.drop o).take k).length = k := by simp; omega
 have := mB (rd := h.get) (b := b) ((L.drop o).take k) o λ i v hi => hb.rd (by
   rw [List.getElem?_take] at hi; split at hi
   · rw [List.getElem?_drop] at hi; exact hi
   · cases hi)
 rw [hl] at this; exact this
theorem bW.cells_all (hb : bW h b L) : rdCells h.get b 0 L.length = some L := by
 have := hb.cells (o := 0) (k := L.length) (by omega)
 simpa using this
theorem bW.but (hb : bW h b L) {c : Nat} (hc : b ≠ c) (k : zD c h h') : bW h' b L := by
 obtain ⟨hlt, pl, t, h1, h2⟩ := hb; exact ⟨by rw [k.size]; exact hlt, pl, t, by rw [k.get b hc]; exact h1, h2⟩
theorem bW.store (hb : bW h b L) {vs : List DV} {o : Nat} (hv : vs.all DV.one = true) (ho : o + vs.length <= L.length) :
   ∃ h', iH vs h b o = some h' /\ bW h' b (L.take o ++ vs ++ L.drop (o + vs.length)) /\ zD b h h' := by
 obtain ⟨hlt, pl, t, h1, h2⟩ := hb; obtain ⟨h', t', f1, f2, f3, f4, f5⟩ := rU (h := h) (b := b) (o := o) (vs := vs) h1 rfl ho hv; have hlen : (L.take o ++ vs ++ L.drop (o + vs.length)).length = L.length := by simp; omega
 refine ⟨h', f1, ⟨by rw [f2]; exact hlt, pl, t', by rw [f4, hlen], λ j x hj => ?_⟩, ⟨f2, f3⟩⟩
 rw [f5]; have ht : (L.take o).length = o := by simp; omega
 by_cases hjo : o <= j /\ j < o + vs.length
 · rw [if_pos hjo]; rw [List.append_assoc, List.getElem?_append_right (by omega), ht, List.getElem?_append_left (by omega)] at hj
   exact hj
 · rw [if_neg hjo]; apply h2; rcases Nat.lt_or_ge j o with hlt | hge
   · rw [List.append_assoc, List.getElem?_append_left (by omega), List.getElem?_take, if_pos hlt] at hj
     exact hj
   · have hge2 : o + vs.length <= j := by
       rcases Nat.lt_or_ge j (o + vs.length) with h3 | h3
       · exact absurd ⟨hge, h3⟩ hjo
       · exact h3
     rw [List.getElem?_append_right (by simp only [List.length_append, ht]; omega), List.length_append, ht, List.getElem?_drop] at hj
     rw [show j = o + vs.length + (j - (o + vs.length)) from by omega]; exact hj
theorem bW.set (hb : bW h b L) {j : Nat} {v : DV} (hv : v.one = true) (hj : j < L.length) :
   ∃ h', bY 1 (.ptr b j) v h = some (.tup [], h') /\ bW h' b (L.set j v) /\ zD b h h' := by
 obtain ⟨h', f1, f2, f3⟩ := hb.store (vs := [v]) (o := j) (by simp [hv]) (by simp; omega)
 refine ⟨h', ?_, ?_, f3⟩
 · rw [aBD]; have hc : v.cells = [v] := by cases v <;> first | rfl | cases hv
   simp only [dSt, hc, List.length_singleton, Nat.beq_refl, cond_true, f1, Option.map_some]
 · have : L.take j ++ [v] ++ L.drop (j + [v].length) = L.set j v := by
     rw [List.set_eq_take_append_cons_drop, if_pos hj]; simp
   rw [<- this]; exact f2
theorem bW.text {s : Ln} (hb : bW h b (bU s)) (hok : bB s = true) (c : Nat) (op : Bool) : nG h.get (.slc b 0 s.length c op) = some (.str s) := by
 have hr := hb.cells_all; have hlen : (bU s).length = s.length := by simp [bU]
 rw [hlen] at hr; simp only [nG, cM, hr, Option.bind_some, wZ hok, iV]
theorem bW.copy_str (hb : bW h b L) {s : Ln} {o n c : Nat} {op : Bool} (hs : s.length <= n) (ho : o + s.length <= L.length) :
   ∃ h', mE 1 (.slc b o n c op) (.str s) h = some (.int .i64 (.ofNat s.length), h') /\ bW h' b (L.take o ++ bU s ++ L.drop (o + s.length)) /\ zD b h h' := by
 have hbl : (bU s).length = s.length := by simp [bU]
 obtain ⟨h', f1, f2, f3⟩ := hb.store (vs := bU s) (o := o) (sK s) (by omega)
 rw [hbl] at f2; refine ⟨h', ?_, f2, f3⟩; rw [aCv]; simp only [aFM, srcLen, bD, Option.bind_some]; rw [Nat.ble_eq_true_of_le hs]; simp only [cond_true, rI, Nat.beq_refl, List.take_length, Option.bind_some]; have : (s.map λ b => DV.int .u8 (.ofNat b)) = bU s := rfl
 rw [this, f1]; rfl
end
theorem bW.pushed {h : H} {L : List DV} {pl : Bool} : bW (h.push (.blk ⟨L.length, 1, false, pl, Tr.ofL L⟩)) h.size L :=
 ⟨by rw [H.size_push]; omega, pl, _, by rw [H.get_push, if_pos rfl], λ j x hj => by rw [Tr.at_ofL]; exact hj⟩
theorem bW.push {h : H} {b : Nat} {L : List DV} (hb : bW h b L) (o : jH) : bW (h.push o) b L := by
 obtain ⟨hlt, pl, t, h1, h2⟩ := hb; exact ⟨by rw [H.size_push]; omega, pl, t, by rw [H.get_push, if_neg (by omega)]; exact h1, h2⟩
theorem bW.made {h : H} {z : DV} {n : Nat} (hn : n < 140737488355328) : bW (h.push (.blk ⟨n, 1, false, true, Tr.full z 48⟩)) h.size (List.replicate n z) := by
 refine ⟨by rw [H.size_push]; omega, true, _, by rw [H.get_push, if_pos rfl, List.length_replicate], λ j x hj => ?_⟩
 have hlt : j < n := by
   rcases Nat.lt_or_ge j n with h3 | h3
   · exact h3
   · rw [List.getElem?_eq_none (by simpa using h3)] at hj; cases hj
 have hx : x = z := by
   rw [List.getElem?_replicate, if_pos hlt] at hj; exact (Option.some.inj hj).symm
 subst hx; exact Tr.at_full _ (by omega)
structure cK (n0 : Nat) (h h' : H) : Prop where
 size : h.size <= h'.size
 get : ∀ c, c < n0 -> h'.get c = h.get c
theorem cK.refl (n0 : Nat) (h : H) : cK n0 h h := ⟨Nat.le_refl _, λ _ _ => rfl⟩
theorem cK.trans {n0 : Nat} {x y z : H} (a : cK n0 x y) (c : cK n0 y z) : cK n0 x z := ⟨Nat.le_trans a.size c.size, λ i hi => (c.get i hi).trans (a.get i hi)⟩
theorem cK.grown {h h' : H} (a : cK h.size h h') : aH h h' := ⟨a.size, a.get⟩
theorem zD.keeps {n0 b : Nat} {h h' : H} (k : zD b h h') (hb : n0 <= b) : cK n0 h h' := ⟨by rw [k.size]; exact Nat.le_refl _, λ c hc => k.get c (by omega)⟩
theorem cK.push {n0 : Nat} {h : H} (hn : n0 <= h.size) (o : jH) : cK n0 h (h.push o) := ⟨by rw [H.size_push]; omega, λ c hc => by rw [H.get_push, if_neg (by omega)]⟩
def bS (n0 : Nat) (h : H) (v : DV) (L : List DV) : Prop := (v = .nils /\ L = []) \/ ∃ b, n0 <= b /\ v = .slc b 0 L.length L.length true /\ bW h b L
theorem bS.nil (n0 : Nat) (h : H) : bS n0 h .nils [] := .inl ⟨rfl, rfl⟩
theorem bS.len {n0 : Nat} {h : H} {v : DV} {L : List DV} (o : bS n0 h v L) : cA v = some (.int .i64 (.ofNat L.length)) := by
 rcases o with ⟨rfl, rfl⟩ | ⟨b, _, rfl, _⟩ <;> rfl
theorem bS.append {n0 : Nat} {h : H} {v x : DV} {L new : List DV} {bytes : Nat} (o : bS n0 h v L) (hn0 : n0 <= h.size) (hl : srcLen x = some new.length) (hc : dR 1 h.get x = some new) (h1 : new.all DV.one = true) (hne : new ≠ [])
   (hs : (L.length + new.length) * bytes < aR) (hs2 : L.length + new.length < aR) : ∃ v' h', cE 1 bytes v x h = some (v', h') /\ bS n0 h' v' (L ++ new) /\ cK n0 h h' := by
 have hpos : 0 < new.length := List.length_pos_iff.2 hne; rcases o with ⟨rfl, rfl⟩ | ⟨b, hb0, rfl, hb⟩
 · refine ⟨.slc h.size 0 new.length new.length true, h.push (.blk ⟨new.length, 1, false, true, Tr.ofL new⟩), ?_, .inr ⟨h.size, hn0, ?_, ?_⟩, cK.push hn0 _⟩
   · rw [eN]; simp only [fR, hl, hc, Option.bind_some]; simp only [List.length_nil, Nat.zero_add] at hs hs2; rw [aAg (show new.length ≠ 0 by omega), dS hs, dS hs2]
     simp only [cond_false, Bool.and_self, cond_true, H.pushK_eq, Nat.mul_one]
   · simp
   · simpa using bW.pushed
 · obtain ⟨hlt, pl, t, g1, g2⟩ := hb; refine ⟨.slc h.size 0 (L.length + new.length) (L.length + new.length) true, (h.push (.blk ⟨(L.length + new.length) * 1, 1, false, false, Tr.ofF new (L.length * 1) t⟩)).put b .dead, ?_, .inr ⟨h.size, hn0, ?_, ?_⟩, ?_⟩
   · rw [eN]; simp only [fR, hl, hc, Option.bind_some, bD]; rw [jC (show ¬ L.length + new.length <= L.length by omega), dS hs, dS hs2]
     simp only [cond_false, Bool.and_self, cond_true, g1, h1, Nat.zero_add, Nat.mul_one, Nat.beq_refl, Bool.not_false, Nat.ble_eq_true_of_le (Nat.le_refl _), aBm, Option.bind_some, H.pushK_eq, H.putK_eq]
   · simp
   · refine ⟨by rw [H.size_put, H.size_push]; omega, false, Tr.ofF new (L.length * 1) t, ?_, λ j x hj => ?_⟩
     · rw [H.get_put, if_neg (by omega), H.get_push, if_pos rfl, List.length_append, Nat.mul_one]
     · rw [Tr.at_ofF, Nat.mul_one]; rcases Nat.lt_or_ge j L.length with hj1 | hj1
       · rw [if_neg (by omega)]
         rw [List.getElem?_append_left hj1] at hj; exact g2 j x hj
       · rw [List.getElem?_append_right hj1] at hj; have : j - L.length < new.length := by
           rcases Nat.lt_or_ge (j - L.length) new.length with h3 | h3
           · exact h3
           · rw [List.getElem?_eq_none h3] at hj; cases hj
         rw [if_pos ⟨hj1, by omega⟩]; exact hj
   · refine ⟨by rw [H.size_put, H.size_push]; omega, λ c hc' => ?_⟩
     rw [H.get_put, if_neg (by omega), H.get_push, if_neg (by omega)]
theorem bS.push1 {n0 : Nat} {h : H} {v x z : DV} {L : List DV} {bytes : Nat} (o : bS n0 h v L) (hn0 : n0 <= h.size) (h1 : x.one = true)
   (hs : (L.length + 1) * bytes < aR) (hs2 : L.length + 1 < aR) : ∃ v' h', (∀ (R : Type) (k : DV -> H -> Option R), (fG 1 1 [z] [(0, 1, x)] h λ y h' => wK (cE 1 bytes v y h') k) = k v' h') /\ bS n0 h' v' (L ++ [x]) /\ cK n0 h h' := by
 let h1' := h.push (.blk ⟨1 * 1, 1, false, true, Tr.ofL [x]⟩)
 have hp : bW h1' h.size [x] := bW.pushed (h := h) (L := [x]) (pl := true); have o' : bS n0 h1' v L := by
   rcases o with ⟨rfl, rfl⟩ | ⟨b, hb0, rfl, hb⟩
   · exact .inl ⟨rfl, rfl⟩
   · exact .inr ⟨b, hb0, rfl, hb.push _⟩
 obtain ⟨v', h', f1, f2, f3⟩ := o'.append (x := .slc h.size 0 1 1 false) (new := [x]) (bytes := bytes) (by show n0 <= (h.push _).size; rw [H.size_push]; omega) rfl
   (by simpa [dR] using hp.cells_all) (by simp [h1]) (by simp) hs hs2
 refine ⟨v', h', λ R k => ?_, f2, (cK.push hn0 _).trans f3⟩
 have hf : gP (gM [z] 1) [(0, 1, x)] = some [x] := by
   have hc : x.cells = [x] := by cases x <;> first | rfl | cases h1
   simp [gP, gM, hc, vD]; rfl
 simp only [fG, hf, Option.bind_some, H.pushK_eq]; show wK (cE 1 bytes v (.slc h.size 0 1 1 false) h1') k = _; rw [f1]; rfl
theorem bS.lt {n0 : Nat} {h : H} {v : DV} {L : List DV} (o : bS n0 h v L) (hL : L ≠ []) : ∃ b, n0 <= b /\ v = .slc b 0 L.length L.length true /\ bW h b L := by
 rcases o with ⟨rfl, rfl⟩ | o
 · exact absurd rfl hL
 · exact o
theorem bS.store1 {n0 : Nat} {h : H} {v x : DV} {L : List DV} {j : Nat} (o : bS n0 h v L) (hj : j < L.length) (hx : x.one = true) (k : IntKind) :
   ∃ b h', cD 1 v (.int k (.ofNat j)) = some (.ptr b j) /\ bY 1 (.ptr b j) x h = some (.tup [], h') /\ bS n0 h' v (L.set j x) /\ cK n0 h h' := by
 obtain ⟨b, hb0, rfl, hb⟩ := o.lt (by intro e; subst e; simp at hj)
 obtain ⟨h', f1, f2, f3⟩ := hb.set hx hj; exact ⟨b, h', aBX hj k, f1, .inr ⟨b, hb0, by simp, f2⟩, f3.keeps hb0⟩
theorem bS.text {n0 : Nat} {h : H} {v : DV} {s : Ln} (o : bS n0 h v (bU s)) (hok : bB s = true) : nG h.get v = some (.str s) := by
 have hl : (bU s).length = s.length := by simp [bU]
 rcases o with ⟨rfl, e⟩ | ⟨b, _, rfl, hb⟩
 · have : s = [] := by
     cases s with
     | nil => rfl
     | cons _ _ => cases e
   subst this; rfl
 · rw [hl]; exact hb.text hok _ _
theorem bS.s2b {n0 : Nat} {h : H} (hn0 : n0 <= h.size) (s : Ln) : ∃ v' h', (∀ (R : Type) (k : DV -> H -> Option R), aIj (.str s) h k = k v' h') /\ bS n0 h' v' (bU s) /\ cK n0 h h' /\ v' ≠ .nils := by
 have hl : (bU s).length = s.length := by simp [bU]
 refine ⟨.slc h.size 0 s.length s.length true, h.push (.blk ⟨s.length, 1, false, false, Tr.ofL (bU s)⟩), λ R k => ?_, .inr ⟨h.size, hn0, by rw [hl], ?_⟩, cK.push hn0 _, by simp⟩
 · simp only [aIj, bD, H.pushK_eq]; rfl
 · have := bW.pushed (h := h) (L := bU s) (pl := false); rw [hl] at this; exact this
def gO (s : Ln) (n : Nat) : Ln := s ++ List.replicate (n - s.length) 0
def zG (s : Ln) (at_ : Nat) (t : Ln) : Ln := (gO s (max s.length (at_ + t.length))).take at_ ++ t ++ (gO s (max s.length (at_ + t.length))).drop (at_ + t.length)
theorem lI {s : Ln} {n : Nat} (h : s.length <= n) : (gO s n).length = n := by unfold gO; simp; omega
theorem rP (s t : Ln) (at_ : Nat) : (zG s at_ t).length = max s.length (at_ + t.length) := by
 have := lI (s := s) (n := max s.length (at_ + t.length)) (by omega)
 unfold zG; simp only [List.length_append, List.length_take, List.length_drop, this]; omega
theorem wF {s : Ln} (h : bB s = true) (n : Nat) : bB (gO s n) = true := cI h (aDC _)
theorem aAd {s : Ln} (h : bB s = true) (n : Nat) : bB (s.take n) = true := by
 rw [fS] at h ⊢; intro b hb; exact h b (List.mem_of_mem_take hb)
theorem aAe {s : Ln} (h : bB s = true) (n : Nat) : bB (s.drop n) = true := by
 rw [fS] at h ⊢; intro b hb; exact h b (List.mem_of_mem_drop hb)
theorem aFh {s t : Ln} (hs : bB s = true) (ht : bB t = true) (a : Nat) : bB (zG s a t) = true :=
 cI (cI (aAd (wF hs _) _) ht) (aAe (wF hs _) _)
theorem eK (s t : Ln) : bU (s ++ t) = bU s ++ bU t := by simp [bU]
theorem aOE (s : Ln) (n : Nat) : bU (s.take n) = (bU s).take n := by simp [bU, List.map_take]
theorem aOF (s : Ln) (n : Nat) : bU (s.drop n) = (bU s).drop n := by simp [bU, List.map_drop]
theorem cC (s : Ln) : (bU s).length = s.length := by simp [bU]
theorem aBF (n : Nat) : bU (List.replicate n 0) = List.replicate n (eW 0) := by simp [bU]
theorem aRr (s : Ln) (j x : Nat) : bU (s.set j x) = (bU s).set j (eW x) := by simp [bU, List.map_set]
theorem cW (k : IntKind) (a b : Nat) : eI (.int k (.ofNat a)) (.int k (.ofNat b)) = some (.bool (decide (b < a))) := by rw [xW, aYl]
theorem aP (k : IntKind) (a b : Nat) : dA (.int k (.ofNat a)) (.int k (.ofNat b)) = some (.bool (decide (a < b))) := by rw [eY, aYl]
theorem fY {a b : Nat} (h : b <= a) (ha : a < 9223372036854775808) : fM (.int .i64 (.ofNat a)) (.int .i64 (.ofNat b)) = some (.int .i64 (.ofNat (a - b))) := by
 rw [aBS, show Int.ofNat a - Int.ofNat b = Int.ofNat (a - b) from by simp only [Int.ofNat_eq_natCast]; omega, wrap_i64 (by omega)]
theorem bO {a b : Nat} (h : a + b < 9223372036854775808) : bN (.int .i64 (.ofNat a)) (.int .i64 (.ofNat b)) = some (.int .i64 (.ofNat (a + b))) := by
 rw [aBY, show Int.ofNat a + Int.ofNat b = Int.ofNat (a + b) from rfl, wrap_i64 h]
theorem aBV (k : IntKind) {a : Int} (h : a < 0) : dA (.int k a) (.int k (.ofNat 0)) = some (.bool true) := by
 rw [eY]; simp [h]
theorem aPD {b o n : Nat} {op : Bool} {j : Nat} (h : j <= n) (k : IntKind) : dU 1 (.slc b o n n op) (some (.int k (.ofNat j))) none = some (if j < n then .slc b (o + j) (n - j) (n - j) op else if op then .slE b o (o + j) else .slc b o 0 0 false) := by
 simp only [dU, dL, dHi, dLo]; rw [Nat.ble_eq_true_of_le (Nat.le_refl n), cond_true, Nat.ble_eq_true_of_le h, cond_true]; simp only [bD, Nat.mul_one]; by_cases hj : j < n
 · rw [dS hj, if_pos hj]; rfl
 · rw [if_neg hj, show Nat.blt j n = false from jC (by omega)]
   cases op <;> rfl
def aGr : cF := λ args h => match args with
 | [] => some (.bool true, h)
 | _ => none
theorem aPM {P : Program} {B : bJ} {T : Tr (bJ -> cF)} {f : FuncId} {s : bJ -> cF} (hB : lN P B) (hT : aIM P T) (hf : T.at_ f = some s) {n : Nat} (hrun : (s (SE B T n) [] H0).map (·.1) = some (.bool true)) : gR P f aGr := by
 refine aMI λ args hh v h' hr => ?_
 unfold aGr at hr; split at hr
 · cases hr; refine ⟨rfl, λ m args' w ht => ?_⟩
   simp only [trs, Option.some.injEq] at ht; subst ht; exact ⟨.bool true, rfl, (aOC hB hT hf (args := []) (args' := []) rfl hrun w)⟩
 · cases hr
def cU (l : List (Ln)) : List DV := l.map DV.str
theorem strsV_append (a b : List (Ln)) : cU (a ++ b) = cU a ++ cU b := by simp [cU]
theorem bH (l : List (Ln)) : (cU l).length = l.length := by simp [cU]
theorem kC {l : List (Ln)} {j : Nat} {s : Ln} (h : l[j]? = some s) : (cU l)[j]? = some (.str s) := by simp [cU, h]
theorem bS.keep {n0 n1 : Nat} {h h' : H} {v : DV} {L : List DV} (o : bS n0 h v L) (k : cK n1 h h') (hn : h.size <= n1) : bS n0 h' v L := by
 rcases o with o | ⟨b, hb, e, hlt, pl, t, g1, g2⟩
 · exact .inl o
 · exact .inr ⟨b, hb, e, Nat.lt_of_lt_of_le hlt k.size, pl, t, by rw [k.get b (by omega)]; exact g1, g2⟩
theorem bS.mono {n0 n1 : Nat} {h : H} {v : DV} {L : List DV} (o : bS n0 h v L) (hn : n1 <= n0) : bS n1 h v L := by
 rcases o with o | ⟨b, hb, e⟩
 · exact .inl o
 · exact .inr ⟨b, by omega, e⟩
theorem fD {s t : Ln} (h : s.length + t.length < fQ) : bN (.str s) (.str t) = some (.str (s ++ t)) := by
 show (bif Nat.blt (s.length + t.length) fQ then zI (s ++ t) else none) = _; rw [dS h, iV]; rfl
theorem aQx (n : Nat) : gM [0] n = List.replicate n 0 := by
 induction n with
 | zero => rfl
 | succ n ih => rw [List.replicate_succ, <- ih]; rfl
theorem aLU (n : Nat) (hn : n <= 140737488355328) (h : H) : tI [.str [0], .int .i64 (.ofNat n)] h = some (.str (List.replicate n 0), h) := by
 show (bif Nat.ble n 9223372036854775807 && Nat.ble (([0] : Ln).length * n) 140737488355328 then (zI (gM [0] n)).map λ v => (v, h) else none) = _
 rw [Nat.ble_eq_true_of_le (by omega), Nat.ble_eq_true_of_le (by simp; omega), iV, aQx]; rfl
end Go.DI
namespace Go.DI
open Go.RowKit
theorem mI {α : Type} {l : List α} {j : Nat} {x : α} (h : l[j]? = some x) : j < l.length := by
 rcases Nat.lt_or_ge j l.length with h1 | h1
 · exact h1
 · rw [List.getElem?_eq_none h1] at h; cases h
def dE (h : H) (v : DV) (L : List DV) : Prop :=
 (L = [] /\ (v = .nils \/ ∃ b o o2, v = .slE b o o2)) \/ ∃ b o c op, v = .slc b o L.length c op /\ L.length <= c /\ b < h.size /\ ∀ j x, L[j]? = some x -> rdCell h.get b (o + j) = some x
section
variable {h h' : H} {v : DV} {L : List DV}
theorem dE.nil (h : H) : dE h .nils [] := .inl ⟨rfl, .inl rfl⟩
theorem dE.len (r : dE h v L) : cA v = some (.int .i64 (.ofNat L.length)) := by
 rcases r with ⟨rfl, rfl | ⟨b, o, o2, rfl⟩⟩ | ⟨b, o, c, op, rfl, _⟩ <;> rfl
theorem dE.grown (r : dE h v L) (g : aH h h') : dE h' v L := by
 rcases r with r | ⟨b, o, c, op, e, hc, hb, hx⟩
 · exact .inl r
 · exact .inr ⟨b, o, c, op, e, hc, Nat.lt_of_lt_of_le hb g.size, λ j x hj => by rw [kS (g.get b hb)]; exact hx j x hj⟩
theorem aXq {b o n c j : Nat} {op : Bool} (hj : j < n) (k : IntKind) : cD 1 (.slc b o n c op) (.int k (.ofNat j)) = some (.ptr b (o + j)) := by
 simp only [cD, qR, bD]; rw [dS hj]; simp
theorem dE.at (r : dE h v L) {j : Nat} {x : DV} (hj : L[j]? = some x) (k : IntKind) : ∃ b o, cD 1 v (.int k (.ofNat j)) = some (.ptr b o) /\ aF h.get (.ptr b o) = some x := by
 rcases r with ⟨rfl, _⟩ | ⟨b, o, c, op, rfl, _, _, hx⟩
 · cases hj
 · exact ⟨b, o + j, aXq (mI hj) k, by simp only [aF, cL]; exact hx j x hj⟩
theorem dE.srcLen (r : dE h v L) : srcLen v = some L.length := by
 rcases r with ⟨rfl, rfl | ⟨b, o, o2, rfl⟩⟩ | ⟨b, o, c, op, rfl, _⟩ <;> rfl
theorem dE.src (r : dE h v L) : dR 1 h.get v = some L := by
 rcases r with ⟨rfl, rfl | ⟨b, o, o2, rfl⟩⟩ | ⟨b, o, c, op, rfl, _, _, hx⟩
 · rfl
 · rfl
 · simp only [dR, Nat.mul_one]; exact mB L o hx
theorem dE.cut (r : dE h v L) {l m : Nat} (hlm : l <= m) (hm : m <= L.length) (k k' : IntKind) :
   ∃ v', dU 1 v (some (.int k (.ofNat l))) (some (.int k' (.ofNat m))) = some v' /\ dE h v' ((L.take m).drop l) := by
 rcases r with ⟨rfl, hv⟩ | ⟨b, o, c, op, rfl, hc, hb, hx⟩
 · have h0 : m = 0 := by simpa using hm
   subst h0; have h1 : l = 0 := by omega
   subst h1; rcases hv with rfl | ⟨b, o, o2, rfl⟩
   · exact ⟨.nils, rfl, by simpa using dE.nil h⟩
   · exact ⟨.slE b o o2, rfl, .inl ⟨by simp, .inr ⟨b, o, o2, rfl⟩⟩⟩
 · simp only [dU, dL, dHi, dLo]; rw [Nat.ble_eq_true_of_le (show m <= c by omega), cond_true, Nat.ble_eq_true_of_le hlm, cond_true]
   simp only [bD, Nat.mul_one]; have hlen : ((L.take m).drop l).length = m - l := by simp; omega
   by_cases hl : l < c
   · rw [dS hl, cond_true]; refine ⟨_, rfl, .inr ⟨b, o + l, c - l, op, by rw [hlen], by rw [hlen]; omega, hb, λ j x hj => ?_⟩⟩
     rw [List.getElem?_drop, List.getElem?_take] at hj; split at hj
     · rw [Nat.add_assoc]; exact hx _ _ hj
     · cases hj
   · have hl2 : l = m := by omega
     have he : (L.take m).drop l = [] := List.eq_nil_of_length_eq_zero (by omega)
     rw [show Nat.blt l c = false from jC (by omega), cond_false, he]
     cases op
     · exact ⟨_, rfl, .inr ⟨b, o, 0, false, rfl, Nat.le_refl _, hb, λ j x hj => by cases hj⟩⟩
     · exact ⟨_, rfl, .inl ⟨rfl, .inr ⟨b, o, _, rfl⟩⟩⟩
theorem dE.cutTo (r : dE h v L) {m : Nat} (hm : m <= L.length) (k : IntKind) : ∃ v', dU 1 v none (some (.int k (.ofNat m))) = some v' /\ dE h v' (L.take m) := by
 obtain ⟨v', e, r'⟩ := r.cut (l := 0) (Nat.zero_le m) hm .i64 k; exact ⟨v', by rw [<- e]; cases v <;> rfl, by simpa using r'⟩
end
theorem bW.row {h : H} {b : Nat} {L : List DV} (hb : bW h b L) (op : Bool) : dE h (.slc b 0 L.length L.length op) L :=
 .inr ⟨b, 0, _, op, rfl, Nat.le_refl _, hb.1, λ j x hj => by rw [Nat.zero_add]; exact hb.rd hj⟩
theorem bS.row {n0 : Nat} {h : H} {v : DV} {L : List DV} (o : bS n0 h v L) : dE h v L := by
 rcases o with ⟨rfl, rfl⟩ | ⟨b, hb0, rfl, hb⟩
 · exact dE.nil h
 · exact hb.row true
theorem calls_true3 {P : Program} {B : bJ} {T : Tr (bJ -> cF)} {f : FuncId} {s : bJ -> cF} (hB : lN P B) (hT : aIM P T) (hf : T.at_ f = some s) {n : Nat} {args : List DV} {args' : List Value} {m : Mp} {h : H} {w : World} (hw : dB w.heap.size w m h w) (hargs : trs m args = some args')
   (hrun : (s (SE B T n) args h).map (·.1) = some (.bool true)) :
   Calls P f args'.toArray w λ e w' => e = .returned (.bool true) /\ Below w.heap.size w w' := by
 cases hr : s (SE B T n) args h with
 | none => rw [hr] at hrun; cases hrun
 | some r =>
   obtain ⟨v, h'⟩ := r; rw [hr] at hrun; simp only [Option.map_some, Option.some.injEq] at hrun; subst hrun; refine ((hT.ok f s hf).2 _ (aUa hB hT n) w.heap.size w m h w args args' _ h' hr hargs hw).mono λ e w' hh => ?_
   obtain ⟨m', v', rfl, h2, h3, h4⟩ := hh; rw [kF h2]; exact ⟨rfl, h3.below⟩
def bBt (CL : List DV) : H := H0.push (.blk ⟨CL.length, 1, true, false, Tr.ofL CL⟩)
theorem zC (CL : List DV) : (bBt CL).size = 1 := rfl
theorem aPa (CL : List DV) : (bBt CL).get 0 = some (.blk ⟨CL.length, 1, true, false, Tr.ofL CL⟩) := by
 unfold bBt; rw [H.get_push]; rfl
theorem dB.startRow {w : World} {a : Addr} {len cap : Nat} {CL : List DV} {t : TypeId} {k : Nat} (ha : a.spot = none) (hs : w.shape? a.block = some (t, k)) (hlen : CL.length = 0 -> len = 0)
   (hc : ∀ j x, CL[j]? = some x -> ∃ v', tr (λ _ => none) x = some v' /\ w.cell? (a.add j) = some v') :
   ∃ m o, dB w.heap.size w m (bBt CL) w /\ tr m (.slc 0 o len cap false) = some (.slice (some a) len cap) /\ (CL ≠ [] -> o = 0) := by
 unfold World.shape? at hs; split at hs
 rotate_left
 · cases hs
 rename_i c el fr hh; have hlt : a.block < w.heap.size := by
   rcases Nat.lt_or_ge a.block w.heap.size with h1 | h1
   · exact h1
   · rw [Array.getElem?_eq_none (by simpa using h1)] at hh; cases hh
 obtain ⟨ab, ao, as⟩ := a; simp only [] at ha hh hlt; subst ha; have cellAt : ∀ j, w.cell? ((⟨ab, ao, none⟩ : Addr).add j) = c[ao + j]? := λ j => by
   rw [iX]; simp [World.cell?, hh]
 let i : tH := if CL = [] then ⟨ab, c.size, 0⟩ else ⟨ab, c.size - ao - CL.length, ao⟩
 let m : Mp := λ b => if b = 0 then some i else none
 have hir : i.r = ab := by by_cases h0 : CL = [] <;> simp [i, h0]
 have m_some : ∀ {b j}, m b = some j -> b = 0 /\ j = i := by
   intro b j e; simp only [m] at e; split at e
   · rename_i h0; cases e; exact ⟨h0, rfl⟩
   · cases e
 have mle : Mp.le (λ _ => none) m := λ _ _ e => by cases e
 refine ⟨m, if CL = [] then ao else 0, ?_, ?_, λ h => by rw [if_neg h]⟩
 · refine ⟨λ b j e => ?_, λ b j e => ?_, λ b b' j j' o o' e e' _ _ _ _ _ => ?_, Below.refl _ _, Nat.le_refl _, λ b hb => ?_⟩
   · obtain ⟨rfl, rfl⟩ := m_some e; exact ⟨by rw [zC]; omega, by rw [hir]; exact hlt⟩
   · obtain ⟨rfl, rfl⟩ := m_some e; refine ⟨_, aPa CL, ⟨⟨c, el, fr, by rw [hir]; exact hh, ?_, λ j hj => ?_⟩, (λ h => nomatch h), (λ h => nomatch h)⟩, (λ h => nomatch h)⟩
     · by_cases h0 : CL = []
       · simp [i, h0]
       · have hpos : 0 < CL.length := List.length_pos_iff.2 h0; obtain ⟨v', _, h2⟩ := hc (CL.length - 1) _ (List.getElem?_eq_getElem (by omega))
         rw [cellAt] at h2; have hlt2 : ao + (CL.length - 1) < c.size := by
           rcases Nat.lt_or_ge (ao + (CL.length - 1)) c.size with h3 | h3
           · exact h3
           · rw [Array.getElem?_eq_none (by simpa using h3)] at h2; cases h2
         simp only [i, h0, if_false]; omega
     · simp only [] at hj; have h0 : CL ≠ [] := by intro h0; subst h0; simp at hj
       obtain ⟨v', h1, h2⟩ := hc j _ (List.getElem?_eq_getElem hj); refine .inl ⟨_, v', by rw [Tr.at_ofL]; exact List.getElem?_eq_getElem hj, fO mle _ _ h1, ?_⟩
       rw [cellAt] at h2; simp only [i, h0, if_false]; exact h2
   · rw [(m_some e).1, (m_some e').1]
   · rw [zC] at hb; unfold bBt; rw [H.get_push, if_neg (show b ≠ H0.size from by show b ≠ 0; omega)]
     exact Tr.at_e b
 · simp only [tr, m, if_true]; by_cases h0 : CL = []
   · simp [i, h0]
   · simp [i, h0]
theorem aVE {a b : Nat} (hb : 0 < b) (ha : a < 9223372036854775808) : aSJ (.int .i64 (.ofNat a)) (.int .i64 (.ofNat b)) = some (.int .i64 (.ofNat (a / b))) := by
 show (bif kEq .i64 .i64 then aTO .i64 (.ofNat a) (.ofNat b) else none) = _; rw [iU]; show (bif iEq (.ofNat b) 0 then none else jG .i64 ((Int.ofNat a).tdiv (.ofNat b))) = _; rw [uQ, show ((Int.ofNat b) == 0) = false from by simp; omega, cond_false, iW]
 rw [show (Int.ofNat a).tdiv (.ofNat b) = .ofNat (a / b) from rfl, wrap_i64 (by have := Nat.div_le_self a b; omega)]
theorem aHS (k : IntKind) (a b : Int) : oG (.int k a) (.int k b) = some (.bool (decide (b <= a))) := by
 show (bif kEq k k then aTU k a b else none) = _; rw [iU]; show fF (iLe b a) = _; rw [gH, aQS]
theorem aBW (k : IntKind) (a b : Int) : aEF (.int k a) (.int k b) = some (.bool (decide (a <= b))) := by
 show (bif kEq k k then aTS k a b else none) = _; rw [iU]; show fF (iLe a b) = _; rw [gH, aQS]
theorem aJS (a b : Nat) : decide (Int.ofNat a <= Int.ofNat b) = decide (a <= b) := by
 rw [decide_eq_decide]; simp only [Int.ofNat_eq_natCast]; omega
theorem fZ (k : IntKind) (a b : Nat) : oG (.int k (.ofNat a)) (.int k (.ofNat b)) = some (.bool (decide (b <= a))) := by rw [aHS, aJS]
theorem xV (k : IntKind) (a b : Nat) : aEF (.int k (.ofNat a)) (.int k (.ofNat b)) = some (.bool (decide (a <= b))) := by rw [aBW, aJS]
theorem aAR (n : Int) : IntKind.u64.wrap n = n % 18446744073709551616 := by simp [IntKind.wrap, IntKind.bits, IntKind.signed]
theorem pX {n : Nat} (h : n < 18446744073709551616) : IntKind.u64.wrap (.ofNat n) = .ofNat n := by
 rw [aAR]; simp only [Int.ofNat_eq_natCast]; omega
theorem qD (l : List (Ln)) (n : Nat) : (cU l).take n = cU (l.take n) := by simp [cU, List.map_take]
theorem aVP (l : List (Ln)) : (cU l).all DV.one = true := by
 rw [List.all_eq_true]; intro x hx; obtain ⟨s, _, rfl⟩ := List.mem_map.1 hx; rfl
theorem aH.keeps {h h' : H} (g : aH h h') {n : Nat} (hn : n <= h.size) : cK n h h' := ⟨g.size, λ c hc => g.get c (by omega)⟩
end Go.DI
namespace Go.DI
open Go.RowKit
theorem Trod_lt {H : Type} {enc : TypeId × Value -> H} {P : Program} {W : World} {base : Nat} {sp : Nat -> Bool} {held : Bool} {t : TypeId} {v : Value} {d : DataW H} {ps : List MemPlace} (h : DataW.Trod enc P W base sp held t v d ps) : ∀ x ∈ ps, x.block < W.heap.size := λ x hx => by
 obtain ⟨n, e⟩ := h; exact DataW.trod_lt n _ _ _ e x hx
theorem tr_str_any (m : Mp) (s : ByteArray) : tr m (.str (aQN s)) = some (.string s) := by simp [tr, toBA_ofBA, okStr_ofBA]
end Go.DI
namespace Go.DI
open Go.RowKit
def fV (n0 : Nat) (h : H) (v : DV) (L : List DV) : Prop := (v = .nils /\ L = []) \/
 ∃ b c pl t, n0 <= b /\ b < h.size /\ v = .slc b 0 L.length c true /\ L.length <= c /\ 0 < c /\ h.get b = some (.blk ⟨c, 1, false, pl, t⟩) /\ ∀ j x, L[j]? = some x -> t.at_ j = some x
theorem fV.nil (n0 : Nat) (h : H) : fV n0 h .nils [] := .inl ⟨rfl, rfl⟩
section
variable {n0 : Nat} {h h' : H} {v : DV} {L : List DV}
theorem fV.row (g : fV n0 h v L) : dE h v L := by
 rcases g with ⟨rfl, rfl⟩ | ⟨b, c, pl, t, hb0, hb, rfl, hc, hc0, hg, ht⟩
 · exact dE.nil h
 · exact .inr ⟨b, 0, c, true, rfl, hc, hb, λ j x hj => by rw [Nat.zero_add, kT hg (Nat.lt_of_lt_of_le (mI hj) hc)]; exact ht j x hj⟩
theorem fV.keep {n1 : Nat} (g : fV n0 h v L) (k : cK n1 h h') (hn : h.size <= n1) : fV n0 h' v L := by
 rcases g with g | ⟨b, c, pl, t, hb0, hb, e, hc, hc0, hg, ht⟩
 · exact .inl g
 · exact .inr ⟨b, c, pl, t, hb0, Nat.lt_of_lt_of_le hb k.size, e, hc, hc0, by rw [k.get b (by omega)]; exact hg, ht⟩
theorem fV.cut (g : fV n0 h v L) {m : Nat} (hm : m <= L.length) (k : IntKind) : ∃ v', dU 1 v none (some (.int k (.ofNat m))) = some v' /\ fV n0 h v' (L.take m) := by
 rcases g with ⟨rfl, rfl⟩ | ⟨b, c, pl, t, hb0, hb, rfl, hc, hc0, hg, ht⟩
 · have : m = 0 := by simpa using hm
   subst this; exact ⟨.nils, rfl, by simpa using fV.nil n0 h⟩
 · refine ⟨.slc b 0 m c true, ?_, .inr ⟨b, c, pl, t, hb0, hb, by simp; omega, by simp; omega, hc0, hg, λ j x hj => ?_⟩⟩
   · simp only [dU, dL, dHi, dLo]; rw [Nat.ble_eq_true_of_le (show m <= c by omega), cond_true, Nat.ble_eq_true_of_le (Nat.zero_le _), cond_true, dS hc0, cond_true]
     simp [bD]
   · rw [List.getElem?_take] at hj; split at hj
     · exact ht j x hj
     · cases hj
theorem fV.appendRow {x : DV} {new : List DV} {bytes : Nat} (g : fV n0 h v L) (hn0 : n0 <= h.size) (r : dE h x new) (h1 : new.all DV.one = true)
   (hs : (L.length + new.length) * bytes < aR) (hs2 : L.length + new.length < aR) : ∃ v' h', cE 1 bytes v x h = some (v', h') /\ fV n0 h' v' (L ++ new) /\ cK n0 h h' := by
 rcases g with ⟨rfl, rfl⟩ | ⟨b, c, pl, t, hb0, hb, rfl, hc, hc0, hg, ht⟩
 · by_cases hne : new = []
   · subst hne; refine ⟨.nils, h, ?_, fV.nil _ _, cK.refl _ _⟩; rw [eN]; simp only [fR, r.srcLen, r.src, Option.bind_some, List.length_nil]; rfl
   · have hpos : 0 < new.length := List.length_pos_iff.2 hne; refine ⟨.slc h.size 0 new.length new.length true, h.push (.blk ⟨new.length, 1, false, true, Tr.ofL new⟩), ?_, .inr ⟨h.size, new.length, true, Tr.ofL new, hn0, by simp, by simp, by simp, hpos, by rw [H.get_push, if_pos rfl], λ j y hj => by rw [Tr.at_ofL]; exact hj⟩, cK.push hn0 _⟩
     rw [eN]; simp only [fR, r.srcLen, r.src, Option.bind_some]; simp only [List.length_nil, Nat.zero_add] at hs hs2; rw [aAg (show new.length ≠ 0 by omega), dS hs, dS hs2]
     simp only [cond_false, Bool.and_self, cond_true, H.pushK_eq, Nat.mul_one]
 · rw [eN]; simp only [fR, r.srcLen, r.src, Option.bind_some, bD, Nat.zero_add, Nat.mul_one]; by_cases hfit : L.length + new.length <= c
   · rw [Nat.ble_eq_true_of_le hfit, cond_true]; obtain ⟨h1', t', f1, f2, f3, f4, f5⟩ := rU (h := h) (b := b) (o := L.length) (vs := new) hg rfl hfit h1; refine ⟨_, h1', by rw [f1]; rfl, .inr ⟨b, c, pl, t', hb0, by rw [f2]; exact hb, by simp, by simpa using hfit, hc0, f4, λ j y hj => ?_⟩, ⟨by rw [f2]; exact Nat.le_refl _, λ d hd => f3 d (by omega)⟩⟩
     rw [f5]; rcases Nat.lt_or_ge j L.length with h2 | h2
     · rw [if_neg (by omega)]
       rw [List.getElem?_append_left h2] at hj; exact ht j y hj
     · rw [List.getElem?_append_right h2] at hj; have := mI hj; rw [if_pos ⟨h2, by omega⟩]; exact hj
   · rw [jC hfit, cond_false, dS hs, dS hs2]; simp only [Bool.and_self, cond_true, hg, Nat.beq_refl, h1, Nat.ble_eq_true_of_le hc, Bool.not_false, aBm, Nat.mul_one, Option.bind_some, H.pushK_eq, H.putK_eq]; refine ⟨_, _, rfl, .inr ⟨h.size, L.length + new.length, false, Tr.ofF new L.length t, hn0, by simp, by simp, by simp, by omega, by rw [H.get_put, if_neg (by omega), H.get_push, if_pos rfl], λ j y hj => ?_⟩, ⟨by simp, λ d hd => by rw [H.get_put, if_neg (by omega), H.get_push, if_neg (by omega)]⟩⟩
     rw [Tr.at_ofF]; rcases Nat.lt_or_ge j L.length with h2 | h2
     · rw [if_neg (by omega)]
       rw [List.getElem?_append_left h2] at hj; exact ht j y hj
     · rw [List.getElem?_append_right h2] at hj; have := mI hj; rw [if_pos ⟨h2, by omega⟩]; exact hj
theorem fV.push1 {x z : DV} {bytes : Nat} (g : fV n0 h v L) (hn0 : n0 <= h.size) (h1 : x.one = true)
   (hs : (L.length + 1) * bytes < aR) (hs2 : L.length + 1 < aR) : ∃ v' h', (∀ (R : Type) (k : DV -> H -> Option R), (fG 1 1 [z] [(0, 1, x)] h λ y h' => wK (cE 1 bytes v y h') k) = k v' h') /\ fV n0 h' v' (L ++ [x]) /\ cK n0 h h' := by
 have hp : bW (h.push (.blk ⟨1 * 1, 1, false, true, Tr.ofL [x]⟩)) h.size [x] := bW.pushed (h := h) (L := [x]) (pl := true); have g' : fV n0 (h.push (.blk ⟨1 * 1, 1, false, true, Tr.ofL [x]⟩)) v L := g.keep (cK.push (Nat.le_refl _) _) (Nat.le_refl _); obtain ⟨v', h', f1, f2, f3⟩ := g'.appendRow (x := .slc h.size 0 1 1 false) (new := [x]) (bytes := bytes) (by rw [H.size_push]; omega) (hp.row false) (by simp [h1]) hs hs2
 refine ⟨v', h', λ R k => ?_, f2, (cK.push hn0 _).trans f3⟩
 have hf : gP (gM [z] 1) [(0, 1, x)] = some [x] := by
   have hc : x.cells = [x] := by cases x <;> first | rfl | cases h1
   simp [gP, gM, hc, vD]; rfl
 simp only [fG, hf, Option.bind_some, H.pushK_eq]; rw [f1]; rfl
end
end Go.DI
namespace Go.DI
open Go.RowKit
theorem eD {R : Type} (l : List DV) (t : Bool) (op : (DV -> H -> Option R) -> Option R) (h : H) (k : DV -> H -> Option R) : bR (.tup l) t op h k = k (.tup []) h := id rfl
theorem aL (a : DV) (l : List DV) : aG 0 (.tup (a :: l)) = some a := id rfl
theorem aK (a b : DV) (l : List DV) : aG 1 (.tup (a :: b :: l)) = some b := id rfl
theorem nR (a b c : DV) (l : List DV) : aG 2 (.tup (a :: b :: c :: l)) = some c := rfl
theorem aEB {s : Ln} {i j : Nat} (hi : i <= j) (hj : j <= s.length) (k k' : IntKind) : iE (.str s) (some (.int k (.ofNat i))) (some (.int k' (.ofNat j))) = some (.str ((s.take j).drop i)) := by
 simp only [iE, dL, dHi, dLo]; rw [Nat.ble_eq_true_of_le hj, cond_true, Nat.ble_eq_true_of_le hi, cond_true, iV]
theorem oF (k k' : IntKind) (a b : Nat) : aAP (.int k (.ofNat a)) (.int k' (.ofNat b)) = some (.int k (.ofNat (min a b))) := by
 simp only [aAP, nN]
 congr 2
 by_cases h : b < a
 · rw [show decide (Int.ofNat b < Int.ofNat a) = true from by simp only [Int.ofNat_eq_natCast, decide_eq_true_iff]; omega]
   show Int.ofNat b = _; congr 1; omega
 · rw [show decide (Int.ofNat b < Int.ofNat a) = false from by simp only [Int.ofNat_eq_natCast, decide_eq_false_iff_not]; omega]
   show Int.ofNat a = _; congr 1; omega
theorem bC (k : IntKind) (a b : Nat) : dC (.int k (.ofNat a)) (.int k (.ofNat b)) = some (.bool (!decide (a = b))) := by
 rw [aVF]; congr 2; rw [Bool.eq_iff_iff]; simp only [bne_iff_ne, ne_eq, Int.ofNat_eq_natCast, Bool.not_eq_true', decide_eq_false_iff_not]; omega
theorem lF (s t : Ln) : dC (.str s) (.str t) = some (.bool (s != t)) := by
 show fF (!sEq s t) = _; rw [gH, tZ]; rfl
end Go.DI
namespace Go.DI
open Go.RowKit
def aX (h : H) (b : Nat) (L : List DV) : Prop := b < h.size /\ ∃ es t, h.get b = some (.blk ⟨L.length, es, false, true, t⟩) /\ ∀ j x, L[j]? = some x -> t.at_ j = some x
section
variable {h h' : H} {b : Nat} {L : List DV}
theorem aX.rd (hb : aX h b L) {j : Nat} {x : DV} (hj : L[j]? = some x) : rdCell h.get b j = some x := by
 obtain ⟨hlt, es, t, h1, h2⟩ := hb; rw [kT h1 (mI hj)]; exact h2 j x hj
theorem aX.read (hb : aX h b L) {j : Nat} {x : DV} (hj : L[j]? = some x) : aF h.get (.ptr b j) = some x := by
 simp only [aF, cL]; exact hb.rd hj
theorem aX.cells (hb : aX h b L) {o k : Nat} (hk : o + k <= L.length) : rdCells h.get b o k = some ((L.drop o).take k) := by
 have hl : ((L.drop o).take k).length = k := by simp; omega
 have := mB (rd := h.get) (b := b) ((L.drop o).take k) o λ i v hi => hb.rd (by
   rw [List.getElem?_take] at hi; split at hi
   · rw [List.getElem?_drop] at hi; exact hi
   · cases hi)
 rw [hl] at this; exact this
theorem aX.readN (hb : aX h b L) {o k : Nat} (hk : o + k <= L.length) : aM k h.get (.ptr b o) = some (.agg ((L.drop o).take k)) := by
 simp only [aM, cM, hb.cells hk]; rfl
theorem aX.but (hb : aX h b L) {c : Nat} (hc : b ≠ c) (k : zD c h h') : aX h' b L := by
 obtain ⟨hlt, es, t, h1, h2⟩ := hb; exact ⟨by rw [k.size]; exact hlt, es, t, by rw [k.get b hc]; exact h1, h2⟩
theorem aX.grown (hb : aX h b L) (g : aH h h') : aX h' b L := by
 obtain ⟨hlt, es, t, h1, h2⟩ := hb; exact ⟨Nat.lt_of_lt_of_le hlt g.size, es, t, by rw [g.get b hlt]; exact h1, h2⟩
theorem aX.keep {n : Nat} (hb : aX h b L) (k : cK n h h') (hn : b < n) : aX h' b L := by
 obtain ⟨hlt, es, t, h1, h2⟩ := hb; exact ⟨Nat.lt_of_lt_of_le hlt k.size, es, t, by rw [k.get b hn]; exact h1, h2⟩
theorem aX.store (hb : aX h b L) {vs : List DV} {o : Nat} (hv : vs.all DV.one = true) (ho : o + vs.length <= L.length) :
   ∃ h', iH vs h b o = some h' /\ aX h' b (L.take o ++ vs ++ L.drop (o + vs.length)) /\ zD b h h' := by
 obtain ⟨hlt, es, t, h1, h2⟩ := hb; obtain ⟨h', t', f1, f2, f3, f4, f5⟩ := rU (h := h) (b := b) (o := o) (vs := vs) h1 rfl ho hv; have hlen : (L.take o ++ vs ++ L.drop (o + vs.length)).length = L.length := by simp; omega
 refine ⟨h', f1, ⟨by rw [f2]; exact hlt, es, t', by rw [f4, hlen], λ j x hj => ?_⟩, ⟨f2, f3⟩⟩
 rw [f5]; have ht : (L.take o).length = o := by simp; omega
 by_cases hjo : o <= j /\ j < o + vs.length
 · rw [if_pos hjo]; rw [List.append_assoc, List.getElem?_append_right (by omega), ht, List.getElem?_append_left (by omega)] at hj
   exact hj
 · rw [if_neg hjo]; apply h2; rcases Nat.lt_or_ge j o with hlt | hge
   · rw [List.append_assoc, List.getElem?_append_left (by omega), List.getElem?_take, if_pos hlt] at hj
     exact hj
   · have hge2 : o + vs.length <= j := by
       rcases Nat.lt_or_ge j (o + vs.length) with h3 | h3
       · exact absurd ⟨hge, h3⟩ hjo
       · exact h3
     rw [List.getElem?_append_right (by simp only [List.length_append, ht]; omega), List.length_append, ht, List.getElem?_drop] at hj
     rw [show j = o + vs.length + (j - (o + vs.length)) from by omega]; exact hj
theorem yS {v : DV} (hv : v.one = true) : v.cells = [v] := by cases v <;> first | rfl | cases hv
theorem aX.set (hb : aX h b L) {j : Nat} {v : DV} (hv : v.one = true) (hj : j < L.length) :
   ∃ h', bY 1 (.ptr b j) v h = some (.tup [], h') /\ aX h' b (L.set j v) /\ zD b h h' := by
 obtain ⟨h', f1, f2, f3⟩ := hb.store (vs := [v]) (o := j) (by simp [hv]) (by simp; omega)
 refine ⟨h', ?_, ?_, f3⟩
 · rw [aBD]; simp only [dSt, yS hv, List.length_singleton, Nat.beq_refl, cond_true, f1, Option.map_some]
 · have : L.take j ++ [v] ++ L.drop (j + [v].length) = L.set j v := by
     rw [List.set_eq_take_append_cons_drop, if_pos hj]; simp
   rw [<- this]; exact f2
theorem aX.setN (hb : aX h b L) {o n : Nat} {cs : List DV} (hn : cs.length = n) (hv : cs.all DV.one = true) (ho : o + n <= L.length) :
   ∃ h', bY n (.ptr b o) (.agg cs) h = some (.tup [], h') /\ aX h' b (L.take o ++ cs ++ L.drop (o + n)) /\ zD b h h' := by
 subst hn; obtain ⟨h', f1, f2, f3⟩ := hb.store (vs := cs) (o := o) hv ho; refine ⟨h', ?_, f2, f3⟩; rw [aBD]; have : (DV.agg cs).cells = cs := rfl; simp only [dSt, this, Nat.beq_refl, cond_true, f1, Option.map_some]
theorem hU {R : Type} (cs : List DV) (h : H) (k : DV -> H -> Option R) : dV (.agg cs) h k = k (.ptr h.size 0) (h.push (.blk ⟨cs.length, cs.length, false, true, Tr.ofL cs⟩)) := by
 simp only [dV, bD, H.pushK_eq]; rfl
theorem pT {R : Type} {v : DV} (hv : v.one = true) (h : H) (k : DV -> H -> Option R) : dV v h k = k (.ptr h.size 0) (h.push (.blk ⟨1, 1, false, true, Tr.ofL [v]⟩)) := by
 simp only [dV, bD, H.pushK_eq, yS hv]; rfl
theorem aX.pushed {L : List DV} {es : Nat} : aX (h.push (.blk ⟨L.length, es, false, true, Tr.ofL L⟩)) h.size L :=
 ⟨by rw [H.size_push]; omega, es, _, by rw [H.get_push, if_pos rfl], λ j x hj => by rw [Tr.at_ofL]; exact hj⟩
end
@[simp] theorem bA (b o : Nat) : aW (.ptr b o) = some (.ptr b o) := id rfl
theorem aJ (off b o : Nat) : aI off (.ptr b o) = some (.ptr b (o + off)) := by simp only [aI, bD]
theorem aHR {len es b o j : Nat} (hj : j < len) (k : IntKind) : pF len es (.ptr b o) (.int k (.ofNat j)) = some (.ptr b (o + j * es)) := by
 simp only [pF, qR, bD]; rw [dS hj]; rfl
end Go.DI
namespace Go.DI
open Go.RowKit
theorem sL (k' : IntKind) {a b : Nat} (hb : b <= 64) : aEC (.int .u64 (.ofNat a)) (.int k' (.ofNat b)) = some (.int .u64 (.ofNat (a * 2 ^ b % 18446744073709551616))) := by
 show qQ .shl .u64 (.ofNat a) (.ofNat b) = _; unfold qQ; rw [show iLt (.ofNat b) 0 = false from by rw [nN]; simp]
 simp only [cond_false, iW]; rw [show min (Int.ofNat b).toNat IntKind.u64.bits = b from by show min b 64 = b; omega, aAR]
 congr 2
theorem aVC {a : Nat} (ha : a < 9223372036854775808) (k' : IntKind) : vO (.int .i64 (.negSucc a)) (.int k' (.ofNat 63)) = some (.int .i64 (.negSucc 0)) := by
 show qQ .shr .i64 (.negSucc a) (.ofNat 63) = _; unfold qQ; rw [show iLt (.ofNat 63) 0 = false from by rw [nN]; simp]
 simp only [cond_false, pN]; rw [show min (Int.ofNat 63).toNat IntKind.i64.bits = 63 from rfl]
 congr 2
 rw [Int.fdiv_eq_ediv_of_nonneg _ (by omega)]
 omega
theorem aMp {u : Nat} (h : u < 18446744073709551616) : aAQ (.int .u64 (.ofNat u)) (.int .u64 (.ofNat 127)) = some (.int .u64 (.ofNat (u % 128))) := by
 have e : u &&& 127 = u % 128 := Nat.and_two_pow_sub_one_eq_mod u 7; rw [aHT .u64 u 127 (by show u < 2 ^ 64; omega) (by decide), e, pX (by omega)]
theorem bGk {u : Nat} (h : u < 18446744073709551616) : aAQ (.int .u64 (.ofNat u)) (.int .u64 (.ofNat 1)) = some (.int .u64 (.ofNat (u % 2))) := by
 have e : u &&& 1 = u % 2 := Nat.and_two_pow_sub_one_eq_mod u 1; rw [aHT .u64 u 1 (by show u < 2 ^ 64; omega) (by decide), e, pX (by omega)]
theorem aMo (k : IntKind) (a b : Nat) (ha : a < 2 ^ k.bits) (hb : b < 2 ^ k.bits) : aPE (.int k (.ofNat a)) (.int k (.ofNat b)) = some (.int k (k.wrap (.ofNat (a ||| b)))) := by
 show (bif kEq k k then bCr k (.ofNat a) (.ofNat b) else none) = _; rw [iU]; show (bif Nat.blt a (2 ^ k.bits) && Nat.blt b (2 ^ k.bits) then jG k (.ofNat (Nat.lor a b)) else _) = _; rw [dS ha, dS hb]; exact iW _ _
set_option maxRecDepth 100000 in
theorem bGw : ∀ x, x < 256 -> x ||| 128 = x % 128 + 128 := by decide
theorem aSL {x : Nat} (h : x < 256) : aPE (.int .u8 (.ofNat x)) (.int .u8 (.ofNat 128)) = some (eW (x % 128 + 128)) := by
 rw [aMo .u8 x 128 (by show x < 2 ^ 8; omega) (by decide), bGw x h]
 unfold eW; rw [wrap_u8 (by omega)]
theorem aNr {a b i : Nat} (h : a < 2 ^ i) : a ||| b * 2 ^ i = a + b * 2 ^ i := by
 have := Nat.two_pow_add_eq_or_of_lt h b; rw [Nat.mul_comm b, Nat.or_comm]; omega
theorem rV (u : Nat) (k : IntKind) : fH .u8 (.int k (.ofNat u)) = some (.int .u8 (.ofNat (u % 256))) := by
 rw [kM, IntKind.wrap_u8]
 congr 2
theorem nZ {b : Nat} (h : b < 18446744073709551616) (k : IntKind) : fH .u64 (.int k (.ofNat b)) = some (.int .u64 (.ofNat b)) := by
 rw [kM, pX h]
theorem aEj {a b : Nat} (k k' : IntKind) (hb : b <= k.bits) : vO (.int k (.ofNat a)) (.int k' (.ofNat b)) = some (.int k (.ofNat (a / 2 ^ b))) := aVD k k' a b hb
theorem aEy {x : Nat} (h : x < 18446744073709551616) : x ^^^ 18446744073709551615 = 18446744073709551615 - x := by
 apply Nat.eq_of_testBit_eq; intro i; rw [Nat.testBit_xor, show 18446744073709551615 - x = 2 ^ 64 - (x + 1) from by omega, Nat.testBit_two_pow_sub_succ h, show 18446744073709551615 = 2 ^ 64 - 1 from rfl, Nat.testBit_two_pow_sub_one]
 by_cases hi : i < 64
 · simp [hi]
 · have : x.testBit i = false := Nat.testBit_lt_two_pow (Nat.lt_of_lt_of_le h (by
     show 2 ^ 64 <= 2 ^ i; exact Nat.pow_le_pow_right (by omega) (by omega)))
   simp [hi, this]
def zz (n : Int) : Nat := match n with
 | .ofNat a => 2 * a
 | .negSucc a => 2 * a + 1
theorem aXm {n : Int} (h1 : -9223372036854775808 <= n) (h2 : n < 9223372036854775808) : ∃ (x y z : DV), fH .u64 (.int .i64 n) = some x /\ aEC x (.int .u64 (.ofNat 1)) = some y /\ vO (.int .i64 n) (.int .u64 (.ofNat 63)) = some z /\
   ∃ w, fH .u64 z = some w /\ aDr y w = some (.int .u64 (.ofNat (zz n))) := by
 cases n with
 | ofNat a =>
   simp only [Int.ofNat_eq_natCast] at h2; refine ⟨_, _, _, nZ (by omega) _, sL _ (by omega), aEj _ _ (by decide), _, nZ (by omega) _, ?_⟩
   have e1 : a * 2 ^ 1 % 18446744073709551616 = 2 * a := by omega
   have e2 : a / 2 ^ 63 = 0 := by omega
   rw [e1, e2, xT .u64 _ _ (by show 2 * a < 2 ^ 64; omega) (by decide), Nat.xor_zero, pX (by omega)]; rfl
 | negSucc a =>
   have ha : a < 9223372036854775808 := by omega
   have e0 : IntKind.u64.wrap (.negSucc a) = .ofNat (18446744073709551615 - a) := by
     rw [aAR]; simp only [Int.ofNat_eq_natCast]; omega
   have e3 : IntKind.u64.wrap (.negSucc 0) = .ofNat 18446744073709551615 := by rw [aAR]; rfl
   refine ⟨.int .u64 (.ofNat (18446744073709551615 - a)), _, _, by rw [kM, e0], sL _ (by omega), aVC ha _, .int .u64 (.ofNat 18446744073709551615), by rw [kM, e3], ?_⟩
   have e1 : (18446744073709551615 - a) * 2 ^ 1 % 18446744073709551616 = 18446744073709551614 - 2 * a := by omega
   rw [e1, xT .u64 _ _ (by show 18446744073709551614 - 2 * a < 2 ^ 64; omega) (by decide), aEy (by omega), pX (by omega)]
   have e5 : 18446744073709551615 - (18446744073709551614 - 2 * a) = 2 * a + 1 := by omega
   rw [e5]; rfl
theorem bBL {n : Int} (h1 : -9223372036854775808 <= n) (h2 : n < 9223372036854775808) : ∃ (x y : DV), fH .u64 (.int .i64 n) = some x /\ aEC x (.int .u64 (.ofNat 1)) = some y /\
   (0 <= n -> y = .int .u64 (.ofNat (zz n))) /\ (n < 0 -> aDr y (.int .u64 (.ofNat 18446744073709551615)) = some (.int .u64 (.ofNat (zz n)))) := by
 cases n with
 | ofNat a =>
   simp only [Int.ofNat_eq_natCast] at h2; refine ⟨_, _, nZ (by omega) _, sL _ (by omega), λ _ => ?_, λ h => absurd h (by simp only [Int.ofNat_eq_natCast]; omega)⟩
   have e1 : a * 2 ^ 1 % 18446744073709551616 = 2 * a := by omega
   rw [e1]; rfl
 | negSucc a =>
   have ha : a < 9223372036854775808 := by omega
   have e0 : IntKind.u64.wrap (.negSucc a) = .ofNat (18446744073709551615 - a) := by
     rw [aAR]; simp only [Int.ofNat_eq_natCast]; omega
   refine ⟨.int .u64 (.ofNat (18446744073709551615 - a)), _, by rw [kM, e0], sL _ (by omega), λ h => absurd h (by omega), λ _ => ?_⟩
   have e1 : (18446744073709551615 - a) * 2 ^ 1 % 18446744073709551616 = 18446744073709551614 - 2 * a := by omega
   rw [e1, xT .u64 _ _ (by show 18446744073709551614 - 2 * a < 2 ^ 64; omega) (by decide), aEy (by omega), pX (by omega)]
   have e5 : 18446744073709551615 - (18446744073709551614 - 2 * a) = 2 * a + 1 := by omega
   rw [e5]; rfl
theorem aVG (k : IntKind) (n : Int) : aED (.int k n) = some (.int k (k.wrap (0 - n))) := iW _ _
theorem bGK {n : Int} (h1 : -9223372036854775808 <= n) (h2 : n < 9223372036854775808) : IntKind.i64.wrap n = n := rC (by omega) (by omega)
theorem aXt {u : Nat} (h : u < 18446744073709551616) : ∃ x y z w : DV, vO (.int .u64 (.ofNat u)) (.int .u64 (.ofNat 1)) = some x /\ fH .i64 x = some y /\ aAQ (.int .u64 (.ofNat u)) (.int .u64 (.ofNat 1)) = some z /\ fH .i64 z = some w /\
   ∃ q, aED w = some q /\ aDr y q = some (.int .i64 (if u % 2 = 0 then .ofNat (u / 2) else .negSucc (u / 2))) := by
 refine ⟨_, .int .i64 (.ofNat (u / 2)), _, .int .i64 (.ofNat (u % 2)), aEj _ _ (by decide), by rw [kM, wrap_i64 (by omega)], bGk h, by rw [kM, wrap_i64 (by omega)], _, aVG _ _, ?_⟩
 by_cases hu : u % 2 = 0
 · rw [hu, if_pos rfl]; have : IntKind.i64.wrap (0 - Int.ofNat 0) = .ofNat 0 := rfl; rw [this, xT .i64 _ _ (by show u / 2 < 2 ^ 64; omega) (by decide), Nat.xor_zero, wrap_i64 (by omega)]
 · have hu1 : u % 2 = 1 := by omega
   rw [hu1, if_neg (by omega)]
   have : IntKind.i64.wrap (0 - Int.ofNat 1) = .negSucc 0 := rfl; rw [this]; show (bif kEq .i64 .i64 then aNR .i64 (.ofNat (u / 2)) (.negSucc 0) else none) = _; rw [iU]; show jG .i64 (pG .i64 (· ^^^ ·) (.ofNat (u / 2)) (.negSucc 0)) = _; rw [iW]; have e : pG .i64 (· ^^^ ·) (.ofNat (u / 2)) (.negSucc 0) = .ofNat (18446744073709551615 - u / 2) := by
     unfold pG; have b1 : (BitVec.ofInt IntKind.i64.bits (.ofNat (u / 2))).toNat = u / 2 := qS 64 (u / 2) (by show u / 2 < 2 ^ 64; omega)
     have b2 : (BitVec.ofInt IntKind.i64.bits (.negSucc 0)).toNat = 18446744073709551615 := rfl; rw [BitVec.toNat_xor, b1, b2, aEy (by omega)]; rfl
   rw [e]
   congr 2
   have : IntKind.i64.wrap (.ofNat (18446744073709551615 - u / 2)) = IntKind.i64.wrap (.negSucc (u / 2)) := by
     simp only [IntKind.wrap_i64, Int.ofNat_eq_natCast]; omega
   rw [this]; exact bGK (by omega) (by omega)
theorem bG {R : Type} {n es : Nat} (L : List DV) (h : H) (k : DV -> H -> Option R) : dP n es (.list L) h k = k (.ptr h.size 0) (h.push (.blk ⟨n, es, false, true, Tr.ofL L⟩)) := by
 simp only [dP, H.pushK_eq]; rfl
theorem gS (k : IntKind) (n : Int) : vL (some (.int k n)) (.int k n) = true := by
 show rB (.int k n) (.int k n) = true; simp only [rB, Bool.and_eq_true]
 first | (constructor <;> simp) | simp
theorem aJG (s : Ln) : vL (some (.str s)) (.str s) = true := by
 show rB (.str s) (.str s) = true; simp [rB]
theorem cO (rd : Rd) (b o : Nat) : eM .ptr false rd (.ptr b o) .nilp = some (.bool false) := rfl
theorem mR (rd : Rd) (b o : Nat) : eM .ptr true rd (.ptr b o) .nilp = some (.bool true) := rfl
def aVy (n0 : Nat) (h : H) (v : DV) (L : List DV) : Prop := bS n0 h v L \/
 ∃ b o B, v = .slc b o L.length L.length false /\ h.get b = some (.blk B) /\ ∀ j x, L[j]? = some x -> rdCell h.get b (o + j) = some x
theorem aVy.push1 {n0 : Nat} {h : H} {v x z : DV} {L : List DV} {bytes : Nat} (o : aVy n0 h v L) (hlt : ∀ b o n c op, v = .slc b o n c op -> b < h.size) (hn0 : n0 <= h.size) (h1 : x.one = true)
   (hs : (L.length + 1) * bytes < aR) (hs2 : L.length + 1 < aR) : ∃ v' h', (∀ (R : Type) (k : DV -> H -> Option R), (fG 1 1 [z] [(0, 1, x)] h λ y h' => wK (cE 1 bytes v y h') k) = k v' h') /\ bS n0 h' v' (L ++ [x]) /\ cK n0 h h' := by
 rcases o with o | ⟨b, off, B, rfl, hB, hc⟩
 · exact o.push1 hn0 h1 hs hs2
 · have hb := hlt b off _ _ _ rfl
   let h1' := h.push (.blk ⟨1 * 1, 1, false, true, Tr.ofL [x]⟩)
   have hp : bW h1' h.size [x] := bW.pushed (h := h) (L := [x]) (pl := true); have hB' : h1'.get b = some (.blk B) := by show (h.push _).get b = _; rw [H.get_push, if_neg (by omega)]; exact hB
   have hrow : rdCells h1'.get b off L.length = some L := mB L off λ j y hj => by rw [kS (hB'.trans hB.symm)]; exact hc j y hj
   have hf : gP (gM [z] 1) [(0, 1, x)] = some [x] := by simp [gP, gM, yS h1, vD]; rfl
   have hne : ¬ L.length + 1 <= L.length := by omega
   have hap : cE 1 bytes (.slc b off L.length L.length false) (.slc h.size 0 1 1 false) h1' = some (.slc h1'.size 0 (L.length + 1) (L.length + 1) true, h1'.push (.blk ⟨L.length + 1, 1, false, true, Tr.ofL (L ++ [x])⟩)) := by
     rw [eN]; have hx : dR 1 h1'.get (.slc h.size 0 1 1 false) = some [x] := by
       have := hp.cells_all
       simpa [dR] using this
     simp only [fR, srcLen, hx, Option.bind_some, bD, jC hne, cond_false, dS hs, dS hs2, Bool.and_self, cond_true, hB', Nat.mul_one, hrow, H.pushK_eq]
   refine ⟨.slc h1'.size 0 (L.length + 1) (L.length + 1) true, h1'.push (.blk ⟨L.length + 1, 1, false, true, Tr.ofL (L ++ [x])⟩), λ R k => ?_, .inr ⟨h1'.size, by show n0 <= h1'.size; rw [show h1'.size = h.size + 1 from rfl]; omega, ?_, ?_⟩, ?_⟩
   · simp only [fG, hf, Option.bind_some, H.pushK_eq]; show wK (cE 1 bytes (.slc b off L.length L.length false) (.slc h.size 0 1 1 false) h1') k = _; rw [hap]; rfl
   · simp
   · have := bW.pushed (h := h1') (L := L ++ [x]) (pl := true); rw [List.length_append] at this; exact this
   · exact (cK.push hn0 _).trans (cK.push (by show n0 <= h1'.size; rw [show h1'.size = h.size + 1 from rfl]; omega) _)
theorem bS.lt_size {n0 : Nat} {h : H} {v : DV} {L : List DV} (o : bS n0 h v L) : ∀ b o n c op, v = .slc b o n c op -> b < h.size := by
 intro b off n c op e; rcases o with ⟨rfl, _⟩ | ⟨b', _, rfl, hb⟩
 · cases e
 · cases e; exact hb.1
def aMa (h : H) (v : DV) (L : List DV) : Prop := aVy h.size h v L /\ ∀ b o n c op, v = .slc b o n c op -> b < h.size
theorem bS.appendStr {n0 : Nat} {h : H} {v : DV} {s : Ln} (o : bS n0 h v (bU s)) (hn0 : n0 <= h.size) (t : Ln) (hs : s.length + t.length <= 1000000) :
   ∃ v' h', cE 1 1 v (.str t) h = some (v', h') /\ bS n0 h' v' (bU (s ++ t)) /\ cK n0 h h' := by
 have e1 : (t.map λ b => DV.int .u8 (.ofNat b)) = bU t := rfl
 by_cases ht : t = []
 · subst ht; refine ⟨v, h, ?_, by simpa using o, cK.refl _ _⟩
   rw [eN]; rcases o with ⟨rfl, e⟩ | ⟨b, _, rfl, hb⟩
   · simp only [fR, srcLen, dR, bD, List.length_nil, Option.bind_some, Nat.beq_refl, cond_true]
   · simp only [fR, srcLen, dR, bD, List.length_nil, Option.bind_some, Nat.beq_refl, cond_true, Nat.add_zero, Nat.ble_eq_true_of_le (Nat.le_refl _)]; rfl
 · have := o.append (x := .str t) (new := bU t) (bytes := 1) hn0 (by simp only [srcLen, bD, cC]) (by simp only [dR, Nat.beq_refl, cond_true, e1]) (sK t) (by intro e; exact ht (by simpa [bU] using e)) (by simp only [cC]; unfold aR; omega) (by simp only [cC]; unfold aR; omega)
   rw [eK]; exact this
theorem dE.text {h : H} {v : DV} {s : Ln} (r : dE h v (bU s)) (hok : bB s = true) : nG h.get v = some (.str s) := by
 have hs := r.src; rcases r with ⟨e, hv⟩ | ⟨b, o, c, op, rfl, _⟩
 · have : s = [] := by
     cases s with
     | nil => rfl
     | cons _ _ => cases e
   subst this; rcases hv with rfl | ⟨b, o, o2, rfl⟩ <;> rfl
 · simp only [dR, Nat.mul_one] at hs; rw [cC] at hs ⊢; simp only [nG, cM, hs, Option.bind_some, wZ hok, iV]
theorem aWo {R : Type} {z x : DV} (hx : x.one = true) (h : H) (k : DV -> H -> Option R) : fG 1 1 [z] [(0, 1, x)] h k = k (.slc h.size 0 1 1 false) (h.push (.blk ⟨1, 1, false, true, Tr.ofL [x]⟩)) := by
 have hf : gP (gM [z] 1) [(0, 1, x)] = some [x] := by simp [gP, gM, yS hx, vD]; rfl
 simp only [fG, hf, Option.bind_some, H.pushK_eq, Nat.mul_one]
theorem dE.one {h : H} {x : DV} : dE (h.push (.blk ⟨1, 1, false, true, Tr.ofL [x]⟩)) (.slc h.size 0 1 1 false) [x] := (bW.pushed (h := h) (L := [x]) (pl := true)).row false
theorem aX.all {h : H} {b n : Nat} {L : List DV} (hb : aX h b L) (hn : L.length = n) : aM n h.get (.ptr b 0) = some (.agg L) := by
 rw [hb.readN (by omega), List.drop_zero, List.take_of_length_le (by omega)]
theorem aX.setAll {h : H} {b n : Nat} {L cs : List DV} (hb : aX h b L) (hL : L.length = n) (hn : cs.length = n) (hv : cs.all DV.one = true) :
   ∃ h', bY n (.ptr b 0) (.agg cs) h = some (.tup [], h') /\ aX h' b cs /\ zD b h h' := by
 obtain ⟨h', f1, f2, f3⟩ := hb.setN (o := 0) hn hv (by omega)
 refine ⟨h', f1, ?_, f3⟩; rw [List.take_zero, List.nil_append, Nat.zero_add, List.drop_of_length_le (by omega), List.append_nil] at f2
 exact f2
end Go.DI
end
