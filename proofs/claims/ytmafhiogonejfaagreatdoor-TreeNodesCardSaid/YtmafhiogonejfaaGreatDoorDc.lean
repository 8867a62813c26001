/- D once more, its registers a function; plain functions that are D's; functions told by what they compute; deferred closures that recover. No condition beyond the theorems' own. -/
import Derived.Recover
import Derived.SliceStrings
import Derived.SizedLaws
import Derived.WideShapes
import Derived.Lib.Join
import Derived.Test.YtmafhiogonejfaaGreatDoorDb
set_option linter.unusedVariables false
set_option linter.unusedSimpArgs false
noncomputable section
namespace Go.DI
open Go.RowKit
theorem gE.mono {P : Program} {f : FuncId} {F G : cE} (hF : gE P f F) (h : ∀ args h r, G args h = some r -> F args h = some r) : gE P f G :=
 λ N0 w0 m hh w args args' v h' hr ht hw => hF N0 w0 m hh w args args' v h' (h _ _ _ hr) ht hw
structure aH (h h' : H) : Prop where
 size : h.size <= h'.size
 get : ∀ b, b < h.size -> h'.get b = h.get b
theorem aH.refl (h : H) : aH h h := ⟨Nat.le_refl _, λ _ _ => rfl⟩
theorem aH.trans {a b c : H} (x : aH a b) (y : aH b c) : aH a c :=
 ⟨Nat.le_trans x.size y.size, λ i hi => (y.get i (Nat.lt_of_lt_of_le hi x.size)).trans (x.get i hi)⟩
theorem aH.push (h : H) (o : iX) : aH h (h.push o) := ⟨by simp, λ b hb => by rw [H.get_push, if_neg (by omega)]⟩
def oT (v : DV) : Prop := ∀ m m' : Mp, tr m v = tr m' v
theorem cX.forget {N0 : Nat} {w0 : World} {m m' : Mp} {h h' : H} {w w' : World} (hw : cX N0 w0 m h w) (hw' : cX N0 w0 m' h' w') (he : lJ m h m' h') (hg : aH h h') : cX N0 w0 m h w' := by
 have hgb : ∀ b i, m b = some i -> h'.get b = h.get b := λ b i e => hg.get b (hw.lt b i e).1
 refine ⟨λ b i e => ⟨(hw.lt b i e).1, (hw'.lt b i (he.le b i e)).2⟩, λ b i e => ?_, hw.inj, hw'.below, hw'.base, hw.wf⟩
 obtain ⟨o, g, r, n⟩ := hw.has b i e; obtain ⟨o', g', r', n'⟩ := hw'.has b i (he.le b i e); rw [hgb b i e, g] at g'; cases g'; refine ⟨o, g, ?_, n⟩; cases o with
 | blk B =>
   obtain ⟨⟨c, el, fr, h1, h2, h3⟩, _, _⟩ := r; obtain ⟨⟨c', el', fr', h1', h2', h3'⟩, hf', hp'⟩ := r'; refine ⟨⟨c', el', fr', h1', h2', λ j hj => ?_⟩, hf', hp'⟩
   rcases h3 j hj with ⟨v, v', a, b', d⟩ | hx
   · rcases h3' j hj with ⟨u, u', a', b'', d'⟩ | ⟨_, hx⟩
     · rw [a] at a'; cases a'; rw [fG he.le _ _ b'] at b''; cases b''; exact .inl ⟨v, v', a, b', d'⟩
     · rw [a] at hx; cases hx
   · exact .inr hx
 | dead => trivial
 | map ds clock =>
   obtain ⟨es, h1, h2⟩ := r; obtain ⟨es', h1', h2'⟩ := r'; refine ⟨es', h1', ?_⟩; have same : ∀ {ds : List yI} {es es' : List MapEntry}, gL m ds es -> gL m' ds es' -> gL m ds es' := by
     intro ds
     induction ds with
     | nil => intro es es' a b; cases es' <;> first | trivial | exact b.elim
     | cons d ds ih =>
       intro es es' a b; cases es with
       | nil => exact a.elim
       | cons e es =>
         cases es' with
         | nil => exact b.elim
         | cons e' es' =>
           refine ⟨⟨?_, ?_, b.1.2.2⟩, ih a.2 b.2⟩
           · have := fG he.le _ _ a.1.1; rw [b.1.1] at this; rw [a.1.1, this]
           · have := fG he.le _ _ a.1.2.1; rw [b.1.2.1] at this; rw [a.1.2.1, this]
   exact same h2 h2'
theorem gE.forget {P : Program} {f : FuncId} {F G : cE} (hF : gE P f F)
   (hG : ∀ args h v h', G args h = some (v, h') -> h' = h /\ oT v /\ ∃ h1, F args h = some (v, h1) /\ aH h h1) : gE P f G := by
 intro N0 w0 m h w args args' v h' hr ht hw; obtain ⟨rfl, hv, h1, h2, h3⟩ := hG _ _ _ _ hr; refine (hF N0 w0 m h' w args args' v h1 h2 ht hw).mono λ e w' hh => ?_
 obtain ⟨m', v', e1, e2, e3, e4⟩ := hh; exact ⟨m, v', e1, by rw [hv m m']; exact e2, hw.forget e3 e4 h3, lJ.refl _ _⟩
theorem oT.int (k : IntKind) (n : Int) : oT (.int k n) := λ _ _ => rfl
theorem oT.str (s : Ln) : oT (.str s) := λ _ _ => rfl
theorem oT.tup2 {a b : DV} (ha : oT a) (hb : oT b) : oT (.tup [a, b]) := λ m m' => by simp only [tr, trs, ha m m', hb m m']
end Go.DI
namespace Go.DI
open Go.RowKit
section
variable {R : Type}
def vK (o : Option DV) (k : DV -> Option R) : Option R := Option.rec (motive := λ _ => Option R) none k o
def wK (o : Option (DV × H)) (k : DV -> H -> Option R) : Option R := Option.rec (motive := λ _ => Option R) none (λ x => Prod.rec (motive := λ _ => Option R) k x) o
def bK (x : DV) (a b : Option R) : Option R := match x with
 | .bool c => Bool.rec b a c
 | _ => none
def gK (x : DV) (t : Bool) (a b : Option R) : Option R := match x with
 | .bool c => Bool.rec (Bool.rec a b t) (Bool.rec b a t) c
 | _ => b
def rcK (o : Option DV) (v : DV) : Bool := Option.rec (motive := λ _ => Bool) false (λ u => qJ u v) o
theorem bFl (o : Option DV) (k : DV -> Option R) : vK o k = o.bind k := by cases o <;> rfl
theorem bFk (o : Option (DV × H)) (k : DV -> H -> Option R) : wK o k = o.bind λ x => k x.1 x.2 := by cases o <;> rfl
end
theorem rY (n a : Nat) (ha : a < 2 ^ n) : (BitVec.ofInt n (Int.ofNat a)).toNat = a := by
 rw [BitVec.toNat_ofInt]; have h2 : (Int.ofNat a) % ((2 ^ n : Nat) : Int) = (a : Int) := by
   rw [Int.ofNat_eq_natCast, <- Int.natCast_emod, Nat.mod_eq_of_lt ha]
 have h3 : ∀ z : Int, z = ((2 ^ n : Nat) : Int) -> ((Int.ofNat a) % z).toNat = a := by
   intro z hz; rw [hz, h2]; rfl
 exact h3 _ (by simp)
def fb (f : Nat -> Nat -> Nat) (s : IntKind -> Int -> Int -> Option DV) (k : IntKind) (x y : Int) : Option DV :=
 Int.rec (motive := λ _ => Option DV) (λ a => Int.rec (motive := λ _ => Option DV) (λ b => bif Nat.blt a (2 ^ k.bits) && Nat.blt b (2 ^ k.bits) then jO k (.ofNat (f a b)) else s k x y) (λ _ => s k x y) y) (λ _ => s k x y) x
theorem aVz {f : Nat -> Nat -> Nat} {s : IntKind -> Int -> Int -> Option DV} {k : IntKind} (h : ∀ a b, a < 2 ^ k.bits -> b < 2 ^ k.bits -> s k (.ofNat a) (.ofNat b) = jO k (.ofNat (f a b))) (x y : Int) : fb f s k x y = s k x y := by
 cases x with
 | negSucc a => rfl
 | ofNat a =>
   cases y with
   | negSucc b => rfl
   | ofNat b =>
     show (bif Nat.blt a (2 ^ k.bits) && Nat.blt b (2 ^ k.bits) then jO k (.ofNat (f a b)) else s k (.ofNat a) (.ofNat b)) = _; cases hb : (Nat.blt a (2 ^ k.bits) && Nat.blt b (2 ^ k.bits)) with
     | false => rfl
     | true =>
       rw [Bool.and_eq_true, Nat.blt_eq, Nat.blt_eq] at hb; exact (h a b hb.1 hb.2).symm
def aQz : IntKind -> Int -> Int -> Option DV := fb Nat.land aQW
def bCt : IntKind -> Int -> Int -> Option DV := fb Nat.lor bDd
def aQy : IntKind -> Int -> Int -> Option DV := fb Nat.xor aQN
theorem aVB (k : IntKind) (x y : Int) : aQz k x y = aQW k x y := aVz (λ a b ha hb => by
 unfold aQW rZ; rw [BitVec.toNat_and, rY _ _ ha, rY _ _ hb]; rfl) x y
theorem bCs (k : IntKind) (x y : Int) : bCt k x y = bDd k x y := aVz (λ a b ha hb => by
 unfold bDd rZ; rw [BitVec.toNat_or, rY _ _ ha, rY _ _ hb]; rfl) x y
theorem aVA (k : IntKind) (x y : Int) : aQy k x y = aQN k x y := aVz (λ a b ha hb => by
 unfold aQN rZ; rw [BitVec.toNat_xor, rY _ _ ha, rY _ _ hb]; rfl) x y
def vX (f : IntKind -> Int -> Int -> Option DV) (g : Ln -> Ln -> Option DV) (a b : DV) : Option DV := match a, b with
 | .int k x, .int k' y => bif kEq k k' then f k x y else none
 | .str s, .str t => g s t
 | _, _ => none
def yF (s t : Ln) : Option DV := none
def bFu (s t : Ln) : Option DV := bif Nat.blt (s.length + t.length) gV then yH (s ++ t) else none
def bFt (s t : Ln) : Option DV := eX (sEq s t)
def bFp (s t : Ln) : Option DV := eX (!sEq s t)
def aQb (s t : Ln) : Option DV := eX (sX s t)
def bFq (s t : Ln) : Option DV := eX (sX s t || sEq s t)
def bFr (s t : Ln) : Option DV := eX (!(sX s t || sEq s t))
def bFs (s t : Ln) : Option DV := eX (!sX s t)
def bDc (op : BinOp) (a b : DV) : Option DV := match a, b with
 | .int k x, .int _ y => pZ op k x y
 | _, _ => none
def bJ : DV -> DV -> Option DV := vX aQX bFu
def fC : DV -> DV -> Option DV := vX aQO yF
def aCL : DV -> DV -> Option DV := vX aWh yF
def aGW : DV -> DV -> Option DV := vX aQP yF
def bSs : DV -> DV -> Option DV := vX aWf yF
def aEc : DV -> DV -> Option DV := vX aQz yF
def aSo : DV -> DV -> Option DV := vX bCt yF
def aDW : DV -> DV -> Option DV := vX aQy yF
def aDY : DV -> DV -> Option DV := bDc .shl
def yK : DV -> DV -> Option DV := bDc .shr
def aTZ : DV -> DV -> Option DV := vX aFo yF
def bP : DV -> DV -> Option DV := vX aQV bFt
def dA : DV -> DV -> Option DV := vX aQQ bFp
def cJ : DV -> DV -> Option DV := vX aQR aQb
def yL : DV -> DV -> Option DV := vX aQS bFq
def eH : DV -> DV -> Option DV := vX aQT bFr
def mI : DV -> DV -> Option DV := vX aQU bFs
def aPS (op : BinOp) : DV -> DV -> Option DV :=
 BinOp.rec (motive := λ _ => DV -> DV -> Option DV) bJ fC aCL aGW bSs aEc aSo aDW aDY yK aTZ bP dA cJ yL eH mI op
theorem jF {op : BinOp} (hs : pB op = false) {f : IntKind -> Int -> Int -> Option DV} {g : Ln -> Ln -> Option DV} (hf : ∀ k x y, f k x y = xO op k x y) (hg : ∀ s t, g s t = xN op s t) (a b : DV) : vX f g a b = aFh op a b := by
 cases a <;> cases b <;> first | rfl | (simp only [vX, aFh, aVi, hs, cond_false, hf, hg])
theorem aQL {op : BinOp} (hs : pB op = true) (hg : ∀ s t, xN op s t = none) (a b : DV) : bDc op a b = aFh op a b := by
 cases a <;> cases b <;> first | rfl | (simp only [bDc, aFh, hs, cond_true, hg])
theorem aTY (op : BinOp) (a b : DV) : aPS op a b = aFh op a b := by
 cases op
 · exact jF (op := .add) (f := aQX) (g := bFu) rfl (λ k x y => by show jO k (aVn x y) = jO k (x + y); rw [aIU]) (λ _ _ => rfl) a b
 · exact jF (op := .sub) (f := aQO) (g := yF) rfl (λ _ _ _ => rfl) (λ _ _ => rfl) a b
 · exact jF (op := .mul) (f := aWh) (g := yF) rfl (λ _ _ _ => rfl) (λ _ _ => rfl) a b
 · exact jF (op := .quo) (f := aQP) (g := yF) rfl (λ _ _ _ => rfl) (λ _ _ => rfl) a b
 · exact jF (op := .rem) (f := aWf) (g := yF) rfl (λ _ _ _ => rfl) (λ _ _ => rfl) a b
 · exact jF (op := .and) (f := aQz) (g := yF) rfl (λ k x y => aVB k x y) (λ _ _ => rfl) a b
 · exact jF (op := .or) (f := bCt) (g := yF) rfl (λ k x y => bCs k x y) (λ _ _ => rfl) a b
 · exact jF (op := .xor) (f := aQy) (g := yF) rfl (λ k x y => aVA k x y) (λ _ _ => rfl) a b
 · exact aQL (op := .shl) rfl (λ _ _ => rfl) a b
 · exact aQL (op := .shr) rfl (λ _ _ => rfl) a b
 · exact jF (op := .andNot) (f := aFo) (g := yF) rfl (λ _ _ _ => rfl) (λ _ _ => rfl) a b
 · exact jF (op := .eql) (f := aQV) (g := bFt) rfl (λ _ _ _ => rfl) (λ _ _ => rfl) a b
 · exact jF (op := .neq) (f := aQQ) (g := bFp) rfl (λ _ _ _ => rfl) (λ _ _ => rfl) a b
 · exact jF (op := .lss) (f := aQR) (g := aQb) rfl (λ _ _ _ => rfl) (λ _ _ => rfl) a b
 · exact jF (op := .leq) (f := aQS) (g := bFq) rfl (λ _ _ _ => rfl) (λ _ _ => rfl) a b
 · exact jF (op := .gtr) (f := aQT) (g := bFr) rfl (λ _ _ _ => rfl) (λ _ _ => rfl) a b
 · exact jF (op := .geq) (f := aQU) (g := bFs) rfl (λ _ _ _ => rfl) (λ _ _ => rfl) a b
def aIE (rd : Rd) (b j : Nat) : Option DV := match rd b with
 | some (.blk B) => bif Nat.blt j B.n then B.t.at_ j else none
 | _ => none
theorem cK (rd : Rd) (b j : Nat) : aIE rd b j = rdCell rd b j := by
 unfold aIE rdCell; cases rd b with
 | none => rfl
 | some o =>
   cases o with
   | blk B =>
     show (bif Nat.blt j B.n then B.t.at_ j else none) = if j < B.n then B.t.at_ j else none
     by_cases h : j < B.n
     · rw [if_pos h, show Nat.blt j B.n = true from by rw [Nat.blt_eq]; exact h]; rfl
     · rw [if_neg h, show Nat.blt j B.n = false from by rw [Bool.eq_false_iff, ne_eq, Nat.blt_eq]; exact h]; rfl
   | dead => rfl
   | map a b => rfl
def aVo (t : Tr DV) (n : Nat) : Nat -> Option (List DV) :=
 Nat.rec (motive := λ _ => Nat -> Option (List DV)) (λ _ => some []) (λ _ ih j => Option.rec (motive := λ _ => Option (List DV)) none (λ v => eC (Nat.succ j) λ j => Option.rec (motive := λ _ => Option (List DV)) none (λ vs => some (v :: vs)) (ih j)) (t.at_ j)) n
theorem aMc {rd : Rd} {b : Nat} {B : Blk} (h : rd b = some (.blk B)) : ∀ (n j : Nat), j + n <= B.n -> aVo B.t n j = rdCells rd b j n
 | 0, j, _ => rfl
 | n + 1, j, hl => by
   show Option.rec (motive := λ _ => Option (List DV)) none (λ v => eC (Nat.succ j) λ j => Option.rec (motive := λ _ => Option (List DV)) none (λ vs => some (v :: vs)) (aVo B.t n j)) (B.t.at_ j) = _
   simp only [bE, rdCells]; rw [aMc h n (j + 1) (by omega)]
   have e : rdCell rd b j = B.t.at_ j := by simp only [rdCell, h]; rw [if_pos (by omega)]
   rw [e]; cases B.t.at_ j with
   | none => rfl
   | some v => cases rdCells rd b (j + 1) n <;> rfl
theorem tH {rd : Rd} {b : Nat} : ∀ (n j : Nat), (∀ B, rd b = some (.blk B) -> B.n < j + n) -> 0 < n -> rdCells rd b j n = none
 | 0, j, _, h => absurd h (by omega)
 | n + 1, j, hb, _ => by
   simp only [rdCells]; cases hc : rdCell rd b j with
   | none => rfl
   | some v =>
     have : 0 < n := by
       unfold rdCell at hc; split at hc
       · rename_i B hB; split at hc
         · have := hb B hB; omega
         · cases hc
       · cases hc
     rw [tH n (j + 1) (λ B hB => by have := hb B hB; omega) this]
def oF (rd : Rd) (b j n : Nat) : Option (List DV) := bif Nat.beq n 0 then some [] else match rd b with
 | some (.blk B) => bif Nat.ble (j + n) B.n then aVo B.t n j else none
 | _ => none
theorem cI (rd : Rd) (b j n : Nat) : oF rd b j n = rdCells rd b j n := by
 unfold oF; by_cases h0 : n = 0
 · subst h0; rfl
 · rw [show Nat.beq n 0 = false from by cases h : Nat.beq n 0; rfl; exact absurd (Nat.eq_of_beq_eq_true h) h0, cond_false]
   split
   · rename_i B hB; by_cases hl : j + n <= B.n
     · rw [Nat.ble_eq_true_of_le hl, cond_true]; exact aMc hB n j hl
     · rw [show Nat.ble (j + n) B.n = false from by cases h : Nat.ble (j + n) B.n; rfl; exact absurd (Nat.le_of_ble_eq_true h) hl, cond_false]
       exact (tH n j (λ B' hB' => by rw [hB] at hB'; cases hB'; omega) (by omega)).symm
   · rename_i hn; exact (tH n j (λ B' hB' => absurd hB' (hn B')) (by omega)).symm
def aPZ {β : Type} (vs : List DV) : Nat -> Tr DV -> (Tr DV -> β) -> β :=
 List.rec (motive := λ _ => Nat -> Tr DV -> (Tr DV -> β) -> β) (λ _ t k => k t) (λ v _ ih o t k => Tr.setK v (Pa.of o) t λ t => eC (Nat.succ o) λ o => ih o t k) vs
def aLo : List DV -> Nat -> Tr DV -> Tr DV
 | [], _, t => t
 | v :: vs, o, t => aLo vs (o + 1) (Tr.set v (Pa.of o) t)
theorem aEo {β : Type} : ∀ (vs : List DV) (o : Nat) (t : Tr DV) (k : Tr DV -> β), aPZ vs o t k = k (aLo vs o t)
 | [], _, _, _ => rfl
 | v :: vs, o, t, k => by
   show (Tr.setK v (Pa.of o) t λ t => eC (Nat.succ o) λ o => aPZ vs o t k) = _
   rw [Tr.setK_eq, bE, aEo vs]; rfl
theorem Tr.set_set {α : Type} (x y : α) : ∀ (p : Pa) (t : Tr α), Tr.set y p (Tr.set x p t) = Tr.set y p t
 | .h, .e => rfl
 | .h, .n _ _ _ => rfl
 | .l p, .e => by show Tr.n (Tr.set y p (Tr.set x p .e)) none .e = Tr.n (Tr.set y p .e) none .e; rw [Tr.set_set x y p]
 | .l p, .n l v r => by show Tr.n (Tr.set y p (Tr.set x p l)) v r = Tr.n (Tr.set y p l) v r; rw [Tr.set_set x y p]
 | .r p, .e => by show Tr.n .e none (Tr.set y p (Tr.set x p .e)) = Tr.n .e none (Tr.set y p .e); rw [Tr.set_set x y p]
 | .r p, .n l v r => by show Tr.n l v (Tr.set y p (Tr.set x p r)) = Tr.n l v (Tr.set y p r); rw [Tr.set_set x y p]
theorem H.put_put (h : H) (b : Nat) (x y : iX) : (h.put b x).put b y = h.put b y := by
 unfold H.put Tr.put; simp only [Tr.set_set]
def aBi (vs : List DV) (h : H) (b o : Nat) : Option H := match vs with
 | [] => some h
 | v :: vs => match h.get b with
   | some (.blk B) => bif (!B.ro) && Nat.ble (o + (v :: vs).length) B.n && (v :: vs).all DV.one then
       aPZ (v :: vs) o B.t λ t => h.putK b (.blk { B with t := t }) some
     else none
   | _ => none
theorem aCe : ∀ (vs : List DV) (h : H) (b o : Nat) (B : Blk), h.get b = some (.blk B) -> vs ≠ [] ->
   hM vs h b o = if (!B.ro) = true /\ o + vs.length <= B.n /\ vs.all DV.one = true then some (h.put b (.blk { B with t := aLo vs o B.t })) else none
 | [], _, _, _, _, _, h => absurd rfl h
 | v :: vs, h, b, o, B, hB, _ => by
   simp only [hM, hB]; by_cases hc : ((!B.ro) && Nat.blt o B.n && v.one) = true
   · rw [hc, cond_true, Tr.setK_eq, H.putK_eq, bE]; rw [Bool.and_eq_true, Bool.and_eq_true, Nat.blt_eq] at hc; obtain ⟨⟨h1, h2⟩, h3⟩ := hc; cases vs with
     | nil =>
       rw [if_pos ⟨h1, by simp only [List.length_cons, List.length_nil]; omega, by simp [h3]⟩]; rfl
     | cons u us =>
       rw [aCe (u :: us) _ b (o + 1) { B with t := Tr.set v (Pa.of o) B.t } (by rw [H.get_put, if_pos rfl]) (by simp)]
       simp only [H.put_put]; by_cases hd : (!B.ro) = true /\ o + 1 + (u :: us).length <= B.n /\ (u :: us).all DV.one = true
       · rw [if_pos hd, if_pos ⟨h1, by have := hd.2.1; simp only [List.length_cons] at this ⊢; omega, by rw [List.all_cons, h3, hd.2.2]; rfl⟩]; rfl
       · rw [if_neg hd, if_neg]; intro hh; apply hd; refine ⟨h1, by have := hh.2.1; simp only [List.length_cons] at this ⊢; omega, ?_⟩
         have := hh.2.2; rw [List.all_cons, Bool.and_eq_true] at this; exact this.2
   · have hc' : ((!B.ro) && Nat.blt o B.n && v.one) = false := by simpa using hc
     rw [hc', cond_false, if_neg]; intro hh; apply hc; rw [Bool.and_eq_true, Bool.and_eq_true, Nat.blt_eq]; have h3 := hh.2.2; rw [List.all_cons, Bool.and_eq_true] at h3; exact ⟨⟨hh.1, by have := hh.2.1; simp only [List.length_cons] at this; omega⟩, h3.1⟩
theorem zS (vs : List DV) (h : H) (b o : Nat) : aBi vs h b o = hM vs h b o := by
 unfold aBi; split
 · rfl
 · rename_i v vs; split
   · rename_i B hB; rw [aCe (v :: vs) h b o B hB (by simp)]
     by_cases hd : (!B.ro) = true /\ o + (v :: vs).length <= B.n /\ (v :: vs).all DV.one = true
     · rw [if_pos hd, hd.1, Nat.ble_eq_true_of_le hd.2.1, hd.2.2]; simp only [Bool.and_self, cond_true, aEo, H.putK_eq]
     · rw [if_neg hd]; have : ((!B.ro) && Nat.ble (o + (v :: vs).length) B.n && (v :: vs).all DV.one) = false := by
         rw [Bool.eq_false_iff]; intro hh; rw [Bool.and_eq_true, Bool.and_eq_true] at hh; exact hd ⟨hh.1.1, Nat.le_of_ble_eq_true hh.1.2, hh.2⟩
       rw [this, cond_false]
   · rename_i hn; simp only [hM]
def bQ (n : Nat) (a x : DV) (h : H) : Option (DV × H) :=
 match a with
 | .ptr b o => bif Nat.beq x.cells.length n then (aBi x.cells h b o).map λ h => (.tup [], h) else none
 | _ => none
theorem aBj (n : Nat) (a x : DV) (h : H) : bQ n a x h = dSt n a x h := by unfold bQ dSt; simp only [zS]; cases a <;> rfl
def aBK (es : Nat) (rd : Rd) (x : DV) : Option (List DV) :=
 match x with
 | .nils => some []
 | .slE _ _ _ => some []
 | .slc b o n _ _ => oF rd b o (n * es)
 | .str s => bif Nat.beq es 1 then some (s.map λ b => .int .u8 (.ofNat b)) else none
 | _ => none
theorem aIp (es : Nat) (rd : Rd) (x : DV) : aBK es rd x = dP es rd x := by unfold aBK dP; simp only [cI]; cases x <;> rfl
def aOC (o len es : Nat) (B : Blk) (new : List DV) (rd : Rd) (b : Nat) : Option (Tr DV) := bif Nat.beq o 0 then aPZ new (len * es) B.t some else (oF rd b o (len * es)).map λ old => Tr.ofL (old ++ new)
def cF (es bytes : Nat) (s x : DV) (h : H) : Option (DV × H) :=
 (srcLen x).bind λ n => (aBK es h.get x).bind λ new =>
 match s with
 | .nils => bif Nat.beq n 0 then some (.nils, h) else
     bif Nat.blt (n * bytes) aW && Nat.blt n aW then h.pushK (.blk ⟨n * es, es, false, true, Tr.ofL new⟩) λ h' => some (.slc h.size 0 n n true, h') else none
 | .slE b o o2 => bif Nat.beq n 0 then some (.slE b o o2, h) else none
 | .slc b o len cap op => eC (len + n) λ need =>
     bif Nat.ble need cap then (aBi new h b (o + len * es)).map λ h => (.slc b o need cap op, h)
     else bif Nat.blt (need * bytes) aW && Nat.blt need aW then
       match h.get b with
       | some (.blk B) =>
         bif op then
           bif Nat.beq (o + cap * es) B.n && Nat.beq B.es es && (!B.ro) && Nat.ble len cap && new.all DV.one then
             (aOC o len es B new h.get b).bind λ t => eC (need * es) λ n' => h.pushK (.blk ⟨n', es, false, false, t⟩) λ h' => h'.putK b .dead λ h'' => some (.slc h.size 0 need need true, h'')
           else none
         else
           (oF h.get b o (len * es)).bind λ old => eC (need * es) λ n' => h.pushK (.blk ⟨n', es, false, true, Tr.ofL (old ++ new)⟩) λ h' => some (.slc h.size 0 need need true, h')
       | _ => none
     else none
 | _ => none
theorem aBL : ∀ (vs : List DV) (o : Nat) (t : Tr DV), aLo vs o t = Tr.ofF vs o t
 | [], _, _ => rfl
 | v :: vs, o, t => aBL vs (o + 1) _
theorem aTi (o len es : Nat) (B : Blk) (new : List DV) (rd : Rd) (b : Nat) : aOC o len es B new rd b = aDe o len es B new rd b := by
 unfold aOC aDe; rw [aEo, aBL, cI]
theorem eU (es bytes : Nat) (s x : DV) (h : H) : cF es bytes s x h = fS es bytes s x h := by
 unfold cF fS; simp only [aIp, zS, cI, aTi]; cases srcLen x with
 | none => rfl
 | some n =>
   simp only [Option.bind_some]; cases dP es h.get x with
   | none => rfl
   | some new =>
     simp only [Option.bind_some]; cases s <;> rfl
def aEl (es k : Nat) (rd : Rd) (x : DV) : Option (List DV) :=
 match x with
 | .nils => some []
 | .slE _ _ _ => some []
 | .slc b o _ _ _ => oF rd b o (k * es)
 | .str s => bif Nat.beq es 1 then some ((s.take k).map λ b => .int .u8 (.ofNat b)) else none
 | _ => none
theorem aLl (es k : Nat) (rd : Rd) (x : DV) : aEl es k rd x = qL es k rd x := by unfold aEl qL; simp only [cI]; cases x <;> rfl
def lR (es : Nat) (d x : DV) (h : H) : Option (DV × H) :=
 (srcLen x).bind λ n => match d with
 | .nils => some (.int .i64 0, h)
 | .slE _ _ _ => some (.int .i64 0, h)
 | .slc b o len _ _ => eC (bif Nat.ble n len then n else len) λ k => (aEl es k h.get x).bind λ new => (aBi new h b o).map λ h => (.int .i64 (.ofNat k), h)
 | _ => none
theorem aCf (es : Nat) (d x : DV) (h : H) : lR es d x h = aFg es d x h := by
 unfold lR aFg; simp only [aLl, zS]; cases srcLen x with
 | none => rfl
 | some n => cases d <;> rfl
def aIb (x y : DV) : Option DV := match x, y with
 | .str s, .int .u8 (.ofNat c) => bif Nat.blt c 256 then aMj (qI c s) λ n => some (.int .i64 n) else none
 | _, _ => none
def aNC (x y : DV) : Option DV := match x, y with
 | .str s, .int .u8 (.ofNat c) => bif Nat.blt c 256 then eC (aDx c s) λ n => some (.int .i64 (.ofNat n)) else none
 | _, _ => none
def aPP (k : Prm) : DV -> DV -> Option DV := Prm.rec (motive := λ _ => DV -> DV -> Option DV) aIb aNC k
def aKT (kt : LfK) (z : DV) (ok : Bool) (rd : Rd) (x k : DV) : Option DV := (match x with
   | .nilm => some none
   | .mp b => match rd b with
     | some (.map es _) => aHC kt k es
     | _ => none
   | _ => none).map λ r => match r with
     | some v => bif ok then .tup [v, .bool true] else v
     | none => bif ok then .tup [z, .bool false] else z
def yJ (es : Nat) (x : DV) (lo : Option DV) (hi mx : DV) : Option DV := match mx with
   | .int _ (.ofNat k) => (match x with
     | .nils => bif Nat.beq k 0 then dF 0 0 lo (some hi) λ l h => some .nils else none
     | .slc b o len cap op => bif Nat.ble k cap then dF len k lo (some hi) λ l h =>
         bif Nat.blt l k then (eC (o + l * es) λ o => eC (h - l) λ n => eC (k - l) λ c => some (.slc b o n c false)) else some (.slc b o 0 0 false) else none
     | _ => none)
   | _ => none
def aQ (c a b : DV) : Option DV := match c with
   | .bool t => some (Bool.rec b a t)
   | _ => none
def dS (t : EqT) (neg : Bool) (rd : Rd) (x y : DV) : Option DV := (dEq rd t x y).bind λ b => eX (bif neg then !b else b)
def aEa (neg : Bool) (s : EqS) (rd : Rd) (x y : DV) : Option DV := match x, y with
   | .agg xs, .agg ys => (rH rd s xs ys).bind λ b => eX (bif neg then !b else b)
   | _, _ => none
def kD (x : DV) : Option DV := match x with
   | .bool b => eX (!b)
   | _ => none
def aKS (x : DV) : Option DV := match x with
   | .int k n => jO k (0 - n)
   | _ => none
def fF (k : IntKind) (x : DV) : Option DV := match x with
   | .int _ n => jO k n
   | _ => none
def aHZ (x : DV) : Option DV := match x with
   | .str s => some (.str s)
   | _ => none
def mY (rd : Rd) (x : DV) : Option DV := match x with
   | .nils => some (.str [])
   | .slE _ _ _ => some (.str [])
   | .slc b o len _ _ => ((oF rd b o len).bind nY).bind yH
   | _ => none
def aI (rd : Rd) (x : DV) : Option DV := match x with
   | .ptr b o => aIE rd b o
   | _ => none
def aK (n : Nat) (rd : Rd) (x : DV) : Option DV := match x with
   | .ptr b o => (oF rd b o n).map .agg
   | _ => none
def aL (x : DV) : Option DV := match x with
   | .ptr b o => some (.ptr b o)
   | _ => none
def aF (off : Nat) (x : DV) : Option DV := match x with
   | .ptr b o => eC (o + off) λ o => some (.ptr b o)
   | _ => none
def aPR (off n : Nat) (agg : Bool) (x : DV) : Option DV := match x with
   | .agg cs => bif agg then (bif Nat.ble (off + n) cs.length then some (.agg ((cs.drop off).take n)) else none) else cs[off]?
   | _ => none
def lG (len es : Nat) (x i : DV) : Option DV := match x with
   | .ptr b o => rF len i λ n => eC (o + n * es) λ o => some (.ptr b o)
   | _ => none
def cC (es : Nat) (x i : DV) : Option DV := match x with
   | .slc b o len _ _ => rF len i λ n => eC (o + n * es) λ o => some (.ptr b o)
   | _ => none
def yM (len es : Nat) (agg : Bool) (x i : DV) : Option DV := match x with
   | .agg cs => rF len i λ n => bif agg then (bif Nat.ble (n * es + es) cs.length then some (.agg ((cs.drop (n * es)).take es)) else none) else cs[n * es]?
   | _ => none
def gQ (x i : DV) : Option DV := match x with
   | .str s => rF s.length i λ n => (s[n]?).map λ b => .int .u8 (.ofNat b)
   | _ => none
def gY (x : DV) (lo hi : Option DV) : Option DV := match x with
   | .str s => dF s.length s.length lo hi λ l h => yH ((s.take h).drop l)
   | _ => none
def dK (es : Nat) (x : DV) (lo hi : Option DV) : Option DV := match x with
   | .nils => dF 0 0 lo hi λ l h => some .nils
   | .slc b o len cap op => dF len cap lo hi λ l h =>
       bif Nat.blt l cap then (eC (o + l * es) λ o => eC (h - l) λ n => eC (cap - l) λ c => some (.slc b o n c op))
       else bif op then (eC (o + l * es) λ o2 => some (.slE b o o2)) else some (.slc b o 0 0 false)
   | .slE b o o2 => dF 0 0 lo hi λ l h => some (.slE b o o2)
   | _ => none
def aPO (n es : Nat) (x : DV) (lo hi : Option DV) : Option DV := match x with
   | .ptr b o => dF n n lo hi λ l h =>
       bif Nat.blt l n then (eC (o + l * es) λ o => eC (h - l) λ m => eC (n - l) λ c => some (.slc b o m c false))
       else some (.slc b o 0 0 false)
   | _ => none
def aG (i : Nat) (x : DV) : Option DV := match x with
   | .tup vs => vs[i]?
   | _ => none
def bZ (x : DV) : Option DV := match x with
   | .str s => eC s.length λ n => some (.int .i64 (.ofNat n))
   | _ => none
def cB (x : DV) : Option DV := match x with
   | .nils => some (.int .i64 (.ofNat 0))
   | .slc _ _ n _ _ => some (.int .i64 (.ofNat n))
   | .slE _ _ _ => some (.int .i64 (.ofNat 0))
   | _ => none
abbrev aEb (x : DV) : Option DV := aQG x
abbrev aKR (rd : Rd) (x y : DV) : Option DV := aJg rd x y
def aIa (rd : Rd) (x : DV) : Option DV := match x with
   | .nilm => some (.int .i64 (.ofNat 0))
   | .mp b => match rd b with
     | some (.map es _) => eC es.length λ n => some (.int .i64 (.ofNat n))
     | _ => none
   | _ => none
def aAv (a b : DV) : Option DV := match a, b with
   | .int k x, .int k' y => some (.int k (bif iLt y x then y else x))
   | _, _ => none
def aBz (a b : DV) : Option DV := match a, b with
   | .int k x, .int k' y => some (.int k (bif iLt x y then y else x))
   | _, _ => none
def eM (zero : List DV) (parts : List (Nat × Nat × DV)) : Option DV := (iJ zero parts).map .agg
def rM (t : Nat) (zero : DV) (ok : Bool) (x : DV) : Option DV := match x with
   | .nili => bif ok then some (.tup [zero, .bool false]) else none
   | .ifc u v => bif Nat.beq u t then some (bif ok then .tup [v, .bool true] else v) else bif ok then some (.tup [zero, .bool false]) else none
   | _ => none
section
variable {R : Type}
def dZ (n es : Nat) (z : Zs) (h : H) (k : DV -> H -> Option R) : Option R := h.pushK (.blk ⟨n, es, false, true, z.tr⟩) λ h' => k (.ptr h.size 0) h'
def dN (x : DV) (h : H) (k : DV -> H -> Option R) : Option R := eC x.cells.length λ n => h.pushK (.blk ⟨n, n, false, true, Tr.ofL x.cells⟩) λ h' => k (.ptr h.size 0) h'
def gT (n es : Nat) (zero : List DV) (parts : List (Nat × Nat × DV)) (h : H) (k : DV -> H -> Option R) : Option R :=
 (iJ (gR zero n) parts).bind λ cs => h.pushK (.blk ⟨n * es, es, false, true, Tr.ofL cs⟩) λ h' => k (.slc h.size 0 n n false) h'
def uE (es bytes : Nat) (zero : DV) (l c : DV) (h : H) (k : DV -> H -> Option R) : Option R := match l, c with
   | .int _ (.ofNat l), .int _ (.ofNat c) =>
     bif Nat.ble l c && Nat.blt (bytes * c) 140737488355328 && Nat.blt c 140737488355328 then
       h.pushK (.blk ⟨c, 1, false, true, Tr.full zero 48⟩) λ h' => k (.slc h.size 0 l c false) h'
     else none
   | _, _ => none
def aQs (h : H) (k : DV -> H -> Option R) : Option R := h.pushK (.map [] 0) λ h' => k (.mp h.size) h'
def aHj (x : DV) (h : H) (k : DV -> H -> Option R) : Option R := match x with
   | .str s => eC s.length λ n => h.pushK (.blk ⟨n, 1, false, false, Tr.ofL (s.map λ b => .int .u8 (.ofNat b))⟩) λ h' => k (.slc h.size 0 n n true) h'
   | _ => none
end
end Go.DI
namespace Go.DI
open Go.RowKit
abbrev Rg := Pa -> DV
def e2 (σ : Rg) (x : aT) : DV := aT.rec (motive := λ _ => DV) (λ p => σ p) (λ v => v) x
def fset (p : Pa) (v : DV) (σ : Rg) : Rg := λ q => Bool.rec (σ q) v (zB q p)
def reg (ρ : Tr DV) : Rg := λ p => ev ρ (.r p)
theorem aVQ (ρ : Tr DV) (x : aT) : e2 (reg ρ) x = ev ρ x := by cases x <;> rfl
theorem cV (ρ : Tr DV) : e2 (reg ρ) = ev ρ := funext (aVQ ρ)
theorem bBQ (ρ : Tr DV) (p : Pa) (v : DV) : reg (Tr.set v p ρ) = fset p v (reg ρ) := by
 funext q
 unfold reg fset; rw [zQ]; by_cases h : q = p
 · subst h; rw [if_pos rfl, wZ]
 · rw [if_neg h]; cases e : zB q p with
   | true => exact absurd (jX e) h
   | false => rfl
section
variable {R : Type}
abbrev bTu (σ : Rg) (h : H) (k : DV -> H -> Option R) : Option R := none
abbrev bSY (q : Prm) (x y : aT) (σ : Rg) (h : H) (k : DV -> H -> Option R) : Option R := vK (aPP q (e2 σ x) (e2 σ y)) λ v => k v h
abbrev bTg (kt : LfK) (z : DV) (ok : Bool) (x y : aT) (σ : Rg) (h : H) (k : DV -> H -> Option R) : Option R := vK (aKT kt z ok h.get (e2 σ x) (e2 σ y)) λ v => k v h
abbrev bSU (es : Nat) (x : aT) (lo : Option aT) (hi mx : aT) (σ : Rg) (h : H) (k : DV -> H -> Option R) : Option R := vK (yJ es (e2 σ x) (lo.map (e2 σ)) (e2 σ hi) (e2 σ mx)) λ v => k v h
abbrev bJa (c a b : aT) (σ : Rg) (h : H) (k : DV -> H -> Option R) : Option R := vK (aQ (e2 σ c) (e2 σ a) (e2 σ b)) λ v => k v h
abbrev bTt (op : BinOp) (x y : aT) (σ : Rg) (h : H) (k : DV -> H -> Option R) : Option R := vK (aPS op (e2 σ x) (e2 σ y)) λ v => k v h
abbrev bTo (t : EqT) (neg : Bool) (x y : aT) (σ : Rg) (h : H) (k : DV -> H -> Option R) : Option R := vK (dS t neg h.get (e2 σ x) (e2 σ y)) λ v => k v h
abbrev bTp (neg : Bool) (s : EqS) (x y : aT) (σ : Rg) (h : H) (k : DV -> H -> Option R) : Option R := vK (aEa neg s h.get (e2 σ x) (e2 σ y)) λ v => k v h
abbrev bTa (x : aT) (σ : Rg) (h : H) (k : DV -> H -> Option R) : Option R := vK (kD (e2 σ x)) λ v => k v h
abbrev bTb (x : aT) (σ : Rg) (h : H) (k : DV -> H -> Option R) : Option R := vK (aKS (e2 σ x)) λ v => k v h
abbrev bJf (q : IntKind) (x : aT) (σ : Rg) (h : H) (k : DV -> H -> Option R) : Option R := vK (fF q (e2 σ x)) λ v => k v h
abbrev bIZ (x : aT) (σ : Rg) (h : H) (k : DV -> H -> Option R) : Option R := vK (aHZ (e2 σ x)) λ v => k v h
abbrev bTv (x : aT) (σ : Rg) (h : H) (k : DV -> H -> Option R) : Option R := vK (mY h.get (e2 σ x)) λ v => k v h
abbrev o_ld (x : aT) (σ : Rg) (h : H) (k : DV -> H -> Option R) : Option R := vK (aI h.get (e2 σ x)) λ v => k v h
abbrev bTh (n : Nat) (x : aT) (σ : Rg) (h : H) (k : DV -> H -> Option R) : Option R := vK (aK n h.get (e2 σ x)) λ v => k v h
abbrev aUO (x : aT) (σ : Rg) (h : H) (k : DV -> H -> Option R) : Option R := vK (aL (e2 σ x)) λ v => k v h
abbrev o_fa (off : Nat) (x : aT) (σ : Rg) (h : H) (k : DV -> H -> Option R) : Option R := vK (aF off (e2 σ x)) λ v => k v h
abbrev bTm (off n : Nat) (agg : Bool) (x : aT) (σ : Rg) (h : H) (k : DV -> H -> Option R) : Option R := vK (aPR off n agg (e2 σ x)) λ v => k v h
abbrev bTl (len es : Nat) (x i : aT) (σ : Rg) (h : H) (k : DV -> H -> Option R) : Option R := vK (lG len es (e2 σ x) (e2 σ i)) λ v => k v h
abbrev bTk (es : Nat) (x i : aT) (σ : Rg) (h : H) (k : DV -> H -> Option R) : Option R := vK (cC es (e2 σ x) (e2 σ i)) λ v => k v h
abbrev bTj (len es : Nat) (agg : Bool) (x i : aT) (σ : Rg) (h : H) (k : DV -> H -> Option R) : Option R := vK (yM len es agg (e2 σ x) (e2 σ i)) λ v => k v h
abbrev bTi (x i : aT) (σ : Rg) (h : H) (k : DV -> H -> Option R) : Option R := vK (gQ (e2 σ x) (e2 σ i)) λ v => k v h
abbrev bST (x : aT) (lo hi : Option aT) (σ : Rg) (h : H) (k : DV -> H -> Option R) : Option R := vK (gY (e2 σ x) (lo.map (e2 σ)) (hi.map (e2 σ))) λ v => k v h
abbrev bSV (es : Nat) (x : aT) (lo hi : Option aT) (σ : Rg) (h : H) (k : DV -> H -> Option R) : Option R := vK (dK es (e2 σ x) (lo.map (e2 σ)) (hi.map (e2 σ))) λ v => k v h
abbrev bSW (n es : Nat) (x : aT) (lo hi : Option aT) (σ : Rg) (h : H) (k : DV -> H -> Option R) : Option R := vK (aPO n es (e2 σ x) (lo.map (e2 σ)) (hi.map (e2 σ))) λ v => k v h
abbrev bTn (i : Nat) (x : aT) (σ : Rg) (h : H) (k : DV -> H -> Option R) : Option R := vK (aG i (e2 σ x)) λ v => k v h
abbrev bJb (x : aT) (σ : Rg) (h : H) (k : DV -> H -> Option R) : Option R := vK (bZ (e2 σ x)) λ v => k v h
abbrev bJd (x : aT) (σ : Rg) (h : H) (k : DV -> H -> Option R) : Option R := vK (cB (e2 σ x)) λ v => k v h
abbrev bJc (x : aT) (σ : Rg) (h : H) (k : DV -> H -> Option R) : Option R := vK (aIa h.get (e2 σ x)) λ v => k v h
abbrev bJg (x : aT) (σ : Rg) (h : H) (k : DV -> H -> Option R) : Option R := vK (aEb (e2 σ x)) λ v => k v h
abbrev bSZ (x y : aT) (σ : Rg) (h : H) (k : DV -> H -> Option R) : Option R := vK (aKR h.get (e2 σ x) (e2 σ y)) λ v => k v h
abbrev o_mn (a b : aT) (σ : Rg) (h : H) (k : DV -> H -> Option R) : Option R := vK (aAv (e2 σ a) (e2 σ b)) λ v => k v h
abbrev o_mx (a b : aT) (σ : Rg) (h : H) (k : DV -> H -> Option R) : Option R := vK (aBz (e2 σ a) (e2 σ b)) λ v => k v h
abbrev bTs (zero : List DV) (parts : List (Nat × Nat × aT)) (σ : Rg) (h : H) (k : DV -> H -> Option R) : Option R := vK (eM zero (parts.map λ p => (p.1, p.2.1, e2 σ p.2.2))) λ v => k v h
abbrev bSS (t : Nat) (zero : DV) (ok : Bool) (x : aT) (σ : Rg) (h : H) (k : DV -> H -> Option R) : Option R := vK (rM t zero ok (e2 σ x)) λ v => k v h
abbrev o_mv (x : aT) (σ : Rg) (h : H) (k : DV -> H -> Option R) : Option R := k (e2 σ x) h
abbrev bTe (t : Nat) (x : aT) (σ : Rg) (h : H) (k : DV -> H -> Option R) : Option R := k (.ifc t (e2 σ x)) h
abbrev bTf (f : Fn) (a c : List aT) (σ : Rg) (h : H) (k : DV -> H -> Option R) : Option R := k (.fn f (a.map (e2 σ)) (c.map (e2 σ))) h
abbrev bJe (n : Nat) (σ : Rg) (h : H) (k : DV -> H -> Option R) : Option R := k (.int .i64 (.ofNat n)) h
abbrev bTw (n es : Nat) (z : Zs) (σ : Rg) (h : H) (k : DV -> H -> Option R) : Option R := dZ n es z h k
abbrev bTr (x : aT) (σ : Rg) (h : H) (k : DV -> H -> Option R) : Option R := dN (e2 σ x) h k
abbrev bTq (n es : Nat) (zero : List DV) (parts : List (Nat × Nat × aT)) (σ : Rg) (h : H) (k : DV -> H -> Option R) : Option R := gT n es zero (parts.map λ p => (p.1, p.2.1, e2 σ p.2.2)) h k
abbrev bTc (es bytes : Nat) (zero : DV) (l c : aT) (σ : Rg) (h : H) (k : DV -> H -> Option R) : Option R := uE es bytes zero (e2 σ l) (e2 σ c) h k
abbrev bTd  (σ : Rg) (h : H) (k : DV -> H -> Option R) : Option R := aQs h k
abbrev bSX (x : aT) (σ : Rg) (h : H) (k : DV -> H -> Option R) : Option R := aHj (e2 σ x) h k
abbrev bCg (d : EOp) : Rg -> H -> (DV -> H -> Option R) -> Option R :=
 EOp.rec (motive := λ _ => Rg -> H -> (DV -> H -> Option R) -> Option R) bTu bSY bTg bSU o_mv bJa bTt bTo bTp bTa bTb bJf bIZ bTv bTe bTf o_ld bTh aUO o_fa bTm bTl bTk bTj bTi bST bSV bSW bTn bJb bJd bJc bJg bSZ bJe o_mn o_mx bTs bSS bTw bTr bTq bTc bTd bSX d
end
def bFK (q : Prm) (x y : aT) (σ : Rg) (rd : Rd) : Option DV := aPP q (e2 σ x) (e2 σ y)
def bFQ (kt : LfK) (z : DV) (ok : Bool) (x y : aT) (σ : Rg) (rd : Rd) : Option DV := aKT kt z ok rd (e2 σ x) (e2 σ y)
def bFH (es : Nat) (x : aT) (lo : Option aT) (hi mx : aT) (σ : Rg) (rd : Rd) : Option DV := yJ es (e2 σ x) (lo.map (e2 σ)) (e2 σ hi) (e2 σ mx)
def aVq (c a b : aT) (σ : Rg) (rd : Rd) : Option DV := aQ (e2 σ c) (e2 σ a) (e2 σ b)
def bGb (op : BinOp) (x y : aT) (σ : Rg) (rd : Rd) : Option DV := aPS op (e2 σ x) (e2 σ y)
def bFY (t : EqT) (neg : Bool) (x y : aT) (σ : Rg) (rd : Rd) : Option DV := dS t neg rd (e2 σ x) (e2 σ y)
def bFZ (neg : Bool) (s : EqS) (x y : aT) (σ : Rg) (rd : Rd) : Option DV := aEa neg s rd (e2 σ x) (e2 σ y)
def bFM (x : aT) (σ : Rg) (rd : Rd) : Option DV := kD (e2 σ x)
def bFN (x : aT) (σ : Rg) (rd : Rd) : Option DV := aKS (e2 σ x)
def aVv (q : IntKind) (x : aT) (σ : Rg) (rd : Rd) : Option DV := fF q (e2 σ x)
def aVp (x : aT) (σ : Rg) (rd : Rd) : Option DV := aHZ (e2 σ x)
def bGc (x : aT) (σ : Rg) (rd : Rd) : Option DV := mY rd (e2 σ x)
def g_ld (x : aT) (σ : Rg) (rd : Rd) : Option DV := aI rd (e2 σ x)
def bFR (n : Nat) (x : aT) (σ : Rg) (rd : Rd) : Option DV := aK n rd (e2 σ x)
def aMd (x : aT) (σ : Rg) (rd : Rd) : Option DV := aL (e2 σ x)
def g_fa (off : Nat) (x : aT) (σ : Rg) (rd : Rd) : Option DV := aF off (e2 σ x)
def bFW (off n : Nat) (agg : Bool) (x : aT) (σ : Rg) (rd : Rd) : Option DV := aPR off n agg (e2 σ x)
def bFV (len es : Nat) (x i : aT) (σ : Rg) (rd : Rd) : Option DV := lG len es (e2 σ x) (e2 σ i)
def bFU (es : Nat) (x i : aT) (σ : Rg) (rd : Rd) : Option DV := cC es (e2 σ x) (e2 σ i)
def bFT (len es : Nat) (agg : Bool) (x i : aT) (σ : Rg) (rd : Rd) : Option DV := yM len es agg (e2 σ x) (e2 σ i)
def bFS (x i : aT) (σ : Rg) (rd : Rd) : Option DV := gQ (e2 σ x) (e2 σ i)
def bFG (x : aT) (lo hi : Option aT) (σ : Rg) (rd : Rd) : Option DV := gY (e2 σ x) (lo.map (e2 σ)) (hi.map (e2 σ))
def bFI (es : Nat) (x : aT) (lo hi : Option aT) (σ : Rg) (rd : Rd) : Option DV := dK es (e2 σ x) (lo.map (e2 σ)) (hi.map (e2 σ))
def bFJ (n es : Nat) (x : aT) (lo hi : Option aT) (σ : Rg) (rd : Rd) : Option DV := aPO n es (e2 σ x) (lo.map (e2 σ)) (hi.map (e2 σ))
def bFX (i : Nat) (x : aT) (σ : Rg) (rd : Rd) : Option DV := aG i (e2 σ x)
def aVr (x : aT) (σ : Rg) (rd : Rd) : Option DV := bZ (e2 σ x)
def aVt (x : aT) (σ : Rg) (rd : Rd) : Option DV := cB (e2 σ x)
def aVs (x : aT) (σ : Rg) (rd : Rd) : Option DV := aIa rd (e2 σ x)
def aVw (x : aT) (σ : Rg) (rd : Rd) : Option DV := aEb (e2 σ x)
def bFL (x y : aT) (σ : Rg) (rd : Rd) : Option DV := aKR rd (e2 σ x) (e2 σ y)
def g_mn (a b : aT) (σ : Rg) (rd : Rd) : Option DV := aAv (e2 σ a) (e2 σ b)
def g_mx (a b : aT) (σ : Rg) (rd : Rd) : Option DV := aBz (e2 σ a) (e2 σ b)
def bGa (zero : List DV) (parts : List (Nat × Nat × aT)) (σ : Rg) (rd : Rd) : Option DV := eM zero (parts.map λ p => (p.1, p.2.1, e2 σ p.2.2))
def bFF (t : Nat) (zero : DV) (ok : Bool) (x : aT) (σ : Rg) (rd : Rd) : Option DV := rM t zero ok (e2 σ x)
def g_mv (x : aT) (σ : Rg) (rd : Rd) : Option DV := some (e2 σ x)
def bFO (t : Nat) (x : aT) (σ : Rg) (rd : Rd) : Option DV := some (.ifc t (e2 σ x))
def bFP (f : Fn) (a c : List aT) (σ : Rg) (rd : Rd) : Option DV := some (.fn f (a.map (e2 σ)) (c.map (e2 σ)))
def aVu (n : Nat) (σ : Rg) (rd : Rd) : Option DV := some (.int .i64 (.ofNat n))
def bUa (n es : Nat) (z : Zs) (σ : Rg) (rd : Rd) : Option DV := none
def bTY (x : aT) (σ : Rg) (rd : Rd) : Option DV := none
def bTX (n es : Nat) (zero : List DV) (parts : List (Nat × Nat × aT)) (σ : Rg) (rd : Rd) : Option DV := none
def bTT (es bytes : Nat) (zero : DV) (l c : aT) (σ : Rg) (rd : Rd) : Option DV := none
def bTU  (σ : Rg) (rd : Rd) : Option DV := none
def bTP (x : aT) (σ : Rg) (rd : Rd) : Option DV := none
def bTZ  (σ : Rg) (rd : Rd) : Option DV := none
def eR (d : EOp) : Rg -> Rd -> Option DV :=
 EOp.rec (motive := λ _ => Rg -> Rd -> Option DV) bTZ bFK bFQ bFH g_mv aVq bGb bFY bFZ bFM bFN aVv aVp bGc bFO bFP g_ld bFR aMd g_fa bFW bFV bFU bFT bFS bFG bFI bFJ bFX aVr aVt aVs aVw bFL aVu g_mn g_mx bGa bFF bUa bTY bTX bTT bTU bTP d
def aQw : EOp -> Bool
 | .alc _ _ _ | .box _ | .bsl _ _ _ _ | .mks _ _ _ _ _ | .mkm | .s2b _ | .bad => true
 | _ => false
theorem bCD (q : Prm) (x y : aT) (ρ : Tr DV) (rd : Rd) : dD (.prm q x y) ρ rd = (aPP q (ev ρ x) (ev ρ y)).map .val := by
 simp only [dD, aPP]; generalize ev ρ x = x'; generalize ev ρ y = y'; cases x' <;> (try (cases q <;> rfl))
 cases y' <;> (try (cases q <;> rfl))
 rename_i s kk n; cases kk <;> (try (cases q <;> rfl))
 cases n <;> (try (cases q <;> rfl))
 rename_i c; cases q
 · show (bif Nat.blt c 256 then _ else none) = (bif Nat.blt c 256 then _ else none : Option DV).map _; cases Nat.blt c 256 <;> simp only [cond_false, cond_true, pD] <;> rfl
 · show (bif Nat.blt c 256 then _ else none) = (bif Nat.blt c 256 then _ else none : Option DV).map _; cases Nat.blt c 256 <;> simp only [cond_false, cond_true, bE] <;> rfl
theorem bCJ (kt : LfK) (z : DV) (ok : Bool) (x y : aT) (ρ : Tr DV) (rd : Rd) : dD (.lkp kt z ok x y) ρ rd = (aKT kt z ok rd (ev ρ x) (ev ρ y)).map .val := by
 simp only [dD, aKT, Option.map_map]
 congr 1; funext r; cases r <;> rfl
theorem bCz (es : Nat) (x : aT) (lo : Option aT) (hi mx : aT) (ρ : Tr DV) (rd : Rd) : dD (.slM es x lo hi mx) ρ rd = (yJ es (ev ρ x) (lo.map (ev ρ)) (ev ρ hi) (ev ρ mx)).map .val := by
 simp only [dD, yJ]; generalize ev ρ x = x'; generalize ev ρ hi = hi'; generalize ev ρ mx = mx'; cases mx' <;> try rfl
 rename_i k n; cases n <;> try rfl
 rename_i n; cases x' <;> try rfl
 · show (bif Nat.beq n 0 then _ else none) = (bif Nat.beq n 0 then _ else none : Option DV).map _; cases Nat.beq n 0 <;> rfl
 · rename_i a b c d e; show (bif Nat.ble n d then _ else none) = (bif Nat.ble n d then _ else none : Option DV).map _; cases Nat.ble n d <;> rfl
theorem aVI (c a b : aT) (ρ : Tr DV) (rd : Rd) : dD (.pick c a b) ρ rd = (aQ (ev ρ c) (ev ρ a) (ev ρ b)).map .val := by
 simp only [dD, aQ]; generalize ev ρ c = c'; generalize ev ρ a = a'; generalize ev ρ b = b'; cases c' <;> try rfl
 rename_i t; cases t <;> rfl
theorem bCU (op : BinOp) (x y : aT) (ρ : Tr DV) (rd : Rd) : dD (.bin op x y) ρ rd = (aPS op (ev ρ x) (ev ρ y)).map .val := by
 rw [aTY]; rfl
theorem bCR (t : EqT) (neg : Bool) (x y : aT) (ρ : Tr DV) (rd : Rd) : dD (.eqv t neg x y) ρ rd = (dS t neg rd (ev ρ x) (ev ρ y)).map .val := by
 rfl
theorem bCS (neg : Bool) (s : EqS) (x y : aT) (ρ : Tr DV) (rd : Rd) : dD (.eqs neg s x y) ρ rd = (aEa neg s rd (ev ρ x) (ev ρ y)).map .val := by
 simp only [dD, aEa]; generalize ev ρ x = x'; generalize ev ρ y = y'; cases x' <;> cases y' <;> rfl
theorem bCF (x : aT) (ρ : Tr DV) (rd : Rd) : dD (.not x) ρ rd = (kD (ev ρ x)).map .val := by
 simp only [dD, kD, cK, cI]; generalize ev ρ x = x'; cases x' <;> rfl
theorem bCG (x : aT) (ρ : Tr DV) (rd : Rd) : dD (.neg x) ρ rd = (aKS (ev ρ x)).map .val := by
 simp only [dD, aKS, cK, cI]; generalize ev ρ x = x'; cases x' <;> rfl
theorem aVN (q : IntKind) (x : aT) (ρ : Tr DV) (rd : Rd) : dD (.conv q x) ρ rd = (fF q (ev ρ x)).map .val := by
 simp only [dD, fF, cK, cI]; generalize ev ρ x = x'; cases x' <;> rfl
theorem aVH (x : aT) (ρ : Tr DV) (rd : Rd) : dD (.same x) ρ rd = (aHZ (ev ρ x)).map .val := by
 simp only [dD, aHZ, cK, cI]; generalize ev ρ x = x'; cases x' <;> rfl
theorem bCV (x : aT) (ρ : Tr DV) (rd : Rd) : dD (.b2s x) ρ rd = (mY rd (ev ρ x)).map .val := by
 simp only [dD, mY, cK, cI]; generalize ev ρ x = x'; cases x' <;> rfl
theorem bJW (x : aT) (ρ : Tr DV) (rd : Rd) : dD (.ld x) ρ rd = (aI rd (ev ρ x)).map .val := by
 simp only [dD, aI, cK, cI]; generalize ev ρ x = x'; cases x' <;> rfl
theorem bCK (n : Nat) (x : aT) (ρ : Tr DV) (rd : Rd) : dD (.ldN n x) ρ rd = (aK n rd (ev ρ x)).map .val := by
 simp only [dD, aK, cK, cI]; generalize ev ρ x = x'; cases x' <;> rfl
theorem aOP (x : aT) (ρ : Tr DV) (rd : Rd) : dD (.nilchk x) ρ rd = (aL (ev ρ x)).map .val := by
 simp only [dD, aL, cK, cI]; generalize ev ρ x = x'; cases x' <;> rfl
theorem bJX (off : Nat) (x : aT) (ρ : Tr DV) (rd : Rd) : dD (.fa off x) ρ rd = (aF off (ev ρ x)).map .val := by
 simp only [dD, aF, bE]; generalize ev ρ x = x'; cases x' <;> rfl
theorem bCP (off n : Nat) (agg : Bool) (x : aT) (ρ : Tr DV) (rd : Rd) : dD (.fld off n agg x) ρ rd = (aPR off n agg (ev ρ x)).map .val := by
 simp only [dD, aPR]; generalize ev ρ x = x'; cases x' <;> try rfl
 rename_i cs; cases agg <;> try rfl
 show (bif Nat.ble (off + n) cs.length then _ else none) = (bif Nat.ble (off + n) cs.length then _ else none : Option DV).map _; cases Nat.ble (off + n) cs.length <;> rfl
theorem bCO (len es : Nat) (x i : aT) (ρ : Tr DV) (rd : Rd) : dD (.iaA len es x i) ρ rd = (lG len es (ev ρ x) (ev ρ i)).map .val := by
 simp only [dD, lG, cK, cI]; generalize ev ρ x = x'; generalize ev ρ i = i'; cases x' <;> rfl
theorem bCN (es : Nat) (x i : aT) (ρ : Tr DV) (rd : Rd) : dD (.iaS es x i) ρ rd = (cC es (ev ρ x) (ev ρ i)).map .val := by
 simp only [dD, cC, cK, cI]; generalize ev ρ x = x'; generalize ev ρ i = i'; cases x' <;> rfl
theorem bCM (len es : Nat) (agg : Bool) (x i : aT) (ρ : Tr DV) (rd : Rd) : dD (.ixA len es agg x i) ρ rd = (yM len es agg (ev ρ x) (ev ρ i)).map .val := by
 simp only [dD, yM, cK, cI]; generalize ev ρ x = x'; generalize ev ρ i = i'; cases x' <;> rfl
theorem bCL (x i : aT) (ρ : Tr DV) (rd : Rd) : dD (.ixS x i) ρ rd = (gQ (ev ρ x) (ev ρ i)).map .val := by
 simp only [dD, gQ, cK, cI]; generalize ev ρ x = x'; generalize ev ρ i = i'; cases x' <;> rfl
theorem bCy (x : aT) (lo hi : Option aT) (ρ : Tr DV) (rd : Rd) : dD (.slS x lo hi) ρ rd = (gY (ev ρ x) (lo.map (ev ρ)) (hi.map (ev ρ))).map .val := by
 simp only [dD, gY, cK, cI]; generalize ev ρ x = x'; cases x' <;> rfl
theorem bCA (es : Nat) (x : aT) (lo hi : Option aT) (ρ : Tr DV) (rd : Rd) : dD (.slL es x lo hi) ρ rd = (dK es (ev ρ x) (lo.map (ev ρ)) (hi.map (ev ρ))).map .val := by
 simp only [dD, dK, cK, cI]; generalize ev ρ x = x'; cases x' <;> rfl
theorem bCB (n es : Nat) (x : aT) (lo hi : Option aT) (ρ : Tr DV) (rd : Rd) : dD (.slA n es x lo hi) ρ rd = (aPO n es (ev ρ x) (lo.map (ev ρ)) (hi.map (ev ρ))).map .val := by
 simp only [dD, aPO, cK, cI]; generalize ev ρ x = x'; cases x' <;> rfl
theorem bCQ (i : Nat) (x : aT) (ρ : Tr DV) (rd : Rd) : dD (.ext i x) ρ rd = (aG i (ev ρ x)).map .val := by
 simp only [dD, aG, cK, cI]; generalize ev ρ x = x'; cases x' <;> rfl
theorem aVJ (x : aT) (ρ : Tr DV) (rd : Rd) : dD (.lenS x) ρ rd = (bZ (ev ρ x)).map .val := by
 simp only [dD, bZ, bE]; generalize ev ρ x = x'; cases x' <;> rfl
theorem aVL (x : aT) (ρ : Tr DV) (rd : Rd) : dD (.lenL x) ρ rd = (cB (ev ρ x)).map .val := by
 simp only [dD, cB, cK, cI]; generalize ev ρ x = x'; cases x' <;> rfl
theorem aVK (x : aT) (ρ : Tr DV) (rd : Rd) : dD (.lenM x) ρ rd = (aIa rd (ev ρ x)).map .val := by
 simp only [dD, aIa, bE]; generalize ev ρ x = x'; cases x' <;> try rfl
 rename_i b; simp only []; cases rd b with
 | none => rfl
 | some o => cases o <;> rfl
theorem aVO (x : aT) (ρ : Tr DV) (rd : Rd) : dD (.capL x) ρ rd = (aEb (ev ρ x)).map .val := by
 rfl
theorem bCE (x y : aT) (ρ : Tr DV) (rd : Rd) : dD (.ovl x y) ρ rd = (aKR rd (ev ρ x) (ev ρ y)).map .val := by
 rfl
theorem bJV (a b : aT) (ρ : Tr DV) (rd : Rd) : dD (.mn a b) ρ rd = (aAv (ev ρ a) (ev ρ b)).map .val := by
 simp only [dD, aAv]; generalize ev ρ a = a'; generalize ev ρ b = b'; cases a' <;> cases b' <;> rfl
theorem bJT (a b : aT) (ρ : Tr DV) (rd : Rd) : dD (.mx a b) ρ rd = (aBz (ev ρ a) (ev ρ b)).map .val := by
 simp only [dD, aBz]; generalize ev ρ a = a'; generalize ev ρ b = b'; cases a' <;> cases b' <;> rfl
theorem bCT (zero : List DV) (parts : List (Nat × Nat × aT)) (ρ : Tr DV) (rd : Rd) : dD (.bld zero parts) ρ rd = (eM zero (parts.map λ p => (p.1, p.2.1, ev ρ p.2.2))).map .val := by
 rfl
theorem bCx (t : Nat) (zero : DV) (ok : Bool) (x : aT) (ρ : Tr DV) (rd : Rd) : dD (.tas t zero ok x) ρ rd = (rM t zero ok (ev ρ x)).map .val := by
 simp only [dD, rM]; generalize ev ρ x = x'; cases x' <;> try rfl
 · cases ok <;> rfl
 · rename_i u v; simp only []; cases Nat.beq u t <;> cases ok <;> rfl
theorem bJU (x : aT) (ρ : Tr DV) (rd : Rd) : dD (.mv x) ρ rd = (some (ev ρ x) : Option DV).map .val := rfl
theorem bCH (t : Nat) (x : aT) (ρ : Tr DV) (rd : Rd) : dD (.mkI t x) ρ rd = (some (.ifc t (ev ρ x)) : Option DV).map .val := rfl
theorem bCI (f : Fn) (a c : List aT) (ρ : Tr DV) (rd : Rd) : dD (.mkF f a c) ρ rd = (some (.fn f (a.map (ev ρ)) (c.map (ev ρ))) : Option DV).map .val := rfl
theorem aVM (n : Nat) (ρ : Tr DV) (rd : Rd) : dD (.lenA n) ρ rd = (some (.int .i64 (.ofNat n)) : Option DV).map .val := rfl
theorem aHy {d : EOp} (hd : aQw d = false) (ρ : Tr DV) (rd : Rd) : dD d ρ rd = (eR d (reg ρ) rd).map .val := by
 cases d
 · cases hd
 · rw [bCD]; simp only [eR, bFK, cV]
 · rw [bCJ]; simp only [eR, bFQ, cV]
 · rw [bCz]; simp only [eR, bFH, cV]
 · rw [bJU]; simp only [eR, g_mv, cV]
 · rw [aVI]; simp only [eR, aVq, cV]
 · rw [bCU]; simp only [eR, bGb, cV]
 · rw [bCR]; simp only [eR, bFY, cV]
 · rw [bCS]; simp only [eR, bFZ, cV]
 · rw [bCF]; simp only [eR, bFM, cV]
 · rw [bCG]; simp only [eR, bFN, cV]
 · rw [aVN]; simp only [eR, aVv, cV]
 · rw [aVH]; simp only [eR, aVp, cV]
 · rw [bCV]; simp only [eR, bGc, cV]
 · rw [bCH]; simp only [eR, bFO, cV]
 · rw [bCI]; simp only [eR, bFP, cV]
 · rw [bJW]; simp only [eR, g_ld, cV]
 · rw [bCK]; simp only [eR, bFR, cV]
 · rw [aOP]; simp only [eR, aMd, cV]
 · rw [bJX]; simp only [eR, g_fa, cV]
 · rw [bCP]; simp only [eR, bFW, cV]
 · rw [bCO]; simp only [eR, bFV, cV]
 · rw [bCN]; simp only [eR, bFU, cV]
 · rw [bCM]; simp only [eR, bFT, cV]
 · rw [bCL]; simp only [eR, bFS, cV]
 · rw [bCy]; simp only [eR, bFG, cV]
 · rw [bCA]; simp only [eR, bFI, cV]
 · rw [bCB]; simp only [eR, bFJ, cV]
 · rw [bCQ]; simp only [eR, bFX, cV]
 · rw [aVJ]; simp only [eR, aVr, cV]
 · rw [aVL]; simp only [eR, aVt, cV]
 · rw [aVK]; simp only [eR, aVs, cV]
 · rw [aVO]; simp only [eR, aVw, cV]
 · rw [bCE]; simp only [eR, bFL, cV]
 · rw [aVM]; simp only [eR, aVu, cV]
 · rw [bJV]; simp only [eR, g_mn, cV]
 · rw [bJT]; simp only [eR, g_mx, cV]
 · rw [bCT]; simp only [eR, bGa, cV]
 · rw [bCx]; simp only [eR, bFF, cV]
 · cases hd
 · cases hd
 · cases hd
 · cases hd
 · cases hd
 · cases hd
section
variable {R : Type}
theorem aUM {d : EOp} (hd : aQw d = false) (σ : Rg) (h : H) (k : DV -> H -> Option R) : bCg d σ h k = vK (eR d σ h.get) λ v => k v h := by
 cases d <;> first | (cases hd; done) | rfl
theorem bCf (E : bO) (d : EOp) (ρ : Tr DV) (h : H) (k : DV -> H -> Option R) : bCg d (reg ρ) h k = (odo E (.e d) ρ h).bind λ x => k x.1 x.2 := by
 cases hd : aQw d with
 | false =>
   rw [aUM hd]; simp only [odo, aDI]; rw [aHy hd]; cases eR d (reg ρ) h.get <;> rfl
 | true =>
   simp only [odo, aDI]; cases d <;> first | (cases hd; done) | skip
   · rfl
   · rename_i n es z; simp only [dD, H.pushK_eq, Option.bind_some]; show dZ n es z h k = _; simp only [dZ, H.pushK_eq]
   · rename_i x; simp only [dD, H.pushK_eq, bE, Option.bind_some]; show dN (e2 (reg ρ) x) h k = _; simp only [dN, H.pushK_eq, bE, cV]
   · rename_i n es zero parts; show gT n es zero (parts.map λ p => (p.1, p.2.1, e2 (reg ρ) p.2.2)) h k = _
     simp only [dD, gT, cV]; cases iJ (gR zero n) (parts.map λ p => (p.1, p.2.1, ev ρ p.2.2)) with
     | none => rfl
     | some cs => simp only [Option.bind_some, Option.map_some, H.pushK_eq]
   · rename_i es bytes zero l c; show uE es bytes zero (e2 (reg ρ) l) (e2 (reg ρ) c) h k = _; simp only [dD, uE, cV]; generalize ev ρ l = l'; generalize ev ρ c = c'; cases l' <;> try rfl
     rename_i k1 n1; cases n1 <;> try rfl
     rename_i n1; cases c' <;> try rfl
     rename_i k2 n2; cases n2 <;> try rfl
     rename_i n2; simp only []; cases (Nat.ble n1 n2 && Nat.blt (bytes * n2) 140737488355328 && Nat.blt n2 140737488355328) with
     | false => rfl
     | true => simp only [cond_true, H.pushK_eq, Option.bind_some]
   · simp only [dD, H.pushK_eq, Option.bind_some]; show aQs h k = _; simp only [aQs, H.pushK_eq]
   · rename_i x; show aHj (e2 (reg ρ) x) h k = _; simp only [dD, aHj, cV]; generalize ev ρ x = x'; cases x' <;> try rfl
     simp only [bE, H.pushK_eq, Option.bind_some]
end
end Go.DI
namespace Go.DI
open Go.RowKit
def oW (E : bO) (f : DV) (args : List DV) (h : H) : Option (DV × H) := match f with
 | .fn (.func g) first captured => aD E g (first ++ args ++ captured) h
 | _ => none
def vW (E : bO) (tbl : List (Nat × Nat)) (x : DV) (args : List DV) (h : H) : Option (DV × H) := match x with
 | .ifc t v => match look t tbl with
   | some f => aD E f (v :: args) h
   | none => none
 | _ => none
def aAV (dst : Option Pa) (v : DV) (σ : Rg) : Rg := Option.rec (motive := λ _ => Rg) σ (λ p => fset p v σ) dst
section
variable {R : Type}
def odoW (d : WOp) : Rg -> H -> (DV -> H -> Option R) -> Option R :=
 WOp.rec (motive := λ _ => Rg -> H -> (DV -> H -> Option R) -> Option R)
   (λ n a x σ h k => wK (bQ n (e2 σ a) (e2 σ x) h) k)
   (λ es bytes x y σ h k => wK (cF es bytes (e2 σ x) (e2 σ y) h) k)
   (λ es x y σ h k => wK (lR es (e2 σ x) (e2 σ y) h) k)
   (λ kt x q y σ h k => wK (aTt kt (e2 σ x) (e2 σ q) (e2 σ y) h) k)
   (λ zs x σ h k => wK (vT zs (e2 σ x) h) k)
   (λ x σ h k => wK (aBk (e2 σ x) h) k)
   (λ es bytes zs x y σ h k => wK (aMA es bytes zs (e2 σ x) (e2 σ y) h) k) d
def odoC (E : bO) (d : COp) : Rg -> H -> (DV -> H -> Option R) -> Option R :=
 COp.rec (motive := λ _ => Rg -> H -> (DV -> H -> Option R) -> Option R)
   (λ f args σ h k => wK (aD E f (args.map (e2 σ)) h) k)
   (λ f args σ h k => wK (oW E (e2 σ f) (args.map (e2 σ)) h) k)
   (λ tbl x args σ h k => wK (vW E tbl (e2 σ x) (args.map (e2 σ)) h) k) d
def aUN (E : bO) (d : DOp) : Rg -> H -> (DV -> H -> Option R) -> Option R :=
 DOp.rec (motive := λ _ => Rg -> H -> (DV -> H -> Option R) -> Option R) bCg odoW (odoC E) d
def bA (c : DV) (t : Bool) (op : (DV -> H -> Option R) -> Option R) (h : H) (k : DV -> H -> Option R) : Option R := gK c t (op k) (k (.tup []) h)
def aOO (E : bO) (g : DG) (σ : Rg) (h : H) (k : Rg -> H -> Option R) : Option R :=
 Option.rec (motive := λ _ => Option R) (aUN E g.op σ h λ v h => k (aAV g.dst v σ) h)
   (λ x => bA (σ x.1) x.2 (λ kk => aUN E g.op σ h kk) h λ v h => k (aAV g.dst v σ) h) g.guard
def aIW (E : bO) (l : List DG) : Rg -> H -> (Rg -> H -> Option R) -> Option R :=
 List.rec (motive := λ _ => Rg -> H -> (Rg -> H -> Option R) -> Option R) (λ σ h k => k σ h) (λ g _ ih σ h k => aOO E g σ h λ σ h => ih σ h k) l
def gB (c : DV) (t : Bool) (x : Bool) : Bool := match c with
 | .bool c => Bool.rec (Bool.rec x true t) (Bool.rec true x t) c
 | _ => true
def bBS (d : DOp) (dst : Option Pa) (σ : Rg) (h : H) : Bool :=
 DOp.rec (motive := λ _ => Bool) (λ e => Option.rec (motive := λ _ => Bool) false (λ p => rcK (eR e σ h.get) (σ p)) dst) (λ _ => false) (λ _ => false) d
def pG (g : DG) (σ : Rg) (h : H) : Bool :=
 Option.rec (motive := λ _ => Bool) (bBS g.op g.dst σ h) (λ x => gB (σ x.1) x.2 (bBS g.op g.dst σ h)) g.guard
def rK (b : Bool) (x : Option R) : Option R := Bool.rec none x b
def reK (pre : List DR) (σ : Rg) (h : H) (x : Option R) (l : Ln) : Option R :=
 List.rec (motive := λ _ => Option R) x (λ q _ ih => rK (Option.rec (motive := λ _ => Bool) false (λ g => pG g σ h) (aAX q pre)) ih) l
def aON (E : bO) (l : List DR) : List DR -> Rg -> H -> (Rg -> H -> Option R) -> Option R :=
 List.rec (motive := λ _ => List DR -> Rg -> H -> (Rg -> H -> Option R) -> Option R) (λ _ σ h k => k σ h)
   (λ x _ ih pre σ h k => aOO E x.g σ h λ σ h => reK pre σ h (ih (x :: pre) σ h k) x.re) l
abbrev gW (R : Type) := DX -> Rg -> H -> Option R
def aBI (k : Rg -> H -> Option R) (K : gW R) : gW R := λ x σ h =>
 DX.rec (motive := λ _ => Option R) (k σ h) (λ id => K (.exit id) σ h) (K .ret σ h) x
def aQM (id : Nat) (K : gW R) : gW R := λ x σ h =>
 DX.rec (motive := λ _ => Option R) (K .normal σ h) (λ i => Bool.rec (K (.exit i) σ h) (K .normal σ h) (Nat.beq i id)) (K .ret σ h) x
def aQa (K : gW R) : gW R := λ x σ h =>
 DX.rec (motive := λ _ => Option R) (K .normal σ h) (λ i => Bool.rec none (K (.exit i) σ h) (Nat.blt i 4294967296)) (K .ret σ h) x
def aBW (g : Nat) (k : Rg -> H -> Option R) (K : gW R) : gW R := λ x σ h =>
 DX.rec (motive := λ _ => Option R) (K .normal σ h) (λ i => Bool.rec (Bool.rec none (K (.exit i) σ h) (Nat.blt i 4294967296)) (k σ h) (Nat.beq i g)) (K .ret σ h) x
def zN (body : Rg -> H -> gW R -> Option R) (g : Nat) (K : gW R) (n : Nat) : Rg -> H -> Option R :=
 Nat.rec (motive := λ _ => Rg -> H -> Option R) (λ _ _ => none) (λ _ ih σ h => body σ h (aBW g ih K)) n
def vI (body : Rg -> H -> gW R -> Option R) (K : gW R) (n : Nat) : Rg -> H -> Option R :=
 Nat.rec (motive := λ _ => Rg -> H -> Option R) (λ _ _ => none) (λ _ ih σ h => body σ h (aBI ih K)) n
def kL (E : bO) (c : DC) : Rg -> H -> gW R -> Option R :=
 DC.rec (motive := λ _ => Rg -> H -> gW R -> Option R)
   (λ σ h K => K .normal σ h)
   (λ l σ h K => aIW E l σ h λ σ h => K .normal σ h)
   (λ _ _ ia ib σ h K => ia σ h (aBI (λ σ h => ib σ h K) K))
   (λ c _ _ ia ib σ h K => bK (e2 σ c) (ia σ h K) (ib σ h K))
   (λ id _ ia σ h K => ia σ h (aQM id K))
   (λ _ ia σ h K => vI ia K aR σ h)
   (λ id σ h K => K (.exit id) σ h)
   (λ σ h K => K .ret σ h)
   (λ _ ia σ h K => ia σ h (aQa K))
   (λ l σ h K => aON E l [] σ h λ σ h => K .normal σ h)
   (λ _ _ _ => none)
   (λ g _ _ ia ir σ h K => ia σ h (aBW g (zN ir g K aR) K)) c
end
def rv2 (σ : Rg) (h : H) (r : RV) (k : DV -> Option (DV × H)) : Option (DV × H) :=
 RV.rec (motive := λ _ => Option (DV × H)) (λ p => k (σ p)) (λ p => vK (aI h.get (σ p)) k) (λ p n => vK (aK n h.get (σ p)) k) r
def aUr (σ : Rg) (h : H) (l : List RV) : (List DV -> Option (DV × H)) -> Option (DV × H) :=
 List.rec (motive := λ _ => (List DV -> Option (DV × H)) -> Option (DV × H)) (λ k => k []) (λ r _ ih k => rv2 σ h r λ v => ih λ vs => k (v :: vs)) l
def aQi (res : List RV) : gW (DV × H) := λ x σ h =>
 DX.rec (motive := λ _ => Option (DV × H)) (aUr σ h res λ vs => some (rS vs, h)) (λ _ => none) (aUr σ h res λ vs => some (rS vs, h)) x
def aNU (E : bO) (d : DF) : cE := λ args h => Bool.rec none (kL E d.body (reg (Tr.ofL args)) h (aQi d.res)) (Nat.beq args.length d.np)
section
variable {R : Type} {E : bO} {ρ : Tr DV}
theorem aQp (d : DOp) (ρ : Tr DV) (h : H) (k : DV -> H -> Option R) : aUN E d (reg ρ) h k = (odo E d ρ h).bind λ x => k x.1 x.2 := by
 cases d with
 | e d => exact bCf E d ρ h k
 | w d =>
   rw [<- bFk]; cases d <;> (show wK _ k = wK _ k; simp only [odo, wdo, cV, aBj, eU, aCf])
 | c d =>
   rw [<- bFk]; cases d with
   | f f args => show wK (aD E f (args.map (e2 (reg ρ))) h) k = wK (aD E f (args.map (ev ρ)) h) k; rw [cV]
   | v f args => show wK (oW E (e2 (reg ρ) f) (args.map (e2 (reg ρ))) h) k = wK (oW E (ev ρ f) (args.map (ev ρ)) h) k; rw [cV]
   | m tbl x args => show wK (vW E tbl (e2 (reg ρ) x) (args.map (e2 (reg ρ))) h) k = wK (vW E tbl (ev ρ x) (args.map (ev ρ)) h) k; rw [cV]
theorem aUz (dst : Option Pa) (v : DV) (ρ : Tr DV) : reg (sV dst v ρ) = aAV dst v (reg ρ) := by
 cases dst with
 | none => rfl
 | some p => exact bBQ ρ p v
theorem bUb (p : Pa) (t : Bool) (a b : Option R) : gK (reg ρ p) t a b = bif fB ρ (some (p, t)) then a else b := by
 show gK (ev ρ (.r p)) t a b = _; unfold fB; simp only []; generalize ev ρ (.r p) = x; cases x <;> try rfl
 rename_i c; cases c <;> cases t <;> rfl
theorem bUd (p : Pa) (t : Bool) (x : Bool) : gB (reg ρ p) t x = bif fB ρ (some (p, t)) then x else true := by
 show gB (ev ρ (.r p)) t x = _; unfold fB; simp only []; generalize ev ρ (.r p) = y; cases y <;> try rfl
 rename_i c; cases c <;> cases t <;> rfl
theorem aHw (g : DG) (h : H) (k : Tr DV -> H -> Option R) (k2 : Rg -> H -> Option R) (hk : ∀ ρ h, k ρ h = k2 (reg ρ) h) : vM E g ρ h k = aOO E g (reg ρ) h k2 := by
 obtain ⟨dst, guard, op⟩ := g; unfold vM; simp only [qM, hk, aUz]; cases guard with
 | none =>
   show (odo E op ρ h).bind (λ x => k2 (aAV dst x.1 (reg ρ)) x.2) = aUN E op (reg ρ) h λ v h => k2 (aAV dst v (reg ρ)) h
   rw [aQp]
 | some x =>
   obtain ⟨p, t⟩ := x; show _ = gK (reg ρ p) t (aUN E op (reg ρ) h λ v h => k2 (aAV dst v (reg ρ)) h) (k2 (aAV dst (.tup []) (reg ρ)) h)
   rw [bUb, aQp]
theorem aFb : ∀ (l : List DG) (ρ : Tr DV) (h : H) (k : Tr DV -> H -> Option R) (k2 : Rg -> H -> Option R), (∀ ρ h, k ρ h = k2 (reg ρ) h) -> aIX E l ρ h k = aIW E l (reg ρ) h k2
 | [], ρ, h, k, k2, hk => hk ρ h
 | g :: l, ρ, h, k, k2, hk => aHw g h _ (λ σ h => aIW E l σ h k2) λ ρ h => aFb l ρ h k k2 hk
theorem bBR (g : DG) (h : H) : aAP g ρ h = pG g (reg ρ) h := by
 obtain ⟨dst, guard, op⟩ := g; have key : (match op, dst with
     | .e d, some p => match dD d ρ h.get with
       | some (.val v) => qJ v (ev ρ (.r p))
       | _ => false
     | _, _ => false) = bBS op dst (reg ρ) h := by
   cases op with
   | w d => rfl
   | c d => rfl
   | e d =>
     cases dst with
     | none => rfl
     | some p =>
       show _ = rcK (eR d (reg ρ) h.get) (reg ρ p); simp only []; cases hd : aQw d with
       | false =>
         rw [aHy hd]; cases eR d (reg ρ) h.get <;> rfl
       | true =>
         have e1 : eR d (reg ρ) h.get = none := by cases d <;> first | (cases hd; done) | rfl
         rw [e1]; show _ = false; split
         · rename_i v hv
           exfalso
           cases d <;> first | (cases hd; done) | skip
           · cases hv
           · cases hv
           · simp only [dD, bE] at hv; cases hv
           · rename_i a b c d; simp only [dD] at hv; cases hq : iJ (gR c a) (d.map λ p => (p.1, p.2.1, ev ρ p.2.2)) with
             | none => rw [hq] at hv; cases hv
             | some cs => rw [hq] at hv; cases hv
           · simp only [dD] at hv; split at hv
             · obtain ⟨_, hv⟩ := bI hv; cases hv
             · cases hv
           · cases hv
           · simp only [dD, bE] at hv; split at hv <;> cases hv
         · rfl
 unfold aAP pG; cases guard with
 | none => exact key
 | some x =>
   obtain ⟨p, t⟩ := x; show _ = gB (reg ρ p) t (bBS op dst (reg ρ) h); rw [bUd, <- key]
   rfl
theorem aUB (pre : List DR) (h : H) (x : Option R) : ∀ l : Ln, (bif l.all (nU pre ρ h) then x else none) = reK pre (reg ρ) h x l
 | [] => rfl
 | q :: l => by
   show _ = rK (Option.rec (motive := λ _ => Bool) false (λ g => pG g (reg ρ) h) (aAX q pre)) (reK pre (reg ρ) h x l)
   rw [<- aUB pre h x l]; have e : nU pre ρ h q = Option.rec (motive := λ _ => Bool) false (λ g => pG g (reg ρ) h) (aAX q pre) := by
     unfold nU; cases aAX q pre with
     | none => rfl
     | some g => exact bBR g h
   rw [<- e, List.all_cons]; cases nU pre ρ h q <;> rfl
theorem aHv : ∀ (l pre : List DR) (ρ : Tr DV) (h : H) (k : Tr DV -> H -> Option R) (k2 : Rg -> H -> Option R), (∀ ρ h, k ρ h = k2 (reg ρ) h) -> uG E l pre ρ h k = aON E l pre (reg ρ) h k2
 | [], pre, ρ, h, k, k2, hk => hk ρ h
 | x :: l, pre, ρ, h, k, k2, hk => by
   refine aHw x.g h (λ ρ h => bif x.re.all (nU pre ρ h) then uG E l (x :: pre) ρ h k else none) (λ σ h => reK pre σ h (aON E l (x :: pre) σ h k2) x.re) λ ρ h => ?_
   rw [<- aHv l (x :: pre) ρ h k k2 hk]; exact aUB pre h _ x.re
theorem aVF : ∀ (d : DC) (ρ : Tr DV) (h : H) (K : KT R) (K2 : gW R), (∀ x ρ h, K x ρ h = K2 x (reg ρ) h) -> vN E d ρ h K = kL E d (reg ρ) h K2 := by
 intro d
 induction d with
 | skip => intro ρ h K K2 hk; exact hk .normal ρ h
 | reg l => intro ρ h K K2 hk; exact aFb l ρ h _ _ λ ρ h => hk .normal ρ h
 | seq a b iha ihb =>
   intro ρ h K K2 hk; refine iha ρ h _ (aBI (λ σ h => kL E b σ h K2) K2) λ x ρ h => ?_
   cases x with
   | normal => exact ihb ρ h K K2 hk
   | exit i => exact hk (.exit i) ρ h
   | ret => exact hk .ret ρ h
 | cond c a b iha ihb =>
   intro ρ h K K2 hk; show aDT c a b (vN E a) (vN E b) ρ h K = bK (e2 (DI.reg ρ) c) (kL E a (DI.reg ρ) h K2) (kL E b (DI.reg ρ) h K2); rw [<- iha ρ h K K2 hk, <- ihb ρ h K K2 hk, aVQ]; unfold aDT bK; cases ev ρ c <;> try rfl
   rename_i t; cases t <;> rfl
 | block id a iha =>
   intro ρ h K K2 hk; refine iha ρ h _ (aQM id K2) λ x ρ h => ?_
   cases x with
   | normal => exact hk .normal ρ h
   | exit i =>
     show (bif Nat.beq i id then K .normal ρ h else K (.exit i) ρ h) = Bool.rec (K2 (.exit i) (DI.reg ρ) h) (K2 .normal (DI.reg ρ) h) (Nat.beq i id); cases Nat.beq i id
     · exact hk (.exit i) ρ h
     · exact hk .normal ρ h
   | ret => exact hk .ret ρ h
 | loop a iha =>
   intro ρ h K K2 hk; show aQv (vN E a) K aR ρ h = vI (kL E a) K2 aR (DI.reg ρ) h; generalize aR = n
   induction n generalizing ρ h with
   | zero => rfl
   | succ n ih =>
     refine iha ρ h _ (aBI (vI (kL E a) K2 n) K2) λ x ρ h => ?_
     cases x with
     | normal => exact ih ρ h
     | exit i => exact hk (.exit i) ρ h
     | ret => exact hk .ret ρ h
 | exit id => intro ρ h K K2 hk; exact hk (.exit id) ρ h
 | ret => intro ρ h K K2 hk; exact hk .ret ρ h
 | scope a iha =>
   intro ρ h K K2 hk; refine iha ρ h _ (aQa K2) λ x ρ h => ?_
   cases x with
   | normal => exact hk .normal ρ h
   | exit i =>
     show (bif Nat.blt i 4294967296 then K (.exit i) ρ h else none) = Bool.rec none (K2 (.exit i) (DI.reg ρ) h) (Nat.blt i 4294967296); cases Nat.blt i 4294967296
     · rfl
     · exact hk (.exit i) ρ h
   | ret => exact hk .ret ρ h
 | jump g a r iha ihr =>
   intro ρ h K K2 hk; have jk : ∀ (k : Tr DV -> H -> Option R) (k2 : Rg -> H -> Option R), (∀ ρ h, k ρ h = k2 (DI.reg ρ) h) -> ∀ x ρ h, aLW g k K x ρ h = aBW g k2 K2 x (DI.reg ρ) h := by
     intro k k2 hkk x ρ h; cases x with
     | normal => exact hk .normal ρ h
     | exit i =>
       show (bif Nat.beq i g then k ρ h else bif Nat.blt i 4294967296 then K (.exit i) ρ h else none) = Bool.rec (Bool.rec none (K2 (.exit i) (DI.reg ρ) h) (Nat.blt i 4294967296)) (k2 (DI.reg ρ) h) (Nat.beq i g); cases Nat.beq i g
       · cases Nat.blt i 4294967296
         · rfl
         · exact hk (.exit i) ρ h
       · exact hkk ρ h
     | ret => exact hk .ret ρ h
   have key : ∀ n ρ h, aHl (vN E r) g K n ρ h = zN (kL E r) g K2 n (DI.reg ρ) h := by
     intro n
     induction n with
     | zero => intro ρ h; rfl
     | succ n ih => intro ρ h; exact ihr ρ h _ (aBW g (zN (kL E r) g K2 n) K2) (jk _ _ ih)
   exact iha ρ h _ (aBW g (zN (kL E r) g K2 aR) K2) (jk _ _ (key aR))
 | drg l => intro ρ h K K2 hk; exact aHv l [] ρ h _ _ λ ρ h => hk .normal ρ h
 | bad => intro ρ h K K2 hk; rfl
theorem aQe (h : H) : ∀ (l : List RV) (k : List DV -> Option (DV × H)), aUr (reg ρ) h l k = (qN ρ h l).bind k
 | [], k => rfl
 | r :: l, k => by
   show rv2 (reg ρ) h r (λ v => aUr (reg ρ) h l λ vs => k (v :: vs)) = _
   simp only [aQe h l]; have e : ∀ q : DV -> Option (DV × H), rv2 (reg ρ) h r q = (aIt ρ h r).bind q := by
     intro q; cases r with
     | r p => rfl
     | cell p =>
       show vK (aI h.get (ev ρ (.r p))) q = _; rw [bFl]; simp only [aIt, aI, cK]; generalize ev ρ (.r p) = y; cases y <;> rfl
     | cells p n =>
       show vK (aK n h.get (ev ρ (.r p))) q = _; rw [bFl]; simp only [aIt, aK, cI]; generalize ev ρ (.r p) = y; cases y <;> rfl
   rw [e]; simp only [qN]; cases aIt ρ h r with
   | none => rfl
   | some v =>
     simp only [Option.bind_some]; cases qN ρ h l <;> rfl
theorem aSE (E : bO) (d : DF) (args : List DV) (h : H) : mK E d args h = aNU E d args h := by
 unfold mK aNU; cases Nat.beq args.length d.np with
 | false => rfl
 | true =>
   show vN E d.body (Tr.ofL args) h (retK d.res) = kL E d.body (reg (Tr.ofL args)) h (aQi d.res); refine aVF d.body _ h _ _ λ x ρ h => ?_
   have e : ((qN ρ h d.res).map λ vs => (rS vs, h)) = aUr (reg ρ) h d.res λ vs => some (rS vs, h) := by
     rw [aQe]; cases qN ρ h d.res <;> rfl
   cases x with
   | normal => exact e
   | exit i => rfl
   | ret => exact e
end
section
variable {R : Type}
abbrev bSP (d : WOp) : Rg -> H -> (DV -> H -> Option R) -> Option R :=
 WOp.rec (motive := λ _ => Rg -> H -> (DV -> H -> Option R) -> Option R)
   (λ n a x σ h k => wK (bQ n (e2 σ a) (e2 σ x) h) k)
   (λ es bytes x y σ h k => wK (cF es bytes (e2 σ x) (e2 σ y) h) k)
   (λ es x y σ h k => wK (lR es (e2 σ x) (e2 σ y) h) k)
   (λ kt x q y σ h k => wK (aTt kt (e2 σ x) (e2 σ q) (e2 σ y) h) k)
   (λ zs x σ h k => wK (vT zs (e2 σ x) h) k)
   (λ x σ h k => wK (aBk (e2 σ x) h) k)
   (λ es bytes zs x y σ h k => wK (aMA es bytes zs (e2 σ x) (e2 σ y) h) k) d
abbrev bSQ (E : bO) (d : COp) : Rg -> H -> (DV -> H -> Option R) -> Option R :=
 COp.rec (motive := λ _ => Rg -> H -> (DV -> H -> Option R) -> Option R)
   (λ f args σ h k => wK (aD E f (args.map (e2 σ)) h) k)
   (λ f args σ h k => wK (oW E (e2 σ f) (args.map (e2 σ)) h) k)
   (λ tbl x args σ h k => wK (vW E tbl (e2 σ x) (args.map (e2 σ)) h) k) d
abbrev odo3 (E : bO) (d : DOp) : Rg -> H -> (DV -> H -> Option R) -> Option R :=
 DOp.rec (motive := λ _ => Rg -> H -> (DV -> H -> Option R) -> Option R) bCg bSP (bSQ E) d
abbrev aVD (E : bO) (g : DG) (σ : Rg) (h : H) (k : Rg -> H -> Option R) : Option R :=
 Option.rec (motive := λ _ => Option R) (odo3 E g.op σ h λ v h => k (aAV g.dst v σ) h)
   (λ x => bA (σ x.1) x.2 (λ kk => odo3 E g.op σ h kk) h λ v h => k (aAV g.dst v σ) h) g.guard
abbrev bCu (E : bO) (l : List DG) : Rg -> H -> (Rg -> H -> Option R) -> Option R :=
 List.rec (motive := λ _ => Rg -> H -> (Rg -> H -> Option R) -> Option R) (λ σ h k => k σ h) (λ g _ ih σ h k => aVD E g σ h λ σ h => ih σ h k) l
abbrev reK3 (pre : List DR) (σ : Rg) (h : H) (x : Option R) (l : Ln) : Option R :=
 List.rec (motive := λ _ => Option R) x (λ q _ ih => rK (Option.rec (motive := λ _ => Bool) false (λ g => pG g σ h) (aAX q pre)) ih) l
abbrev bJS (E : bO) (l : List DR) : List DR -> Rg -> H -> (Rg -> H -> Option R) -> Option R :=
 List.rec (motive := λ _ => List DR -> Rg -> H -> (Rg -> H -> Option R) -> Option R) (λ _ σ h k => k σ h)
   (λ x _ ih pre σ h k => aVD E x.g σ h λ σ h => reK3 pre σ h (ih (x :: pre) σ h k) x.re) l
abbrev cH (k : Rg -> H -> Option R) (K : gW R) : gW R := λ x σ h =>
 DX.rec (motive := λ _ => Option R) (k σ h) (λ id => K (.exit id) σ h) (K .ret σ h) x
abbrev bL (id : Nat) (K : gW R) : gW R := λ x σ h =>
 DX.rec (motive := λ _ => Option R) (K .normal σ h) (λ i => Bool.rec (K (.exit i) σ h) (K .normal σ h) (Nat.beq i id)) (K .ret σ h) x
abbrev aDD (K : gW R) : gW R := λ x σ h =>
 DX.rec (motive := λ _ => Option R) (K .normal σ h) (λ i => Bool.rec none (K (.exit i) σ h) (Nat.blt i 4294967296)) (K .ret σ h) x
abbrev aVj (g : Nat) (k : Rg -> H -> Option R) (K : gW R) : gW R := λ x σ h =>
 DX.rec (motive := λ _ => Option R) (K .normal σ h) (λ i => Bool.rec (Bool.rec none (K (.exit i) σ h) (Nat.blt i 4294967296)) (k σ h) (Nat.beq i g)) (K .ret σ h) x
abbrev mO (E : bO) (c : DC) : Rg -> H -> gW R -> Option R :=
 DC.rec (motive := λ _ => Rg -> H -> gW R -> Option R)
   (λ σ h K => K .normal σ h)
   (λ l σ h K => bCu E l σ h λ σ h => K .normal σ h)
   (λ _ _ ia ib σ h K => ia σ h (cH (λ σ h => ib σ h K) K))
   (λ c _ _ ia ib σ h K => bK (e2 σ c) (ia σ h K) (ib σ h K))
   (λ id _ ia σ h K => ia σ h (bL id K))
   (λ _ ia σ h K => vI ia K aR σ h)
   (λ id σ h K => K (.exit id) σ h)
   (λ σ h K => K .ret σ h)
   (λ _ ia σ h K => ia σ h (aDD K))
   (λ l σ h K => bJS E l [] σ h λ σ h => K .normal σ h)
   (λ _ _ _ => none)
   (λ g _ _ ia ir σ h K => ia σ h (aVj g (zN ir g K aR) K)) c
end
abbrev rv3 (σ : Rg) (h : H) (r : RV) (k : DV -> Option (DV × H)) : Option (DV × H) :=
 RV.rec (motive := λ _ => Option (DV × H)) (λ p => k (σ p)) (λ p => vK (aI h.get (σ p)) k) (λ p n => vK (aK n h.get (σ p)) k) r
abbrev rvs3 (σ : Rg) (h : H) (l : List RV) : (List DV -> Option (DV × H)) -> Option (DV × H) :=
 List.rec (motive := λ _ => (List DV -> Option (DV × H)) -> Option (DV × H)) (λ k => k []) (λ r _ ih k => rv3 σ h r λ v => ih λ vs => k (v :: vs)) l
abbrev bN (res : List RV) : gW (DV × H) := λ x σ h =>
 DX.rec (motive := λ _ => Option (DV × H)) (rvs3 σ h res λ vs => some (rS vs, h)) (λ _ => none) (rvs3 σ h res λ vs => some (rS vs, h)) x
theorem aVE {R : Type} (E : bO) (c : DC) (σ : Rg) (h : H) (K : gW R) : mO E c σ h K = kL E c σ h K := by
 induction c generalizing σ h K with
 | skip => rfl
 | reg l => rfl
 | seq a b iha ihb =>
   show mO E a σ h (cH (λ σ h => mO E b σ h K) K) = kL E a σ h (aBI (λ σ h => kL E b σ h K) K)
   rw [iha, show (λ σ h => mO E b σ h K) = λ σ h => kL E b σ h K from funext λ σ => funext λ h => ihb σ h K]
   rfl
 | cond c a b iha ihb =>
   show bK (e2 σ c) (mO E a σ h K) (mO E b σ h K) = bK (e2 σ c) (kL E a σ h K) (kL E b σ h K); rw [iha, ihb]
 | block id a iha => exact iha σ h _
 | loop a iha =>
   have e : mO (R := R) E a = kL E a := funext λ σ => funext λ h => funext λ K => iha σ h K
   show vI (mO E a) K aR σ h = vI (kL E a) K aR σ h; rw [e]
 | exit id => rfl
 | ret => rfl
 | scope a iha => exact iha σ h _
 | drg l => rfl
 | bad => rfl
 | jump g a r iha ihr =>
   have e : mO (R := R) E r = kL E r := funext λ σ => funext λ h => funext λ K => ihr σ h K
   show mO E a σ h (aVj g (zN (mO E r) g K aR) K) = kL E a σ h (aBW g (zN (kL E r) g K aR) K); rw [e, iha]; rfl
def Is {R : Type} (E : bO) (c : DC) (K : gW R) (S : Rg -> H -> Option R) : Prop := ∀ σ h, mO E c σ h K = S σ h
section
variable {R : Type} {E : bO} {K : gW R}
theorem Is.leaf (c : DC) : Is E c K λ σ h => mO E c σ h K := λ _ _ => rfl
theorem Is.seq {a b : DC} {Sa Sb : Rg -> H -> Option R} (hb : Is E b K Sb) (ha : Is E a (cH Sb K) Sa) : Is E (.seq a b) K Sa := λ σ h => by
 have e : (λ σ h => mO E b σ h K) = Sb := funext λ σ => funext λ h => hb σ h
 show mO E a σ h (cH (λ σ h => mO E b σ h K) K) = _
 rw [e]; exact ha σ h
theorem Is.block {id : Nat} {a : DC} {Sa : Rg -> H -> Option R} (ha : Is E a (bL id K) Sa) : Is E (.block id a) K Sa := ha
theorem Is.scope {a : DC} {Sa : Rg -> H -> Option R} (ha : Is E a (aDD K) Sa) : Is E (.scope a) K Sa := ha
theorem Is.loop {a : DC} (S : Nat -> Rg -> H -> Option R) (h0 : S 0 = λ _ _ => none) (hs : ∀ n, Is E a (cH (S n) K) (S (n + 1))) : Is E (.loop a) K (S aR) := by
 have key : ∀ n, vI (mO E a) K n = S n := by
   intro n
   induction n with
   | zero => exact h0.symm
   | succ n ih =>
     funext σ h
     show mO E a σ h (aBI (vI (mO E a) K n) K) = _; rw [ih]; exact hs n σ h
 exact λ σ h => congrFun (congrFun (key aR) σ) h
theorem Is.as {c : DC} {S T : Rg -> H -> Option R} (h : Is E c K S) (e : ∀ σ m, S σ m = T σ m) : Is E c K T := λ σ m => (h σ m).trans (e σ m)
end
end Go.DI
namespace Go.DI
open Go.RowKit
def a0 {R : Type} (args : List DV) (x : Option R) : Option R := List.rec (motive := λ _ => Option R) x (λ _ _ _ => none) args
def aS {R : Type} (args : List DV) (k : DV -> List DV -> Option R) : Option R := List.rec (motive := λ _ => Option R) none (λ v vs _ => k v vs) args
abbrev aU := Option (DV × H)
theorem Is.fn {E : bO} {d : DF} {S : Rg -> H -> aU} (h : Is E d.body (bN d.res) S) {np : Nat} (hn : d.np = np) (F : cE) (hF : ∀ args h, args.length = np -> S (reg (Tr.ofL args)) h = F args h) (h0 : ∀ args h, args.length ≠ np -> F args h = none) (args : List DV) (m : H) : mK E d args m = F args m := by
 rw [aSE]; unfold aNU; have e0 : ∀ σ m, kL E d.body σ m (aQi d.res) = S σ m := λ σ m => (aVE E d.body σ m (aQi d.res)).symm.trans (h σ m)
 subst hn; by_cases e : args.length = d.np
 · rw [e, Nat.beq_refl]; exact (e0 _ m).trans (hF args m e)
 · have : Nat.beq args.length d.np = false := by
     cases hb : Nat.beq args.length d.np
     · rfl
     · exact absurd (Nat.eq_of_beq_eq_true hb) e
   rw [this]; exact (h0 args m e).symm
theorem Is.fn0 {E : bO} {d : DF} {S : Rg -> H -> aU} (h : Is E d.body (bN d.res) S) (hn : d.np = 0) (J : H -> aU) (e : ∀ h, S (reg (Tr.ofL [])) h = J h) (args : List DV) (m : H) : mK E d args m = a0 args (J m) :=
 h.fn hn (λ args h => a0 args (J h)) (λ args h hl => by
   match args, hl with
   | [], _ => exact e h) (λ args h hl => by
   match args, hl with
   | [], hl => exact absurd rfl hl
   | _ :: _, _ => rfl) args m
theorem Is.fn1 {E : bO} {d : DF} {S : Rg -> H -> aU} (h : Is E d.body (bN d.res) S) (hn : d.np = 1) (J : DV -> H -> aU) (e : ∀ r0 h, S (reg (Tr.ofL [r0])) h = J r0 h) (args : List DV) (m : H) : mK E d args m = (λ args h => aS args λ r0 args => a0 args (J r0 h)) args m :=
 h.fn hn (λ args h => aS args λ r0 args => a0 args (J r0 h)) (λ args h hl => by
   match args, hl with
   | [r0], _ => exact e r0 h) (λ args h hl => by
   match args, hl with
   | [], _ => rfl
   | [r0], hl => exact absurd rfl hl
   | _ :: _ :: _, _ => rfl) args m
theorem Is.fn2 {E : bO} {d : DF} {S : Rg -> H -> aU} (h : Is E d.body (bN d.res) S) (hn : d.np = 2) (J : DV -> DV -> H -> aU) (e : ∀ r0 r1 h, S (reg (Tr.ofL [r0, r1])) h = J r0 r1 h) (args : List DV) (m : H) : mK E d args m = (λ args h => aS args λ r0 args => aS args λ r1 args => a0 args (J r0 r1 h)) args m :=
 h.fn hn (λ args h => aS args λ r0 args => aS args λ r1 args => a0 args (J r0 r1 h)) (λ args h hl => by
   match args, hl with
   | [r0, r1], _ => exact e r0 r1 h) (λ args h hl => by
   match args, hl with
   | [], _ => rfl
   | [_], _ => rfl
   | [r0, r1], hl => exact absurd rfl hl
   | _ :: _ :: _ :: _, _ => rfl) args m
theorem Is.fn3 {E : bO} {d : DF} {S : Rg -> H -> aU} (h : Is E d.body (bN d.res) S) (hn : d.np = 3) (J : DV -> DV -> DV -> H -> aU) (e : ∀ r0 r1 r2 h, S (reg (Tr.ofL [r0, r1, r2])) h = J r0 r1 r2 h) (args : List DV) (m : H) : mK E d args m = (λ args h => aS args λ r0 args => aS args λ r1 args => aS args λ r2 args => a0 args (J r0 r1 r2 h)) args m :=
 h.fn hn (λ args h => aS args λ r0 args => aS args λ r1 args => aS args λ r2 args => a0 args (J r0 r1 r2 h)) (λ args h hl => by
   match args, hl with
   | [r0, r1, r2], _ => exact e r0 r1 r2 h) (λ args h hl => by
   match args, hl with
   | [], _ => rfl
   | [_], _ => rfl
   | [_, _], _ => rfl
   | [r0, r1, r2], hl => exact absurd rfl hl
   | _ :: _ :: _ :: _ :: _, _ => rfl) args m
theorem Is.fn4 {E : bO} {d : DF} {S : Rg -> H -> aU} (h : Is E d.body (bN d.res) S) (hn : d.np = 4) (J : DV -> DV -> DV -> DV -> H -> aU) (e : ∀ r0 r1 r2 r3 h, S (reg (Tr.ofL [r0, r1, r2, r3])) h = J r0 r1 r2 r3 h) (args : List DV) (m : H) : mK E d args m = (λ args h => aS args λ r0 args => aS args λ r1 args => aS args λ r2 args => aS args λ r3 args => a0 args (J r0 r1 r2 r3 h)) args m :=
 h.fn hn (λ args h => aS args λ r0 args => aS args λ r1 args => aS args λ r2 args => aS args λ r3 args => a0 args (J r0 r1 r2 r3 h)) (λ args h hl => by
   match args, hl with
   | [r0, r1, r2, r3], _ => exact e r0 r1 r2 r3 h) (λ args h hl => by
   match args, hl with
   | [], _ => rfl
   | [_], _ => rfl
   | [_, _], _ => rfl
   | [_, _, _], _ => rfl
   | [r0, r1, r2, r3], hl => exact absurd rfl hl
   | _ :: _ :: _ :: _ :: _ :: _, _ => rfl) args m
structure FD where
 f : Nat
 d : DF
 s : bO -> cE
def sR : List FD -> Prop
 | [] => True
 | x :: l => (∀ E args h, mK E x.d args h = x.s E args h) /\ sR l
theorem sR.mem : ∀ {l : List FD}, sR l -> ∀ x ∈ l, ∀ E args h, mK E x.d args h = x.s E args h
 | y :: l, h, x, hx => by
   rcases List.mem_cons.1 hx with rfl | hx
   · exact h.1
   · exact h.2.mem x hx
theorem sR.append : ∀ {l m : List FD}, sR l -> sR m -> sR (l ++ m)
 | [], _, _, h => h
 | _ :: _, _, h, k => ⟨h.1, h.2.append k⟩
def aDn (P : Program) (l : List FD) : Bool := l.all λ x => aMD P x.f x.d
theorem aBl {P : Program} {l m : List FD} (h : aDn P l = true) (k : aDn P m = true) : aDn P (l ++ m) = true := by
 unfold aDn at *; rw [List.all_append, h, k]; rfl
def bBU : List FD -> Tr (bO -> cE) -> Tr (bO -> cE)
 | [], t => t
 | x :: l, t => bBU l (Tr.set x.s (Pa.of x.f) t)
theorem aQl : ∀ (l : List FD) (t : Tr (bO -> cE)) (f : Nat) (s : bO -> cE), (bBU l t).at_ f = some s -> t.at_ f = some s \/ ∃ x ∈ l, x.f = f /\ x.s = s
 | [], t, f, d, h => .inl h
 | x :: l, t, f, d, h => by
   rcases aQl l _ f d h with h | ⟨y, hy, h⟩
   · have := Tr.at_put t x.f f x.s; unfold Tr.put at this; rw [this] at h; split at h
     · rename_i hh; cases h; exact .inr ⟨x, by simp, hh.symm, rfl⟩
     · exact .inl h
   · exact .inr ⟨y, List.mem_cons_of_mem _ hy, h⟩
def SE (B : bO) (T : Tr (bO -> cE)) (n : Nat) : bO := Nat.rec (motive := λ _ => bO) (λ _ => none) (λ _ ih f =>
 Option.rec (motive := λ _ => Option cE) (Option.rec (motive := λ _ => Option cE) none (λ s => some (s ih)) (T.at_ f)) some (B f)) n
structure aHJ (P : Program) (T : Tr (bO -> cE)) : Prop where
 ok : ∀ f s, T.at_ f = some s -> mQ P f = true /\ ∀ E, lD P E -> gE P f (s E)
theorem bSt {P : Program} {l : List FD} {T : Tr (bO -> cE)} (hT : bBU l .e = T) (hc : aDn P l = true) (he : sR l) : aHJ P T := by
 refine ⟨λ f s h => ?_⟩
 rw [<- hT] at h; rcases aQl l _ f s h with h | ⟨x, hx, rfl, rfl⟩
 · rw [Tr.at_e] at h; cases h
 · have hk := List.all_eq_true.1 hc x hx; refine ⟨aMF hk, λ E hE => ?_⟩
   have e : x.s E = mK E x.d := funext λ args => funext λ h => (he.mem x hx E args h).symm
   rw [e]; exact aVx hE hk
theorem aRa {P : Program} {B : bO} {T : Tr (bO -> cE)} (hB : lD P B) (hT : aHJ P T) : ∀ n, lD P (SE B T n)
 | 0 => λ f F hF => by cases hF
 | n + 1 => λ f F hF => by
   replace hF : Option.rec (motive := λ _ => Option cE) (Option.rec (motive := λ _ => Option cE) none (λ s => some (s (SE B T n))) (T.at_ f)) some (B f) = some F := hF
   cases hb : B f with
   | some G => rw [hb] at hF; cases hF; exact hB f F hb
   | none =>
     rw [hb] at hF; cases hs : T.at_ f with
     | none => rw [hs] at hF; cases hF
     | some s =>
       rw [hs] at hF; cases hF; exact ⟨(hT.ok f s hs).1, (hT.ok f s hs).2 _ (aRa hB hT n)⟩
theorem aME {P : Program} {B : bO} {T : Tr (bO -> cE)} {f : FuncId} {s : bO -> cE} (hB : lD P B) (hT : aHJ P T) (hf : T.at_ f = some s) {n : Nat} {args : List DV} {args' : List Value} (hargs : trs (λ _ => none) args = some args')
   (hrun : (s (SE B T n) args H0).map (·.1) = some (.bool true)) (w : World) :
   Calls P f args'.toArray w λ e w' => e = .returned (.bool true) /\ Below w.heap.size w w' := by
 cases hr : s (SE B T n) args H0 with
 | none => rw [hr] at hrun; cases hrun
 | some r =>
   obtain ⟨v, h'⟩ := r; rw [hr] at hrun; simp only [Option.map_some, Option.some.injEq] at hrun; subst hrun; refine ((hT.ok f s hf).2 _ (aRa hB hT n) w.heap.size w _ H0 w args args' _ h' hr hargs (cX.start w)).mono λ e w' hh => ?_
   obtain ⟨m', v', rfl, h2, h3, h4⟩ := hh; rw [jW h2]; exact ⟨rfl, h3.below⟩
end Go.DI
namespace Go.DI
open Go.RowKit
section
variable {R : Type}
@[simp] theorem aA (v : DV) (k : DV -> Option R) : vK (some v) k = k v := id rfl
@[simp] theorem bZI (k : DV -> Option R) : vK none k = none := id rfl
@[simp] theorem aB (v : DV) (h : H) (k : DV -> H -> Option R) : wK (some (v, h)) k = k v h := id rfl
@[simp] theorem bZH (k : DV -> H -> Option R) : wK none k = none := id rfl
@[simp] theorem aE (a b : Option R) : bK (.bool true) a b = a := id rfl
@[simp] theorem aC (a b : Option R) : bK (.bool false) a b = b := id rfl
@[simp] theorem gF (a : Option R) : rK true a = a := id rfl
@[simp] theorem cAa (v : DV) (vs : List DV) (k : DV -> List DV -> Option R) : aS (v :: vs) k = k v vs := id rfl
@[simp] theorem aS_nil (k : DV -> List DV -> Option R) : aS [] k = none := id rfl
@[simp] theorem a0_nil (x : Option R) : a0 [] x = x := id rfl
@[simp] theorem cAb (v : DV) (vs : List DV) (x : Option R) : a0 (v :: vs) x = none := id rfl
end
theorem dT {a b : Nat} (h : a < b) : Nat.blt a b = true := by rw [Nat.blt_eq]; exact h
theorem cO {E : bO} {f : Nat} {F : cE} (h : E f = some F) (args : List DV) (m : H) : aD E f args m = F args m := by unfold aD; rw [h]
theorem jM (k : IntKind) : kEq k k = true := by cases k <;> rfl
theorem aBF (k : IntKind) (a b : Int) : bJ (.int k a) (.int k b) = some (.int k (k.wrap (a + b))) := by
 show (bif kEq k k then aQX k a b else none) = _; rw [jM]; show jO k (aVn a b) = _; rw [aIU, jY]
theorem aBy (k : IntKind) (a b : Int) : fC (.int k a) (.int k b) = some (.int k (k.wrap (a - b))) := by
 show (bif kEq k k then aQO k a b else none) = _; rw [jM]; show jO k (a - b) = _; rw [jY]
theorem eZ (k : IntKind) (a b : Int) : cJ (.int k a) (.int k b) = some (.bool (decide (a < b))) := by
 show (bif kEq k k then aQR k a b else none) = _; rw [jM]; show eX (iLt a b) = _; rw [fV, nJ]
theorem aBE (k : IntKind) (a b : Int) : eH (.int k a) (.int k b) = some (.bool (decide (b < a))) := by
 show (bif kEq k k then aQT k a b else none) = _; rw [jM]; show eX (iLt b a) = _; rw [fV, nJ]
theorem aSs (k : IntKind) (a b : Nat) (ha : a < 2 ^ k.bits) (hb : b < 2 ^ k.bits) : aEc (.int k (.ofNat a)) (.int k (.ofNat b)) = some (.int k (k.wrap (.ofNat (a &&& b)))) := by
 show (bif kEq k k then aQz k (.ofNat a) (.ofNat b) else none) = _; rw [jM]; show (bif Nat.blt a (2 ^ k.bits) && Nat.blt b (2 ^ k.bits) then jO k (.ofNat (Nat.land a b)) else _) = _; rw [dT ha, dT hb]; exact jY _ _
theorem aBx (k : IntKind) (a b : Nat) (ha : a < 2 ^ k.bits) (hb : b < 2 ^ k.bits) : aDW (.int k (.ofNat a)) (.int k (.ofNat b)) = some (.int k (k.wrap (.ofNat (a ^^^ b)))) := by
 show (bif kEq k k then aQy k (.ofNat a) (.ofNat b) else none) = _; rw [jM]; show (bif Nat.blt a (2 ^ k.bits) && Nat.blt b (2 ^ k.bits) then jO k (.ofNat (Nat.xor a b)) else _) = _; rw [dT ha, dT hb]; exact jY _ _
theorem aSn (k k' : IntKind) (a b : Nat) (hb : b <= k.bits) : yK (.int k (.ofNat a)) (.int k' (.ofNat b)) = some (.int k (.ofNat (a / 2 ^ b))) := by
 show pZ .shr k (.ofNat a) (.ofNat b) = _; unfold pZ; rw [show iLt (.ofNat b) 0 = false from by rw [nJ]; simp]
 simp only [cond_false, pD]; rw [show min (Int.ofNat b).toNat k.bits = b from by simp [Nat.min_eq_left hb]]
 congr 2
 show Int.fdiv (a : Int) (2 ^ b) = ((a / 2 ^ b : Nat) : Int); rw [Int.fdiv_eq_ediv_of_nonneg _ (by exact_mod_cast Nat.zero_le _)]
 simp
theorem pL (k k' : IntKind) (a : Int) : fF k (.int k' a) = some (.int k (k.wrap a)) := jY _ _
theorem bC (s : Ln) : bZ (.str s) = some (.int .i64 (.ofNat s.length)) := by
 simp only [bZ, bE]
theorem pF {s : Ln} {i b : Nat} (h : s[i]? = some b) (k : IntKind) : gQ (.str s) (.int k (.ofNat i)) = some (.int .u8 (.ofNat b)) := by
 have hi : i < s.length := by
   rcases Nat.lt_or_ge i s.length with h1 | h1
   · exact h1
   · rw [List.getElem?_eq_none h1] at h; cases h
 simp only [gQ, rF]; rw [dT hi, h]; rfl
theorem wrap_i64 {n : Nat} (h : n < 9223372036854775808) : IntKind.i64.wrap (.ofNat n) = .ofNat n := by
 rw [uQ] <;> simp only [Int.ofNat_eq_natCast] <;> omega
@[simp] theorem dX {R : Type} (op : (DV -> H -> Option R) -> Option R) (h : H) (k : DV -> H -> Option R) : bA (.bool false) false op h k = op k := id rfl
@[simp] theorem hH {R : Type} (op : (DV -> H -> Option R) -> Option R) (h : H) (k : DV -> H -> Option R) : bA (.bool true) true op h k = op k := id rfl
@[simp] theorem fP {R : Type} (op : (DV -> H -> Option R) -> Option R) (h : H) (k : DV -> H -> Option R) : bA (.bool true) false op h k = k (.tup []) h := id rfl
@[simp] theorem vJ {R : Type} (op : (DV -> H -> Option R) -> Option R) (h : H) (k : DV -> H -> Option R) : bA (.bool false) true op h k = k (.tup []) h := id rfl
@[simp] theorem bX (a b : DV) : aQ (.bool true) a b = some a := id rfl
@[simp] theorem bY (a b : DV) : aQ (.bool false) a b = some b := id rfl
theorem fE (b : Bool) : kD (.bool b) = some (.bool (!b)) := fV _
theorem aSp (k : IntKind) (a b : Int) : dA (.int k a) (.int k b) = some (.bool (a != b)) := by
 show (bif kEq k k then aQQ k a b else none) = _; rw [jM]; show eX (!iEq a b) = _; rw [fV, tQ]; rfl
theorem jS (k : IntKind) (a b : Int) : bP (.int k a) (.int k b) = some (.bool (a == b)) := by
 show (bif kEq k k then aQV k a b else none) = _; rw [jM]; show eX (iEq a b) = _; rw [fV, tQ]
def eQ (b : Nat) : DV := .int .u8 (.ofNat b)
def bU (s : Ln) : List DV := s.map eQ
theorem vY : ∀ {s : Ln}, bF s = true -> nY (bU s) = some s
 | [], _ => rfl
 | b :: s, h => by
   simp only [bF, Bool.and_eq_true, Nat.blt_eq] at h; have hb : aFl (eQ b) = some b := by
     show (bif Nat.blt b 256 then some b else none) = some b; rw [dT h.1]; rfl
   show (match aFl (eQ b), nY (bU s) with
     | some b, some bs => some (b :: bs)
     | _, _ => none) = _
   rw [hb, vY h.2]
theorem rJ (s : Ln) : (bU s).all DV.one = true := by
 rw [List.all_eq_true]; intro x hx; obtain ⟨b, _, rfl⟩ := List.mem_map.1 hx
 rfl
theorem lN {rd : Rd} {b : Nat} : ∀ (vs : List DV) (j : Nat), (∀ i v, vs[i]? = some v -> rdCell rd b (j + i) = some v) -> rdCells rd b j vs.length = some vs
 | [], j, _ => rfl
 | v :: vs, j, h => by
   simp only [List.length_cons, rdCells]; have h0 := h 0 v rfl; rw [Nat.add_zero] at h0; rw [h0, lN vs (j + 1) (λ i u hi => by rw [show j + 1 + i = j + (i + 1) from by omega]; exact h (i + 1) u hi)]
theorem qX {h : H} {b o : Nat} {B : Blk} {vs : List DV} (hg : h.get b = some (.blk B)) (hr : B.ro = false) (hl : o + vs.length <= B.n) (h1 : vs.all DV.one = true) :
   ∃ h' t', hM vs h b o = some h' /\ h'.size = h.size /\ (∀ c, c ≠ b -> h'.get c = h.get c) /\ h'.get b = some (.blk { B with t := t' }) /\ ∀ j, t'.at_ j = if o <= j /\ j < o + vs.length then vs[j - o]? else B.t.at_ j := by
 cases vs with
 | nil => exact ⟨h, B.t, rfl, rfl, λ _ _ => rfl, hg, λ j => by rw [if_neg (by simp only [List.length_nil]; omega)]⟩
 | cons v vs =>
   refine ⟨_, aLo (v :: vs) o B.t, by rw [aCe (v :: vs) h b o B hg (by simp), if_pos ⟨by simp [hr], hl, h1⟩], by simp, λ c hc => by rw [H.get_put, if_neg hc], by rw [H.get_put, if_pos rfl], λ j => ?_⟩
   rw [aBL, Tr.at_ofF]
theorem kI {rd : Rd} {b j : Nat} {B : Blk} (h : rd b = some (.blk B)) (hj : j < B.n) : rdCell rd b j = B.t.at_ j := by
 unfold rdCell; rw [h]; simp only []; rw [if_pos hj]
theorem lW {rd rd' : Rd} {b j : Nat} (h : rd' b = rd b) : rdCell rd' b j = rdCell rd b j := by unfold rdCell; rw [h]
theorem gE.or {P : Program} {f : FuncId} {F G : cE} (hF : gE P f F) (hG : gE P f G) : gE P f λ args h => Option.rec (motive := λ _ => Option (DV × H)) (G args h) some (F args h) := by
 intro N0 w0 m h w args args' v h' hr ht hw; cases hf : F args h with
 | some r =>
   have hr' : some r = some (v, h') := by rw [<- hr]; show _ = Option.rec (motive := λ _ => Option (DV × H)) (G args h) some (F args h); rw [hf]
   cases hr'; exact hF N0 w0 m h w args args' v h' hf ht hw
 | none =>
   have hr' : G args h = some (v, h') := by rw [<- hr]; show _ = Option.rec (motive := λ _ => Option (DV × H)) (G args h) some (F args h); rw [hf]
   exact hG N0 w0 m h w args args' v h' hr' ht hw
def aBS (s : Ln) : Bool := List.rec (motive := λ _ => Bool) true (λ b _ ih => bif Nat.blt b 256 then ih else false) s
theorem xA : ∀ s, aBS s = bF s
 | [] => rfl
 | b :: s => by
   show (bif Nat.blt b 256 then aBS s else false) = (Nat.blt b 256 && bF s); rw [xA s]; cases Nat.blt b 256 <;> rfl
end Go.DI
namespace Go.DI
open Go.RowKit
section
variable {P : Program} {N0 : Nat} {w0 : World} {E : bO}
end
end Go.DI
namespace Go.DI
open Go.RowKit
section
variable {P : Program} {N0 : Nat} {w0 : World} {E : bO}
section
variable {n : Nat} {ds : List Deferred} {ops : Array Oper} {m0 : Mp} {h0 : H} {σ pfx rest0 : List DR} {x : DR} {res : Tr DV × H} {Q : Exit -> Act -> World -> Prop}
end
end
end Go.DI
namespace Go.DI
open Go.RowKit
section
variable {P : Program} {N0 : Nat} {w0 : World} {E : bO}
end
section
variable {P : Program} {N0 : Nat} {w0 : World} {E : bO}
end
end Go.DI
namespace Go.DI
open Go.RowKit
theorem aCU (n : Nat) : bF (List.replicate n 0) = true := by
 rw [gO]; intro b hb; have := List.eq_of_mem_replicate hb; omega
structure But (b : Nat) (h h' : H) : Prop where
 size : h'.size = h.size
 get : ∀ c, c ≠ b -> h'.get c = h.get c
theorem But.trans {b : Nat} {x y z : H} (h : But b x y) (k : But b y z) : But b x z := ⟨k.size.trans h.size, λ c hc => (k.get c hc).trans (h.get c hc)⟩
theorem But.grown {h0 h h' : H} (g : aH h0 h) {b : Nat} (hb : h0.size <= b) (k : But b h h') : aH h0 h' :=
 ⟨by rw [k.size]; exact g.size, λ i hi => (k.get i (by omega)).trans (g.get i hi)⟩
theorem aEP {R : Type} {h : H} {n : Nat} (hn : n < 140737488355328) (k : DV -> H -> Option R) : uE 1 1 (.int .u8 (.ofNat 0)) (.int .i64 (.ofNat n)) (.int .i64 (.ofNat n)) h k = k (.slc h.size 0 n n false) (h.push (.blk ⟨n, 1, false, true, Tr.full (.int .u8 (.ofNat 0)) 48⟩)) := by
 simp only [uE]; rw [Nat.ble_eq_true_of_le (Nat.le_refl _), dT (show 1 * n < 140737488355328 by omega), dT hn]
 simp only [Bool.and_self, cond_true, H.pushK_eq]
theorem wrap_u8 {n : Nat} (h : n < 256) : IntKind.u8.wrap (.ofNat n) = .ofNat n := by
 rw [IntKind.wrap_u8]; simp only [Int.ofNat_eq_natCast]; omega
theorem aDZ (k k' : IntKind) (a b : Nat) : aBz (.int k (.ofNat a)) (.int k' (.ofNat b)) = some (.int k (.ofNat (max a b))) := by
 simp only [aBz, nJ]
 congr 2
 by_cases h : a < b
 · rw [show decide (Int.ofNat a < Int.ofNat b) = true from by simp only [Int.ofNat_eq_natCast, decide_eq_true_iff]; omega]
   show Int.ofNat b = _; congr 1; omega
 · rw [show decide (Int.ofNat a < Int.ofNat b) = false from by simp only [Int.ofNat_eq_natCast, decide_eq_false_iff_not]; omega]
   show Int.ofNat a = _; congr 1; omega
theorem aBD {b n c j : Nat} {op : Bool} (hj : j < n) (k : IntKind) : cC 1 (.slc b 0 n c op) (.int k (.ofNat j)) = some (.ptr b j) := by
 simp only [cC, rF, bE]; rw [dT hj]; simp
theorem aVc (a b : Nat) : decide (Int.ofNat a < Int.ofNat b) = decide (a < b) := by
 rw [decide_eq_decide]; simp only [Int.ofNat_eq_natCast]; omega
theorem fN {i : Nat} (h : i + 1 < 9223372036854775808) : bJ (.int .i64 (.ofNat i)) (.int .i64 (.ofNat 1)) = some (.int .i64 (.ofNat (i + 1))) := by
 rw [aBF, show Int.ofNat i + Int.ofNat 1 = Int.ofNat (i + 1) from rfl, wrap_i64 h]
theorem aAu {s : Ln} {j : Nat} (h : j <= s.length) (k : IntKind) : gY (.str s) none (some (.int k (.ofNat j))) = some (.str (s.take j)) := by
 simp only [gY, dF, dHi, dLo]; rw [Nat.ble_eq_true_of_le h, cond_true, Nat.ble_eq_true_of_le (Nat.zero_le _), cond_true, iI]; rfl
theorem yU {s : Ln} {j : Nat} (h : j <= s.length) (k : IntKind) : gY (.str s) (some (.int k (.ofNat j))) none = some (.str (s.drop j)) := by
 simp only [gY, dF, dHi, dLo]; rw [Nat.ble_eq_true_of_le (Nat.le_refl _), cond_true, Nat.ble_eq_true_of_le h, cond_true, iI, List.take_length]
theorem fW (s t : Ln) : bP (.str s) (.str t) = some (.bool (s == t)) := by
 show eX (sEq s t) = _; rw [fV, sY]
theorem cG (k : IntKind) (a b : Nat) : bP (.int k (.ofNat a)) (.int k (.ofNat b)) = some (.bool (decide (a = b))) := by
 rw [jS]; congr 2; rw [Bool.eq_iff_iff, beq_iff_eq, decide_eq_true_iff]; simp only [Int.ofNat_eq_natCast]; omega
end Go.DI
namespace Go.DI
open Go.RowKit
theorem aBU {a b : Nat} (h : a ≠ b) : Nat.beq a b = false := by
 cases hb : Nat.beq a b
 · rfl
 · exact absurd (Nat.eq_of_beq_eq_true hb) h
theorem jC {a b : Nat} (h : ¬ a <= b) : Nat.ble a b = false := by
 cases hb : Nat.ble a b
 · rfl
 · exact absurd (Nat.le_of_ble_eq_true hb) h
def cT (h : H) (b : Nat) (L : List DV) : Prop := b < h.size /\ ∃ pl t, h.get b = some (.blk ⟨L.length, 1, false, pl, t⟩) /\ ∀ j x, L[j]? = some x -> t.at_ j = some x
section
variable {h h' : H} {b : Nat} {L : List DV}
theorem cT.rd (hb : cT h b L) {j : Nat} {x : DV} (hj : L[j]? = some x) : rdCell h.get b j = some x := by
 obtain ⟨hlt, pl, t, h1, h2⟩ := hb; have hjl : j < L.length := by
   rcases Nat.lt_or_ge j L.length with h3 | h3
   · exact h3
   · rw [List.getElem?_eq_none h3] at hj; cases hj
 rw [kI h1 hjl]; exact h2 j x hj
theorem cT.cells (hb : cT h b L) {o k : Nat} (hk : o + k <= L.length) : rdCells h.get b o k = some ((L.drop o).take k) := by
 have hl : ((L.drop o).take k).length = k := by simp; omega
 have := lN (rd := h.get) (b := b) ((L.drop o).take k) o λ i v hi => hb.rd (by
   rw [List.getElem?_take] at hi; split at hi
   · rw [List.getElem?_drop] at hi; exact hi
   · cases hi)
 rw [hl] at this; exact this
theorem cT.cells_all (hb : cT h b L) : rdCells h.get b 0 L.length = some L := by
 have := hb.cells (o := 0) (k := L.length) (by omega)
 simpa using this
theorem cT.but (hb : cT h b L) {c : Nat} (hc : b ≠ c) (k : But c h h') : cT h' b L := by
 obtain ⟨hlt, pl, t, h1, h2⟩ := hb; exact ⟨by rw [k.size]; exact hlt, pl, t, by rw [k.get b hc]; exact h1, h2⟩
theorem cT.store (hb : cT h b L) {vs : List DV} {o : Nat} (hv : vs.all DV.one = true) (ho : o + vs.length <= L.length) :
   ∃ h', hM vs h b o = some h' /\ cT h' b (L.take o ++ vs ++ L.drop (o + vs.length)) /\ But b h h' := by
 obtain ⟨hlt, pl, t, h1, h2⟩ := hb; obtain ⟨h', t', f1, f2, f3, f4, f5⟩ := qX (h := h) (b := b) (o := o) (vs := vs) h1 rfl ho hv; have hlen : (L.take o ++ vs ++ L.drop (o + vs.length)).length = L.length := by simp; omega
 refine ⟨h', f1, ⟨by rw [f2]; exact hlt, pl, t', by rw [f4, hlen], λ j x hj => ?_⟩, ⟨f2, f3⟩⟩
 rw [f5]; have ht : (L.take o).length = o := by simp; omega
 by_cases hjo : o <= j /\ j < o + vs.length
 · rw [if_pos hjo]; rw [List.append_assoc, List.getElem?_append_right (by omega), ht, List.getElem?_append_left (by omega)] at hj
   exact hj
 · rw [if_neg hjo]; apply h2; rcases Nat.lt_or_ge j o with hlt | hge
   · rw [List.append_assoc, List.getElem?_append_left (by omega), List.getElem?_take, if_pos hlt] at hj
     exact hj
   · have hge2 : o + vs.length <= j := by
       rcases Nat.lt_or_ge j (o + vs.length) with h3 | h3
       · exact absurd ⟨hge, h3⟩ hjo
       · exact h3
     rw [List.getElem?_append_right (by simp only [List.length_append, ht]; omega), List.length_append, ht, List.getElem?_drop] at hj
     rw [show j = o + vs.length + (j - (o + vs.length)) from by omega]; exact hj
theorem cT.set (hb : cT h b L) {j : Nat} {v : DV} (hv : v.one = true) (hj : j < L.length) :
   ∃ h', bQ 1 (.ptr b j) v h = some (.tup [], h') /\ cT h' b (L.set j v) /\ But b h h' := by
 obtain ⟨h', f1, f2, f3⟩ := hb.store (vs := [v]) (o := j) (by simp [hv]) (by simp; omega)
 refine ⟨h', ?_, ?_, f3⟩
 · rw [aBj]; have hc : v.cells = [v] := by cases v <;> first | rfl | cases hv
   simp only [dSt, hc, List.length_singleton, Nat.beq_refl, cond_true, f1, Option.map_some]
 · have : L.take j ++ [v] ++ L.drop (j + [v].length) = L.set j v := by
     rw [List.set_eq_take_append_cons_drop, if_pos hj]; simp
   rw [<- this]; exact f2
theorem cT.text {s : Ln} (hb : cT h b (bU s)) (hok : bF s = true) (c : Nat) (op : Bool) : mY h.get (.slc b 0 s.length c op) = some (.str s) := by
 have hr := hb.cells_all; have hlen : (bU s).length = s.length := by simp [bU]
 rw [hlen] at hr; simp only [mY, cI, hr, Option.bind_some, vY hok, iI]
theorem cT.copy_str (hb : cT h b L) {s : Ln} {o n c : Nat} {op : Bool} (hs : s.length <= n) (ho : o + s.length <= L.length) :
   ∃ h', lR 1 (.slc b o n c op) (.str s) h = some (.int .i64 (.ofNat s.length), h') /\ cT h' b (L.take o ++ bU s ++ L.drop (o + s.length)) /\ But b h h' := by
 have hbl : (bU s).length = s.length := by simp [bU]
 obtain ⟨h', f1, f2, f3⟩ := hb.store (vs := bU s) (o := o) (rJ s) (by omega)
 rw [hbl] at f2; refine ⟨h', ?_, f2, f3⟩; rw [aCf]; simp only [aFg, srcLen, bE, Option.bind_some]; rw [Nat.ble_eq_true_of_le hs]; simp only [cond_true, qL, Nat.beq_refl, List.take_length, Option.bind_some]; have : (s.map λ b => DV.int .u8 (.ofNat b)) = bU s := rfl
 rw [this, f1]; rfl
end
theorem cT.pushed {h : H} {L : List DV} {pl : Bool} : cT (h.push (.blk ⟨L.length, 1, false, pl, Tr.ofL L⟩)) h.size L :=
 ⟨by rw [H.size_push]; omega, pl, _, by rw [H.get_push, if_pos rfl], λ j x hj => by rw [Tr.at_ofL]; exact hj⟩
theorem cT.push {h : H} {b : Nat} {L : List DV} (hb : cT h b L) (o : iX) : cT (h.push o) b L := by
 obtain ⟨hlt, pl, t, h1, h2⟩ := hb; exact ⟨by rw [H.size_push]; omega, pl, t, by rw [H.get_push, if_neg (by omega)]; exact h1, h2⟩
theorem cT.made {h : H} {z : DV} {n : Nat} (hn : n < 140737488355328) : cT (h.push (.blk ⟨n, 1, false, true, Tr.full z 48⟩)) h.size (List.replicate n z) := by
 refine ⟨by rw [H.size_push]; omega, true, _, by rw [H.get_push, if_pos rfl, List.length_replicate], λ j x hj => ?_⟩
 have hlt : j < n := by
   rcases Nat.lt_or_ge j n with h3 | h3
   · exact h3
   · rw [List.getElem?_eq_none (by simpa using h3)] at hj; cases hj
 have hx : x = z := by
   rw [List.getElem?_replicate, if_pos hlt] at hj; exact (Option.some.inj hj).symm
 subst hx; exact Tr.at_full _ (by omega)
structure cL (n0 : Nat) (h h' : H) : Prop where
 size : h.size <= h'.size
 get : ∀ c, c < n0 -> h'.get c = h.get c
theorem cL.refl (n0 : Nat) (h : H) : cL n0 h h := ⟨Nat.le_refl _, λ _ _ => rfl⟩
theorem cL.trans {n0 : Nat} {x y z : H} (a : cL n0 x y) (c : cL n0 y z) : cL n0 x z := ⟨Nat.le_trans a.size c.size, λ i hi => (c.get i hi).trans (a.get i hi)⟩
theorem cL.grown {h h' : H} (a : cL h.size h h') : aH h h' := ⟨a.size, a.get⟩
theorem But.keeps {n0 b : Nat} {h h' : H} (k : But b h h') (hb : n0 <= b) : cL n0 h h' := ⟨by rw [k.size]; exact Nat.le_refl _, λ c hc => k.get c (by omega)⟩
theorem cL.push {n0 : Nat} {h : H} (hn : n0 <= h.size) (o : iX) : cL n0 h (h.push o) := ⟨by rw [H.size_push]; omega, λ c hc => by rw [H.get_push, if_neg (by omega)]⟩
def cU (n0 : Nat) (h : H) (v : DV) (L : List DV) : Prop := (v = .nils /\ L = []) \/ ∃ b, n0 <= b /\ v = .slc b 0 L.length L.length true /\ cT h b L
theorem cU.nil (n0 : Nat) (h : H) : cU n0 h .nils [] := .inl ⟨rfl, rfl⟩
theorem cU.len {n0 : Nat} {h : H} {v : DV} {L : List DV} (o : cU n0 h v L) : cB v = some (.int .i64 (.ofNat L.length)) := by
 rcases o with ⟨rfl, rfl⟩ | ⟨b, _, rfl, _⟩ <;> rfl
theorem cU.append {n0 : Nat} {h : H} {v x : DV} {L new : List DV} {bytes : Nat} (o : cU n0 h v L) (hn0 : n0 <= h.size) (hl : srcLen x = some new.length) (hc : dP 1 h.get x = some new) (h1 : new.all DV.one = true) (hne : new ≠ [])
   (hs : (L.length + new.length) * bytes < aW) (hs2 : L.length + new.length < aW) : ∃ v' h', cF 1 bytes v x h = some (v', h') /\ cU n0 h' v' (L ++ new) /\ cL n0 h h' := by
 have hpos : 0 < new.length := List.length_pos_iff.2 hne; rcases o with ⟨rfl, rfl⟩ | ⟨b, hb0, rfl, hb⟩
 · refine ⟨.slc h.size 0 new.length new.length true, h.push (.blk ⟨new.length, 1, false, true, Tr.ofL new⟩), ?_, .inr ⟨h.size, hn0, ?_, ?_⟩, cL.push hn0 _⟩
   · rw [eU]; simp only [fS, hl, hc, Option.bind_some]; simp only [List.length_nil, Nat.zero_add] at hs hs2; rw [aBU (show new.length ≠ 0 by omega), dT hs, dT hs2]
     simp only [cond_false, Bool.and_self, cond_true, H.pushK_eq, Nat.mul_one]
   · simp
   · simpa using cT.pushed
 · obtain ⟨hlt, pl, t, g1, g2⟩ := hb; refine ⟨.slc h.size 0 (L.length + new.length) (L.length + new.length) true, (h.push (.blk ⟨(L.length + new.length) * 1, 1, false, false, Tr.ofF new (L.length * 1) t⟩)).put b .dead, ?_, .inr ⟨h.size, hn0, ?_, ?_⟩, ?_⟩
   · rw [eU]; simp only [fS, hl, hc, Option.bind_some, bE]; rw [jC (show ¬ L.length + new.length <= L.length by omega), dT hs, dT hs2]
     simp only [cond_false, Bool.and_self, cond_true, g1, h1, Nat.zero_add, Nat.mul_one, Nat.beq_refl, Bool.not_false, Nat.ble_eq_true_of_le (Nat.le_refl _), aDe, Option.bind_some, H.pushK_eq, H.putK_eq]
   · simp
   · refine ⟨by rw [H.size_put, H.size_push]; omega, false, Tr.ofF new (L.length * 1) t, ?_, λ j x hj => ?_⟩
     · rw [H.get_put, if_neg (by omega), H.get_push, if_pos rfl, List.length_append, Nat.mul_one]
     · rw [Tr.at_ofF, Nat.mul_one]; rcases Nat.lt_or_ge j L.length with hj1 | hj1
       · rw [if_neg (by omega)]
         rw [List.getElem?_append_left hj1] at hj; exact g2 j x hj
       · rw [List.getElem?_append_right hj1] at hj; have : j - L.length < new.length := by
           rcases Nat.lt_or_ge (j - L.length) new.length with h3 | h3
           · exact h3
           · rw [List.getElem?_eq_none h3] at hj; cases hj
         rw [if_pos ⟨hj1, by omega⟩]; exact hj
   · refine ⟨by rw [H.size_put, H.size_push]; omega, λ c hc' => ?_⟩
     rw [H.get_put, if_neg (by omega), H.get_push, if_neg (by omega)]
theorem cU.push1 {n0 : Nat} {h : H} {v x z : DV} {L : List DV} {bytes : Nat} (o : cU n0 h v L) (hn0 : n0 <= h.size) (h1 : x.one = true)
   (hs : (L.length + 1) * bytes < aW) (hs2 : L.length + 1 < aW) : ∃ v' h', (∀ (R : Type) (k : DV -> H -> Option R), (gT 1 1 [z] [(0, 1, x)] h λ y h' => wK (cF 1 bytes v y h') k) = k v' h') /\ cU n0 h' v' (L ++ [x]) /\ cL n0 h h' := by
 let h1' := h.push (.blk ⟨1 * 1, 1, false, true, Tr.ofL [x]⟩)
 have hp : cT h1' h.size [x] := cT.pushed (h := h) (L := [x]) (pl := true); have o' : cU n0 h1' v L := by
   rcases o with ⟨rfl, rfl⟩ | ⟨b, hb0, rfl, hb⟩
   · exact .inl ⟨rfl, rfl⟩
   · exact .inr ⟨b, hb0, rfl, hb.push _⟩
 obtain ⟨v', h', f1, f2, f3⟩ := o'.append (x := .slc h.size 0 1 1 false) (new := [x]) (bytes := bytes) (by show n0 <= (h.push _).size; rw [H.size_push]; omega) rfl
   (by simpa [dP] using hp.cells_all) (by simp [h1]) (by simp) hs hs2
 refine ⟨v', h', λ R k => ?_, f2, (cL.push hn0 _).trans f3⟩
 have hf : iJ (gR [z] 1) [(0, 1, x)] = some [x] := by
   have hc : x.cells = [x] := by cases x <;> first | rfl | cases h1
   simp [iJ, gR, hc, uY]; rfl
 simp only [gT, hf, Option.bind_some, H.pushK_eq]; show wK (cF 1 bytes v (.slc h.size 0 1 1 false) h1') k = _; rw [f1]; rfl
theorem cU.lt {n0 : Nat} {h : H} {v : DV} {L : List DV} (o : cU n0 h v L) (hL : L ≠ []) : ∃ b, n0 <= b /\ v = .slc b 0 L.length L.length true /\ cT h b L := by
 rcases o with ⟨rfl, rfl⟩ | o
 · exact absurd rfl hL
 · exact o
theorem cU.store1 {n0 : Nat} {h : H} {v x : DV} {L : List DV} {j : Nat} (o : cU n0 h v L) (hj : j < L.length) (hx : x.one = true) (k : IntKind) :
   ∃ b h', cC 1 v (.int k (.ofNat j)) = some (.ptr b j) /\ bQ 1 (.ptr b j) x h = some (.tup [], h') /\ cU n0 h' v (L.set j x) /\ cL n0 h h' := by
 obtain ⟨b, hb0, rfl, hb⟩ := o.lt (by intro e; subst e; simp at hj)
 obtain ⟨h', f1, f2, f3⟩ := hb.set hx hj; exact ⟨b, h', aBD hj k, f1, .inr ⟨b, hb0, by simp, f2⟩, f3.keeps hb0⟩
theorem cU.text {n0 : Nat} {h : H} {v : DV} {s : Ln} (o : cU n0 h v (bU s)) (hok : bF s = true) : mY h.get v = some (.str s) := by
 have hl : (bU s).length = s.length := by simp [bU]
 rcases o with ⟨rfl, e⟩ | ⟨b, _, rfl, hb⟩
 · have : s = [] := by
     cases s with
     | nil => rfl
     | cons _ _ => cases e
   subst this; rfl
 · rw [hl]; exact hb.text hok _ _
theorem cU.s2b {n0 : Nat} {h : H} (hn0 : n0 <= h.size) (s : Ln) : ∃ v' h', (∀ (R : Type) (k : DV -> H -> Option R), aHj (.str s) h k = k v' h') /\ cU n0 h' v' (bU s) /\ cL n0 h h' /\ v' ≠ .nils := by
 have hl : (bU s).length = s.length := by simp [bU]
 refine ⟨.slc h.size 0 s.length s.length true, h.push (.blk ⟨s.length, 1, false, false, Tr.ofL (bU s)⟩), λ R k => ?_, .inr ⟨h.size, hn0, by rw [hl], ?_⟩, cL.push hn0 _, by simp⟩
 · simp only [aHj, bE, H.pushK_eq]; rfl
 · have := cT.pushed (h := h) (L := bU s) (pl := false); rw [hl] at this; exact this
def gA (s : Ln) (n : Nat) : Ln := s ++ List.replicate (n - s.length) 0
def yG (s : Ln) (at_ : Nat) (t : Ln) : Ln := (gA s (max s.length (at_ + t.length))).take at_ ++ t ++ (gA s (max s.length (at_ + t.length))).drop (at_ + t.length)
theorem kX {s : Ln} {n : Nat} (h : s.length <= n) : (gA s n).length = n := by unfold gA; simp; omega
theorem qQ (s t : Ln) (at_ : Nat) : (yG s at_ t).length = max s.length (at_ + t.length) := by
 have := kX (s := s) (n := max s.length (at_ + t.length)) (by omega)
 unfold yG; simp only [List.length_append, List.length_take, List.length_drop, this]; omega
theorem vF {s : Ln} (h : bF s = true) (n : Nat) : bF (gA s n) = true := cW h (aCU _)
theorem zH {s : Ln} (h : bF s = true) (n : Nat) : bF (s.take n) = true := by
 rw [gO] at h ⊢; intro b hb; exact h b (List.mem_of_mem_take hb)
theorem zI {s : Ln} (h : bF s = true) (n : Nat) : bF (s.drop n) = true := by
 rw [gO] at h ⊢; intro b hb; exact h b (List.mem_of_mem_drop hb)
theorem aEG {s t : Ln} (hs : bF s = true) (ht : bF t = true) (a : Nat) : bF (yG s a t) = true :=
 cW (cW (zH (vF hs _) _) ht) (zI (vF hs _) _)
theorem eF (s t : Ln) : bU (s ++ t) = bU s ++ bU t := by simp [bU]
theorem aMG (s : Ln) (n : Nat) : bU (s.take n) = (bU s).take n := by simp [bU, List.map_take]
theorem aMH (s : Ln) (n : Nat) : bU (s.drop n) = (bU s).drop n := by simp [bU, List.map_drop]
theorem bS (s : Ln) : (bU s).length = s.length := by simp [bU]
theorem aBm (n : Nat) : bU (List.replicate n 0) = List.replicate n (eQ 0) := by simp [bU]
theorem aOX (s : Ln) (j x : Nat) : bU (s.set j x) = (bU s).set j (eQ x) := by simp [bU, List.map_set]
theorem dB (k : IntKind) (a b : Nat) : eH (.int k (.ofNat a)) (.int k (.ofNat b)) = some (.bool (decide (b < a))) := by rw [aBE, aVc]
theorem aN (k : IntKind) (a b : Nat) : cJ (.int k (.ofNat a)) (.int k (.ofNat b)) = some (.bool (decide (a < b))) := by rw [eZ, aVc]
theorem fM {a b : Nat} (h : b <= a) (ha : a < 9223372036854775808) : fC (.int .i64 (.ofNat a)) (.int .i64 (.ofNat b)) = some (.int .i64 (.ofNat (a - b))) := by
 rw [aBy, show Int.ofNat a - Int.ofNat b = Int.ofNat (a - b) from by simp only [Int.ofNat_eq_natCast]; omega, wrap_i64 (by omega)]
theorem bV {a b : Nat} (h : a + b < 9223372036854775808) : bJ (.int .i64 (.ofNat a)) (.int .i64 (.ofNat b)) = some (.int .i64 (.ofNat (a + b))) := by
 rw [aBF, show Int.ofNat a + Int.ofNat b = Int.ofNat (a + b) from rfl, wrap_i64 h]
theorem aBB (k : IntKind) {a : Int} (h : a < 0) : cJ (.int k a) (.int k (.ofNat 0)) = some (.bool true) := by
 rw [eZ]; simp [h]
theorem aNA {b o n : Nat} {op : Bool} {j : Nat} (h : j <= n) (k : IntKind) : dK 1 (.slc b o n n op) (some (.int k (.ofNat j))) none = some (if j < n then .slc b (o + j) (n - j) (n - j) op else if op then .slE b o (o + j) else .slc b o 0 0 false) := by
 simp only [dK, dF, dHi, dLo]; rw [Nat.ble_eq_true_of_le (Nat.le_refl n), cond_true, Nat.ble_eq_true_of_le h, cond_true]; simp only [bE, Nat.mul_one]; by_cases hj : j < n
 · rw [dT hj, if_pos hj]; rfl
 · rw [if_neg hj, show Nat.blt j n = false from jC (by omega)]
   cases op <;> rfl
def aFK : cE := λ args h => match args with
 | [] => some (.bool true, h)
 | _ => none
theorem aNG {P : Program} {B : bO} {T : Tr (bO -> cE)} {f : FuncId} {s : bO -> cE} (hB : lD P B) (hT : aHJ P T) (hf : T.at_ f = some s) {n : Nat} (hrun : (s (SE B T n) [] H0).map (·.1) = some (.bool true)) : gE P f aFK := by
 refine aLm λ args hh v h' hr => ?_
 unfold aFK at hr; split at hr
 · cases hr; refine ⟨rfl, λ m args' w ht => ?_⟩
   simp only [trs, Option.some.injEq] at ht; subst ht; exact ⟨.bool true, rfl, (aME hB hT hf (args := []) (args' := []) rfl hrun w)⟩
 · cases hr
def dM (l : List (Ln)) : List DV := l.map DV.str
theorem sU (a b : List (Ln)) : dM (a ++ b) = dM a ++ dM b := by simp [dM]
theorem cA (l : List (Ln)) : (dM l).length = l.length := by simp [dM]
theorem lV {l : List (Ln)} {j : Nat} {s : Ln} (h : l[j]? = some s) : (dM l)[j]? = some (.str s) := by simp [dM, h]
theorem cU.keep {n0 n1 : Nat} {h h' : H} {v : DV} {L : List DV} (o : cU n0 h v L) (k : cL n1 h h') (hn : h.size <= n1) : cU n0 h' v L := by
 rcases o with o | ⟨b, hb, e, hlt, pl, t, g1, g2⟩
 · exact .inl o
 · exact .inr ⟨b, hb, e, Nat.lt_of_lt_of_le hlt k.size, pl, t, by rw [k.get b (by omega)]; exact g1, g2⟩
theorem cU.mono {n0 n1 : Nat} {h : H} {v : DV} {L : List DV} (o : cU n0 h v L) (hn : n1 <= n0) : cU n1 h v L := by
 rcases o with o | ⟨b, hb, e⟩
 · exact .inl o
 · exact .inr ⟨b, by omega, e⟩
theorem gM {s t : Ln} (h : s.length + t.length < gV) : bJ (.str s) (.str t) = some (.str (s ++ t)) := by
 show (bif Nat.blt (s.length + t.length) gV then yH (s ++ t) else none) = _; rw [dT h, iI]; rfl
theorem aOp (n : Nat) : gR [0] n = List.replicate n 0 := by
 induction n with
 | zero => rfl
 | succ n ih => rw [List.replicate_succ, <- ih]; rfl
theorem aKD (n : Nat) (hn : n <= 140737488355328) (h : H) : sN [.str [0], .int .i64 (.ofNat n)] h = some (.str (List.replicate n 0), h) := by
 show (bif Nat.ble n 9223372036854775807 && Nat.ble (([0] : Ln).length * n) 140737488355328 then (yH (gR [0] n)).map λ v => (v, h) else none) = _
 rw [Nat.ble_eq_true_of_le (by omega), Nat.ble_eq_true_of_le (by simp; omega), iI, aOp]; rfl
end Go.DI
namespace Go.DI
open Go.RowKit
theorem mB {α : Type} {l : List α} {j : Nat} {x : α} (h : l[j]? = some x) : j < l.length := by
 rcases Nat.lt_or_ge j l.length with h1 | h1
 · exact h1
 · rw [List.getElem?_eq_none h1] at h; cases h
def dY (h : H) (v : DV) (L : List DV) : Prop :=
 (L = [] /\ (v = .nils \/ ∃ b o o2, v = .slE b o o2)) \/ ∃ b o c op, v = .slc b o L.length c op /\ L.length <= c /\ b < h.size /\ ∀ j x, L[j]? = some x -> rdCell h.get b (o + j) = some x
section
variable {h h' : H} {v : DV} {L : List DV}
theorem dY.nil (h : H) : dY h .nils [] := .inl ⟨rfl, .inl rfl⟩
theorem dY.len (r : dY h v L) : cB v = some (.int .i64 (.ofNat L.length)) := by
 rcases r with ⟨rfl, rfl | ⟨b, o, o2, rfl⟩⟩ | ⟨b, o, c, op, rfl, _⟩ <;> rfl
theorem dY.grown (r : dY h v L) (g : aH h h') : dY h' v L := by
 rcases r with r | ⟨b, o, c, op, e, hc, hb, hx⟩
 · exact .inl r
 · exact .inr ⟨b, o, c, op, e, hc, Nat.lt_of_lt_of_le hb g.size, λ j x hj => by rw [lW (g.get b hb)]; exact hx j x hj⟩
theorem aTX {b o n c j : Nat} {op : Bool} (hj : j < n) (k : IntKind) : cC 1 (.slc b o n c op) (.int k (.ofNat j)) = some (.ptr b (o + j)) := by
 simp only [cC, rF, bE]; rw [dT hj]; simp
theorem dY.at (r : dY h v L) {j : Nat} {x : DV} (hj : L[j]? = some x) (k : IntKind) : ∃ b o, cC 1 v (.int k (.ofNat j)) = some (.ptr b o) /\ aI h.get (.ptr b o) = some x := by
 rcases r with ⟨rfl, _⟩ | ⟨b, o, c, op, rfl, _, _, hx⟩
 · cases hj
 · exact ⟨b, o + j, aTX (mB hj) k, by simp only [aI, cK]; exact hx j x hj⟩
theorem dY.srcLen (r : dY h v L) : srcLen v = some L.length := by
 rcases r with ⟨rfl, rfl | ⟨b, o, o2, rfl⟩⟩ | ⟨b, o, c, op, rfl, _⟩ <;> rfl
theorem dY.src (r : dY h v L) : dP 1 h.get v = some L := by
 rcases r with ⟨rfl, rfl | ⟨b, o, o2, rfl⟩⟩ | ⟨b, o, c, op, rfl, _, _, hx⟩
 · rfl
 · rfl
 · simp only [dP, Nat.mul_one]; exact lN L o hx
theorem dY.cut (r : dY h v L) {l m : Nat} (hlm : l <= m) (hm : m <= L.length) (k k' : IntKind) :
   ∃ v', dK 1 v (some (.int k (.ofNat l))) (some (.int k' (.ofNat m))) = some v' /\ dY h v' ((L.take m).drop l) := by
 rcases r with ⟨rfl, hv⟩ | ⟨b, o, c, op, rfl, hc, hb, hx⟩
 · have h0 : m = 0 := by simpa using hm
   subst h0; have h1 : l = 0 := by omega
   subst h1; rcases hv with rfl | ⟨b, o, o2, rfl⟩
   · exact ⟨.nils, rfl, by simpa using dY.nil h⟩
   · exact ⟨.slE b o o2, rfl, .inl ⟨by simp, .inr ⟨b, o, o2, rfl⟩⟩⟩
 · simp only [dK, dF, dHi, dLo]; rw [Nat.ble_eq_true_of_le (show m <= c by omega), cond_true, Nat.ble_eq_true_of_le hlm, cond_true]
   simp only [bE, Nat.mul_one]; have hlen : ((L.take m).drop l).length = m - l := by simp; omega
   by_cases hl : l < c
   · rw [dT hl, cond_true]; refine ⟨_, rfl, .inr ⟨b, o + l, c - l, op, by rw [hlen], by rw [hlen]; omega, hb, λ j x hj => ?_⟩⟩
     rw [List.getElem?_drop, List.getElem?_take] at hj; split at hj
     · rw [Nat.add_assoc]; exact hx _ _ hj
     · cases hj
   · have hl2 : l = m := by omega
     have he : (L.take m).drop l = [] := List.eq_nil_of_length_eq_zero (by omega)
     rw [show Nat.blt l c = false from jC (by omega), cond_false, he]
     cases op
     · exact ⟨_, rfl, .inr ⟨b, o, 0, false, rfl, Nat.le_refl _, hb, λ j x hj => by cases hj⟩⟩
     · exact ⟨_, rfl, .inl ⟨rfl, .inr ⟨b, o, _, rfl⟩⟩⟩
theorem dY.cutTo (r : dY h v L) {m : Nat} (hm : m <= L.length) (k : IntKind) : ∃ v', dK 1 v none (some (.int k (.ofNat m))) = some v' /\ dY h v' (L.take m) := by
 obtain ⟨v', e, r'⟩ := r.cut (l := 0) (Nat.zero_le m) hm .i64 k; exact ⟨v', by rw [<- e]; cases v <;> rfl, by simpa using r'⟩
end
theorem cT.row {h : H} {b : Nat} {L : List DV} (hb : cT h b L) (op : Bool) : dY h (.slc b 0 L.length L.length op) L :=
 .inr ⟨b, 0, _, op, rfl, Nat.le_refl _, hb.1, λ j x hj => by rw [Nat.zero_add]; exact hb.rd hj⟩
theorem calls_true3 {P : Program} {B : bO} {T : Tr (bO -> cE)} {f : FuncId} {s : bO -> cE} (hB : lD P B) (hT : aHJ P T) (hf : T.at_ f = some s) {n : Nat} {args : List DV} {args' : List Value} {m : Mp} {h : H} {w : World} (hw : cX w.heap.size w m h w) (hargs : trs m args = some args')
   (hrun : (s (SE B T n) args h).map (·.1) = some (.bool true)) :
   Calls P f args'.toArray w λ e w' => e = .returned (.bool true) /\ Below w.heap.size w w' := by
 cases hr : s (SE B T n) args h with
 | none => rw [hr] at hrun; cases hrun
 | some r =>
   obtain ⟨v, h'⟩ := r; rw [hr] at hrun; simp only [Option.map_some, Option.some.injEq] at hrun; subst hrun; refine ((hT.ok f s hf).2 _ (aRa hB hT n) w.heap.size w m h w args args' _ h' hr hargs hw).mono λ e w' hh => ?_
   obtain ⟨m', v', rfl, h2, h3, h4⟩ := hh; rw [jW h2]; exact ⟨rfl, h3.below⟩
def aYk (CL : List DV) : H := H0.push (.blk ⟨CL.length, 1, true, false, Tr.ofL CL⟩)
theorem yE (CL : List DV) : (aYk CL).size = 1 := rfl
theorem aMZ (CL : List DV) : (aYk CL).get 0 = some (.blk ⟨CL.length, 1, true, false, Tr.ofL CL⟩) := by
 unfold aYk; rw [H.get_push]; rfl
theorem cX.startRow {w : World} {a : Addr} {len cap : Nat} {CL : List DV} {t : TypeId} {k : Nat} (ha : a.spot = none) (hs : w.shape? a.block = some (t, k)) (hlen : CL.length = 0 -> len = 0)
   (hc : ∀ j x, CL[j]? = some x -> ∃ v', tr (λ _ => none) x = some v' /\ w.cell? (a.add j) = some v') :
   ∃ m o, cX w.heap.size w m (aYk CL) w /\ tr m (.slc 0 o len cap false) = some (.slice (some a) len cap) /\ (CL ≠ [] -> o = 0) := by
 unfold World.shape? at hs; split at hs
 rotate_left
 · cases hs
 rename_i c el fr hh; have hlt : a.block < w.heap.size := by
   rcases Nat.lt_or_ge a.block w.heap.size with h1 | h1
   · exact h1
   · rw [Array.getElem?_eq_none (by simpa using h1)] at hh; cases hh
 obtain ⟨ab, ao, as⟩ := a; simp only [] at ha hh hlt; subst ha; have cellAt : ∀ j, w.cell? ((⟨ab, ao, none⟩ : Addr).add j) = c[ao + j]? := λ j => by
   rw [iK]; simp [World.cell?, hh]
 let i : sM := if CL = [] then ⟨ab, c.size, 0⟩ else ⟨ab, c.size - ao - CL.length, ao⟩
 let m : Mp := λ b => if b = 0 then some i else none
 have hir : i.r = ab := by by_cases h0 : CL = [] <;> simp [i, h0]
 have m_some : ∀ {b j}, m b = some j -> b = 0 /\ j = i := by
   intro b j e; simp only [m] at e; split at e
   · rename_i h0; cases e; exact ⟨h0, rfl⟩
   · cases e
 have mle : Mp.le (λ _ => none) m := λ _ _ e => by cases e
 refine ⟨m, if CL = [] then ao else 0, ?_, ?_, λ h => by rw [if_neg h]⟩
 · refine ⟨λ b j e => ?_, λ b j e => ?_, λ b b' j j' o o' e e' _ _ _ _ _ => ?_, Below.refl _ _, Nat.le_refl _, λ b hb => ?_⟩
   · obtain ⟨rfl, rfl⟩ := m_some e; exact ⟨by rw [yE]; omega, by rw [hir]; exact hlt⟩
   · obtain ⟨rfl, rfl⟩ := m_some e; refine ⟨_, aMZ CL, ⟨⟨c, el, fr, by rw [hir]; exact hh, ?_, λ j hj => ?_⟩, (λ h => nomatch h), (λ h => nomatch h)⟩, (λ h => nomatch h)⟩
     · by_cases h0 : CL = []
       · simp [i, h0]
       · have hpos : 0 < CL.length := List.length_pos_iff.2 h0; obtain ⟨v', _, h2⟩ := hc (CL.length - 1) _ (List.getElem?_eq_getElem (by omega))
         rw [cellAt] at h2; have hlt2 : ao + (CL.length - 1) < c.size := by
           rcases Nat.lt_or_ge (ao + (CL.length - 1)) c.size with h3 | h3
           · exact h3
           · rw [Array.getElem?_eq_none (by simpa using h3)] at h2; cases h2
         simp only [i, h0, if_false]; omega
     · simp only [] at hj; have h0 : CL ≠ [] := by intro h0; subst h0; simp at hj
       obtain ⟨v', h1, h2⟩ := hc j _ (List.getElem?_eq_getElem hj); refine .inl ⟨_, v', by rw [Tr.at_ofL]; exact List.getElem?_eq_getElem hj, fG mle _ _ h1, ?_⟩
       rw [cellAt] at h2; simp only [i, h0, if_false]; exact h2
   · rw [(m_some e).1, (m_some e').1]
   · rw [yE] at hb; unfold aYk; rw [H.get_push, if_neg (show b ≠ H0.size from by show b ≠ 0; omega)]
     exact Tr.at_e b
 · simp only [tr, m, if_true]; by_cases h0 : CL = []
   · simp [i, h0]
   · simp [i, h0]
theorem wS {a b : Nat} (hb : 0 < b) (ha : a < 9223372036854775808) : aGW (.int .i64 (.ofNat a)) (.int .i64 (.ofNat b)) = some (.int .i64 (.ofNat (a / b))) := by
 show (bif kEq .i64 .i64 then aQP .i64 (.ofNat a) (.ofNat b) else none) = _; rw [jM]; show (bif iEq (.ofNat b) 0 then none else jO .i64 ((Int.ofNat a).tdiv (.ofNat b))) = _; rw [tQ, show ((Int.ofNat b) == 0) = false from by simp; omega, cond_false, jY]
 rw [show (Int.ofNat a).tdiv (.ofNat b) = .ofNat (a / b) from rfl, wrap_i64 (by have := Nat.div_le_self a b; omega)]
theorem aSq (k : IntKind) (a b : Int) : mI (.int k a) (.int k b) = some (.bool (decide (b <= a))) := by
 show (bif kEq k k then aQU k a b else none) = _; rw [jM]; show eX (iLe b a) = _; rw [fV, aOB]
theorem aBC (k : IntKind) (a b : Int) : yL (.int k a) (.int k b) = some (.bool (decide (a <= b))) := by
 show (bif kEq k k then aQS k a b else none) = _; rw [jM]; show eX (iLe a b) = _; rw [fV, aOB]
theorem aIQ (a b : Nat) : decide (Int.ofNat a <= Int.ofNat b) = decide (a <= b) := by
 rw [decide_eq_decide]; simp only [Int.ofNat_eq_natCast]; omega
theorem fA (k : IntKind) (a b : Nat) : mI (.int k (.ofNat a)) (.int k (.ofNat b)) = some (.bool (decide (b <= a))) := by rw [aSq, aIQ]
theorem wT (k : IntKind) (a b : Nat) : yL (.int k (.ofNat a)) (.int k (.ofNat b)) = some (.bool (decide (a <= b))) := by rw [aBC, aIQ]
theorem aAw (n : Int) : IntKind.u64.wrap n = n % 18446744073709551616 := by simp [IntKind.wrap, IntKind.bits, IntKind.signed]
theorem uP {n : Nat} (h : n < 18446744073709551616) : IntKind.u64.wrap (.ofNat n) = .ofNat n := by
 rw [aAw]; simp only [Int.ofNat_eq_natCast]; omega
theorem pP (l : List (Ln)) (n : Nat) : (dM l).take n = dM (l.take n) := by simp [dM, List.map_take]
theorem aSy (l : List (Ln)) : (dM l).all DV.one = true := by
 rw [List.all_eq_true]; intro x hx; obtain ⟨s, _, rfl⟩ := List.mem_map.1 hx; rfl
theorem aH.keeps {h h' : H} (g : aH h h') {n : Nat} (hn : n <= h.size) : cL n h h' := ⟨g.size, λ c hc => g.get c (by omega)⟩
end Go.DI
namespace Go.DI
open Go.RowKit
theorem Trod_lt {H : Type} {enc : TypeId × Value -> H} {P : Program} {W : World} {base : Nat} {sp : Nat -> Bool} {held : Bool} {t : TypeId} {v : Value} {d : DataW H} {ps : List MemPlace} (h : DataW.Trod enc P W base sp held t v d ps) : ∀ x ∈ ps, x.block < W.heap.size := λ x hx => by
 obtain ⟨n, e⟩ := h; exact DataW.trod_lt n _ _ _ e x hx
theorem tr_str_any (m : Mp) (s : ByteArray) : tr m (.str (ofBA s)) = some (.string s) := by simp [tr, toBA_ofBA, okStr_ofBA]
end Go.DI
namespace Go.DI
open Go.RowKit
def fK (n0 : Nat) (h : H) (v : DV) (L : List DV) : Prop := (v = .nils /\ L = []) \/
 ∃ b c pl t, n0 <= b /\ b < h.size /\ v = .slc b 0 L.length c true /\ L.length <= c /\ 0 < c /\ h.get b = some (.blk ⟨c, 1, false, pl, t⟩) /\ ∀ j x, L[j]? = some x -> t.at_ j = some x
theorem fK.nil (n0 : Nat) (h : H) : fK n0 h .nils [] := .inl ⟨rfl, rfl⟩
section
variable {n0 : Nat} {h h' : H} {v : DV} {L : List DV}
theorem fK.row (g : fK n0 h v L) : dY h v L := by
 rcases g with ⟨rfl, rfl⟩ | ⟨b, c, pl, t, hb0, hb, rfl, hc, hc0, hg, ht⟩
 · exact dY.nil h
 · exact .inr ⟨b, 0, c, true, rfl, hc, hb, λ j x hj => by rw [Nat.zero_add, kI hg (Nat.lt_of_lt_of_le (mB hj) hc)]; exact ht j x hj⟩
theorem fK.keep {n1 : Nat} (g : fK n0 h v L) (k : cL n1 h h') (hn : h.size <= n1) : fK n0 h' v L := by
 rcases g with g | ⟨b, c, pl, t, hb0, hb, e, hc, hc0, hg, ht⟩
 · exact .inl g
 · exact .inr ⟨b, c, pl, t, hb0, Nat.lt_of_lt_of_le hb k.size, e, hc, hc0, by rw [k.get b (by omega)]; exact hg, ht⟩
theorem fK.cut (g : fK n0 h v L) {m : Nat} (hm : m <= L.length) (k : IntKind) : ∃ v', dK 1 v none (some (.int k (.ofNat m))) = some v' /\ fK n0 h v' (L.take m) := by
 rcases g with ⟨rfl, rfl⟩ | ⟨b, c, pl, t, hb0, hb, rfl, hc, hc0, hg, ht⟩
 · have : m = 0 := by simpa using hm
   subst this; exact ⟨.nils, rfl, by simpa using fK.nil n0 h⟩
 · refine ⟨.slc b 0 m c true, ?_, .inr ⟨b, c, pl, t, hb0, hb, by simp; omega, by simp; omega, hc0, hg, λ j x hj => ?_⟩⟩
   · simp only [dK, dF, dHi, dLo]; rw [Nat.ble_eq_true_of_le (show m <= c by omega), cond_true, Nat.ble_eq_true_of_le (Nat.zero_le _), cond_true, dT hc0, cond_true]
     simp [bE]
   · rw [List.getElem?_take] at hj; split at hj
     · exact ht j x hj
     · cases hj
theorem fK.appendRow {x : DV} {new : List DV} {bytes : Nat} (g : fK n0 h v L) (hn0 : n0 <= h.size) (r : dY h x new) (h1 : new.all DV.one = true)
   (hs : (L.length + new.length) * bytes < aW) (hs2 : L.length + new.length < aW) : ∃ v' h', cF 1 bytes v x h = some (v', h') /\ fK n0 h' v' (L ++ new) /\ cL n0 h h' := by
 rcases g with ⟨rfl, rfl⟩ | ⟨b, c, pl, t, hb0, hb, rfl, hc, hc0, hg, ht⟩
 · by_cases hne : new = []
   · subst hne; refine ⟨.nils, h, ?_, fK.nil _ _, cL.refl _ _⟩; rw [eU]; simp only [fS, r.srcLen, r.src, Option.bind_some, List.length_nil]; rfl
   · have hpos : 0 < new.length := List.length_pos_iff.2 hne; refine ⟨.slc h.size 0 new.length new.length true, h.push (.blk ⟨new.length, 1, false, true, Tr.ofL new⟩), ?_, .inr ⟨h.size, new.length, true, Tr.ofL new, hn0, by simp, by simp, by simp, hpos, by rw [H.get_push, if_pos rfl], λ j y hj => by rw [Tr.at_ofL]; exact hj⟩, cL.push hn0 _⟩
     rw [eU]; simp only [fS, r.srcLen, r.src, Option.bind_some]; simp only [List.length_nil, Nat.zero_add] at hs hs2; rw [aBU (show new.length ≠ 0 by omega), dT hs, dT hs2]
     simp only [cond_false, Bool.and_self, cond_true, H.pushK_eq, Nat.mul_one]
 · rw [eU]; simp only [fS, r.srcLen, r.src, Option.bind_some, bE, Nat.zero_add, Nat.mul_one]; by_cases hfit : L.length + new.length <= c
   · rw [Nat.ble_eq_true_of_le hfit, cond_true]; obtain ⟨h1', t', f1, f2, f3, f4, f5⟩ := qX (h := h) (b := b) (o := L.length) (vs := new) hg rfl hfit h1; refine ⟨_, h1', by rw [f1]; rfl, .inr ⟨b, c, pl, t', hb0, by rw [f2]; exact hb, by simp, by simpa using hfit, hc0, f4, λ j y hj => ?_⟩, ⟨by rw [f2]; exact Nat.le_refl _, λ d hd => f3 d (by omega)⟩⟩
     rw [f5]; rcases Nat.lt_or_ge j L.length with h2 | h2
     · rw [if_neg (by omega)]
       rw [List.getElem?_append_left h2] at hj; exact ht j y hj
     · rw [List.getElem?_append_right h2] at hj; have := mB hj; rw [if_pos ⟨h2, by omega⟩]; exact hj
   · rw [jC hfit, cond_false, dT hs, dT hs2]; simp only [Bool.and_self, cond_true, hg, Nat.beq_refl, h1, Nat.ble_eq_true_of_le hc, Bool.not_false, aDe, Nat.mul_one, Option.bind_some, H.pushK_eq, H.putK_eq]; refine ⟨_, _, rfl, .inr ⟨h.size, L.length + new.length, false, Tr.ofF new L.length t, hn0, by simp, by simp, by simp, by omega, by rw [H.get_put, if_neg (by omega), H.get_push, if_pos rfl], λ j y hj => ?_⟩, ⟨by simp, λ d hd => by rw [H.get_put, if_neg (by omega), H.get_push, if_neg (by omega)]⟩⟩
     rw [Tr.at_ofF]; rcases Nat.lt_or_ge j L.length with h2 | h2
     · rw [if_neg (by omega)]
       rw [List.getElem?_append_left h2] at hj; exact ht j y hj
     · rw [List.getElem?_append_right h2] at hj; have := mB hj; rw [if_pos ⟨h2, by omega⟩]; exact hj
theorem fK.push1 {x z : DV} {bytes : Nat} (g : fK n0 h v L) (hn0 : n0 <= h.size) (h1 : x.one = true)
   (hs : (L.length + 1) * bytes < aW) (hs2 : L.length + 1 < aW) : ∃ v' h', (∀ (R : Type) (k : DV -> H -> Option R), (gT 1 1 [z] [(0, 1, x)] h λ y h' => wK (cF 1 bytes v y h') k) = k v' h') /\ fK n0 h' v' (L ++ [x]) /\ cL n0 h h' := by
 have hp : cT (h.push (.blk ⟨1 * 1, 1, false, true, Tr.ofL [x]⟩)) h.size [x] := cT.pushed (h := h) (L := [x]) (pl := true); have g' : fK n0 (h.push (.blk ⟨1 * 1, 1, false, true, Tr.ofL [x]⟩)) v L := g.keep (cL.push (Nat.le_refl _) _) (Nat.le_refl _); obtain ⟨v', h', f1, f2, f3⟩ := g'.appendRow (x := .slc h.size 0 1 1 false) (new := [x]) (bytes := bytes) (by rw [H.size_push]; omega) (hp.row false) (by simp [h1]) hs hs2
 refine ⟨v', h', λ R k => ?_, f2, (cL.push hn0 _).trans f3⟩
 have hf : iJ (gR [z] 1) [(0, 1, x)] = some [x] := by
   have hc : x.cells = [x] := by cases x <;> first | rfl | cases h1
   simp [iJ, gR, hc, uY]; rfl
 simp only [gT, hf, Option.bind_some, H.pushK_eq]; rw [f1]; rfl
end
end Go.DI
namespace Go.DI
open Go.RowKit
theorem eK {R : Type} (l : List DV) (t : Bool) (op : (DV -> H -> Option R) -> Option R) (h : H) (k : DV -> H -> Option R) : bA (.tup l) t op h k = k (.tup []) h := id rfl
theorem aY (a : DV) (l : List DV) : aG 0 (.tup (a :: l)) = some a := id rfl
theorem aX (a b : DV) (l : List DV) : aG 1 (.tup (a :: b :: l)) = some b := id rfl
theorem oX (a b c : DV) (l : List DV) : aG 2 (.tup (a :: b :: c :: l)) = some c := rfl
theorem aDX {s : Ln} {i j : Nat} (hi : i <= j) (hj : j <= s.length) (k k' : IntKind) : gY (.str s) (some (.int k (.ofNat i))) (some (.int k' (.ofNat j))) = some (.str ((s.take j).drop i)) := by
 simp only [gY, dF, dHi, dLo]; rw [Nat.ble_eq_true_of_le hj, cond_true, Nat.ble_eq_true_of_le hi, cond_true, iI]
theorem pJ (k k' : IntKind) (a b : Nat) : aAv (.int k (.ofNat a)) (.int k' (.ofNat b)) = some (.int k (.ofNat (min a b))) := by
 simp only [aAv, nJ]
 congr 2
 by_cases h : b < a
 · rw [show decide (Int.ofNat b < Int.ofNat a) = true from by simp only [Int.ofNat_eq_natCast, decide_eq_true_iff]; omega]
   show Int.ofNat b = _; congr 1; omega
 · rw [show decide (Int.ofNat b < Int.ofNat a) = false from by simp only [Int.ofNat_eq_natCast, decide_eq_false_iff_not]; omega]
   show Int.ofNat a = _; congr 1; omega
theorem bR (k : IntKind) (a b : Nat) : dA (.int k (.ofNat a)) (.int k (.ofNat b)) = some (.bool (!decide (a = b))) := by
 rw [aSp]; congr 2; rw [Bool.eq_iff_iff]; simp only [bne_iff_ne, ne_eq, Int.ofNat_eq_natCast, Bool.not_eq_true', decide_eq_false_iff_not]; omega
theorem lT (s t : Ln) : dA (.str s) (.str t) = some (.bool (s != t)) := by
 show eX (!sEq s t) = _; rw [fV, sY]; rfl
end Go.DI
namespace Go.DI
open Go.RowKit
def bB (h : H) (b : Nat) (L : List DV) : Prop := b < h.size /\ ∃ es t, h.get b = some (.blk ⟨L.length, es, false, true, t⟩) /\ ∀ j x, L[j]? = some x -> t.at_ j = some x
section
variable {h h' : H} {b : Nat} {L : List DV}
theorem bB.rd (hb : bB h b L) {j : Nat} {x : DV} (hj : L[j]? = some x) : rdCell h.get b j = some x := by
 obtain ⟨hlt, es, t, h1, h2⟩ := hb; rw [kI h1 (mB hj)]; exact h2 j x hj
theorem bB.read (hb : bB h b L) {j : Nat} {x : DV} (hj : L[j]? = some x) : aI h.get (.ptr b j) = some x := by
 simp only [aI, cK]; exact hb.rd hj
theorem bB.cells (hb : bB h b L) {o k : Nat} (hk : o + k <= L.length) : rdCells h.get b o k = some ((L.drop o).take k) := by
 have hl : ((L.drop o).take k).length = k := by simp; omega
 have := lN (rd := h.get) (b := b) ((L.drop o).take k) o λ i v hi => hb.rd (by
   rw [List.getElem?_take] at hi; split at hi
   · rw [List.getElem?_drop] at hi; exact hi
   · cases hi)
 rw [hl] at this; exact this
theorem bB.readN (hb : bB h b L) {o k : Nat} (hk : o + k <= L.length) : aK k h.get (.ptr b o) = some (.agg ((L.drop o).take k)) := by
 simp only [aK, cI, hb.cells hk]; rfl
theorem bB.but (hb : bB h b L) {c : Nat} (hc : b ≠ c) (k : But c h h') : bB h' b L := by
 obtain ⟨hlt, es, t, h1, h2⟩ := hb; exact ⟨by rw [k.size]; exact hlt, es, t, by rw [k.get b hc]; exact h1, h2⟩
theorem bB.grown (hb : bB h b L) (g : aH h h') : bB h' b L := by
 obtain ⟨hlt, es, t, h1, h2⟩ := hb; exact ⟨Nat.lt_of_lt_of_le hlt g.size, es, t, by rw [g.get b hlt]; exact h1, h2⟩
theorem bB.keep {n : Nat} (hb : bB h b L) (k : cL n h h') (hn : b < n) : bB h' b L := by
 obtain ⟨hlt, es, t, h1, h2⟩ := hb; exact ⟨Nat.lt_of_lt_of_le hlt k.size, es, t, by rw [k.get b hn]; exact h1, h2⟩
theorem bB.store (hb : bB h b L) {vs : List DV} {o : Nat} (hv : vs.all DV.one = true) (ho : o + vs.length <= L.length) :
   ∃ h', hM vs h b o = some h' /\ bB h' b (L.take o ++ vs ++ L.drop (o + vs.length)) /\ But b h h' := by
 obtain ⟨hlt, es, t, h1, h2⟩ := hb; obtain ⟨h', t', f1, f2, f3, f4, f5⟩ := qX (h := h) (b := b) (o := o) (vs := vs) h1 rfl ho hv; have hlen : (L.take o ++ vs ++ L.drop (o + vs.length)).length = L.length := by simp; omega
 refine ⟨h', f1, ⟨by rw [f2]; exact hlt, es, t', by rw [f4, hlen], λ j x hj => ?_⟩, ⟨f2, f3⟩⟩
 rw [f5]; have ht : (L.take o).length = o := by simp; omega
 by_cases hjo : o <= j /\ j < o + vs.length
 · rw [if_pos hjo]; rw [List.append_assoc, List.getElem?_append_right (by omega), ht, List.getElem?_append_left (by omega)] at hj
   exact hj
 · rw [if_neg hjo]; apply h2; rcases Nat.lt_or_ge j o with hlt | hge
   · rw [List.append_assoc, List.getElem?_append_left (by omega), List.getElem?_take, if_pos hlt] at hj
     exact hj
   · have hge2 : o + vs.length <= j := by
       rcases Nat.lt_or_ge j (o + vs.length) with h3 | h3
       · exact absurd ⟨hge, h3⟩ hjo
       · exact h3
     rw [List.getElem?_append_right (by simp only [List.length_append, ht]; omega), List.length_append, ht, List.getElem?_drop] at hj
     rw [show j = o + vs.length + (j - (o + vs.length)) from by omega]; exact hj
theorem xQ {v : DV} (hv : v.one = true) : v.cells = [v] := by cases v <;> first | rfl | cases hv
theorem bB.set (hb : bB h b L) {j : Nat} {v : DV} (hv : v.one = true) (hj : j < L.length) :
   ∃ h', bQ 1 (.ptr b j) v h = some (.tup [], h') /\ bB h' b (L.set j v) /\ But b h h' := by
 obtain ⟨h', f1, f2, f3⟩ := hb.store (vs := [v]) (o := j) (by simp [hv]) (by simp; omega)
 refine ⟨h', ?_, ?_, f3⟩
 · rw [aBj]; simp only [dSt, xQ hv, List.length_singleton, Nat.beq_refl, cond_true, f1, Option.map_some]
 · have : L.take j ++ [v] ++ L.drop (j + [v].length) = L.set j v := by
     rw [List.set_eq_take_append_cons_drop, if_pos hj]; simp
   rw [<- this]; exact f2
theorem bB.setN (hb : bB h b L) {o n : Nat} {cs : List DV} (hn : cs.length = n) (hv : cs.all DV.one = true) (ho : o + n <= L.length) :
   ∃ h', bQ n (.ptr b o) (.agg cs) h = some (.tup [], h') /\ bB h' b (L.take o ++ cs ++ L.drop (o + n)) /\ But b h h' := by
 subst hn; obtain ⟨h', f1, f2, f3⟩ := hb.store (vs := cs) (o := o) hv ho; refine ⟨h', ?_, f2, f3⟩; rw [aBj]; have : (DV.agg cs).cells = cs := rfl; simp only [dSt, this, Nat.beq_refl, cond_true, f1, Option.map_some]
theorem fJ {R : Type} (cs : List DV) (h : H) (k : DV -> H -> Option R) : dN (.agg cs) h k = k (.ptr h.size 0) (h.push (.blk ⟨cs.length, cs.length, false, true, Tr.ofL cs⟩)) := by
 simp only [dN, bE, H.pushK_eq]; rfl
theorem xE {R : Type} {v : DV} (hv : v.one = true) (h : H) (k : DV -> H -> Option R) : dN v h k = k (.ptr h.size 0) (h.push (.blk ⟨1, 1, false, true, Tr.ofL [v]⟩)) := by
 simp only [dN, bE, H.pushK_eq, xQ hv]; rfl
theorem bB.pushed {L : List DV} {es : Nat} : bB (h.push (.blk ⟨L.length, es, false, true, Tr.ofL L⟩)) h.size L :=
 ⟨by rw [H.size_push]; omega, es, _, by rw [H.get_push, if_pos rfl], λ j x hj => by rw [Tr.at_ofL]; exact hj⟩
end
@[simp] theorem bG (b o : Nat) : aL (.ptr b o) = some (.ptr b o) := id rfl
theorem aM (off b o : Nat) : aF off (.ptr b o) = some (.ptr b (o + off)) := by simp only [aF, bE]
theorem aGX {len es b o j : Nat} (hj : j < len) (k : IntKind) : lG len es (.ptr b o) (.int k (.ofNat j)) = some (.ptr b (o + j * es)) := by
 simp only [lG, rF, bE]; rw [dT hj]; rfl
end Go.DI
namespace Go.DI
open Go.RowKit
theorem wR (k' : IntKind) {a b : Nat} (hb : b <= 64) : aDY (.int .u64 (.ofNat a)) (.int k' (.ofNat b)) = some (.int .u64 (.ofNat (a * 2 ^ b % 18446744073709551616))) := by
 show pZ .shl .u64 (.ofNat a) (.ofNat b) = _; unfold pZ; rw [show iLt (.ofNat b) 0 = false from by rw [nJ]; simp]
 simp only [cond_false, jY]; rw [show min (Int.ofNat b).toNat IntKind.u64.bits = b from by show min b 64 = b; omega, aAw]
 congr 2
theorem aSm {a : Nat} (ha : a < 9223372036854775808) (k' : IntKind) : yK (.int .i64 (.negSucc a)) (.int k' (.ofNat 63)) = some (.int .i64 (.negSucc 0)) := by
 show pZ .shr .i64 (.negSucc a) (.ofNat 63) = _; unfold pZ; rw [show iLt (.ofNat 63) 0 = false from by rw [nJ]; simp]
 simp only [cond_false, pD]; rw [show min (Int.ofNat 63).toNat IntKind.i64.bits = 63 from rfl]
 congr 2
 rw [Int.fdiv_eq_ediv_of_nonneg _ (by omega)]
 omega
theorem aUa {u : Nat} (h : u < 18446744073709551616) : aEc (.int .u64 (.ofNat u)) (.int .u64 (.ofNat 127)) = some (.int .u64 (.ofNat (u % 128))) := by
 have e : u &&& 127 = u % 128 := Nat.and_two_pow_sub_one_eq_mod u 7; rw [aSs .u64 u 127 (by show u < 2 ^ 64; omega) (by decide), e, uP (by omega)]
theorem aTW (k : IntKind) (a b : Nat) (ha : a < 2 ^ k.bits) (hb : b < 2 ^ k.bits) : aSo (.int k (.ofNat a)) (.int k (.ofNat b)) = some (.int k (k.wrap (.ofNat (a ||| b)))) := by
 show (bif kEq k k then bCt k (.ofNat a) (.ofNat b) else none) = _; rw [jM]; show (bif Nat.blt a (2 ^ k.bits) && Nat.blt b (2 ^ k.bits) then jO k (.ofNat (Nat.lor a b)) else _) = _; rw [dT ha, dT hb]; exact jY _ _
set_option maxRecDepth 100000 in
theorem bIV : ∀ x, x < 256 -> x ||| 128 = x % 128 + 128 := by decide
theorem aPQ {x : Nat} (h : x < 256) : aSo (.int .u8 (.ofNat x)) (.int .u8 (.ofNat 128)) = some (eQ (x % 128 + 128)) := by
 rw [aTW .u8 x 128 (by show x < 2 ^ 8; omega) (by decide), bIV x h]
 unfold eQ; rw [wrap_u8 (by omega)]
theorem qY (u : Nat) (k : IntKind) : fF .u8 (.int k (.ofNat u)) = some (.int .u8 (.ofNat (u % 256))) := by
 rw [pL, IntKind.wrap_u8]
 congr 2
theorem rI {b : Nat} (h : b < 18446744073709551616) (k : IntKind) : fF .u64 (.int k (.ofNat b)) = some (.int .u64 (.ofNat b)) := by
 rw [pL, uP h]
theorem aIq {a b : Nat} (k k' : IntKind) (hb : b <= k.bits) : yK (.int k (.ofNat a)) (.int k' (.ofNat b)) = some (.int k (.ofNat (a / 2 ^ b))) := aSn k k' a b hb
theorem aKM {x : Nat} (h : x < 18446744073709551616) : x ^^^ 18446744073709551615 = 18446744073709551615 - x := by
 apply Nat.eq_of_testBit_eq; intro i; rw [Nat.testBit_xor, show 18446744073709551615 - x = 2 ^ 64 - (x + 1) from by omega, Nat.testBit_two_pow_sub_succ h, show 18446744073709551615 = 2 ^ 64 - 1 from rfl, Nat.testBit_two_pow_sub_one]
 by_cases hi : i < 64
 · simp [hi]
 · have : x.testBit i = false := Nat.testBit_lt_two_pow (Nat.lt_of_lt_of_le h (by
     show 2 ^ 64 <= 2 ^ i; exact Nat.pow_le_pow_right (by omega) (by omega)))
   simp [hi, this]
def zz (n : Int) : Nat := match n with
 | .ofNat a => 2 * a
 | .negSucc a => 2 * a + 1
theorem bIC {n : Int} (h1 : -9223372036854775808 <= n) (h2 : n < 9223372036854775808) : ∃ (x y z : DV), fF .u64 (.int .i64 n) = some x /\ aDY x (.int .u64 (.ofNat 1)) = some y /\ yK (.int .i64 n) (.int .u64 (.ofNat 63)) = some z /\
   ∃ w, fF .u64 z = some w /\ aDW y w = some (.int .u64 (.ofNat (zz n))) := by
 cases n with
 | ofNat a =>
   simp only [Int.ofNat_eq_natCast] at h2; refine ⟨_, _, _, rI (by omega) _, wR _ (by omega), aIq _ _ (by decide), _, rI (by omega) _, ?_⟩
   have e1 : a * 2 ^ 1 % 18446744073709551616 = 2 * a := by omega
   have e2 : a / 2 ^ 63 = 0 := by omega
   rw [e1, e2, aBx .u64 _ _ (by show 2 * a < 2 ^ 64; omega) (by decide), Nat.xor_zero, uP (by omega)]; rfl
 | negSucc a =>
   have ha : a < 9223372036854775808 := by omega
   have e0 : IntKind.u64.wrap (.negSucc a) = .ofNat (18446744073709551615 - a) := by
     rw [aAw]; simp only [Int.ofNat_eq_natCast]; omega
   have e3 : IntKind.u64.wrap (.negSucc 0) = .ofNat 18446744073709551615 := by rw [aAw]; rfl
   refine ⟨.int .u64 (.ofNat (18446744073709551615 - a)), _, _, by rw [pL, e0], wR _ (by omega), aSm ha _, .int .u64 (.ofNat 18446744073709551615), by rw [pL, e3], ?_⟩
   have e1 : (18446744073709551615 - a) * 2 ^ 1 % 18446744073709551616 = 18446744073709551614 - 2 * a := by omega
   rw [e1, aBx .u64 _ _ (by show 18446744073709551614 - 2 * a < 2 ^ 64; omega) (by decide), aKM (by omega), uP (by omega)]
   have e5 : 18446744073709551615 - (18446744073709551614 - 2 * a) = 2 * a + 1 := by omega
   rw [e5]; rfl
theorem bBB {n : Int} (h1 : -9223372036854775808 <= n) (h2 : n < 9223372036854775808) : ∃ (x y : DV), fF .u64 (.int .i64 n) = some x /\ aDY x (.int .u64 (.ofNat 1)) = some y /\
   (0 <= n -> y = .int .u64 (.ofNat (zz n))) /\ (n < 0 -> aDW y (.int .u64 (.ofNat 18446744073709551615)) = some (.int .u64 (.ofNat (zz n)))) := by
 cases n with
 | ofNat a =>
   simp only [Int.ofNat_eq_natCast] at h2; refine ⟨_, _, rI (by omega) _, wR _ (by omega), λ _ => ?_, λ h => absurd h (by simp only [Int.ofNat_eq_natCast]; omega)⟩
   have e1 : a * 2 ^ 1 % 18446744073709551616 = 2 * a := by omega
   rw [e1]; rfl
 | negSucc a =>
   have ha : a < 9223372036854775808 := by omega
   have e0 : IntKind.u64.wrap (.negSucc a) = .ofNat (18446744073709551615 - a) := by
     rw [aAw]; simp only [Int.ofNat_eq_natCast]; omega
   refine ⟨.int .u64 (.ofNat (18446744073709551615 - a)), _, by rw [pL, e0], wR _ (by omega), λ h => absurd h (by omega), λ _ => ?_⟩
   have e1 : (18446744073709551615 - a) * 2 ^ 1 % 18446744073709551616 = 18446744073709551614 - 2 * a := by omega
   rw [e1, aBx .u64 _ _ (by show 18446744073709551614 - 2 * a < 2 ^ 64; omega) (by decide), aKM (by omega), uP (by omega)]
   have e5 : 18446744073709551615 - (18446744073709551614 - 2 * a) = 2 * a + 1 := by omega
   rw [e5]; rfl
theorem bW {R : Type} {n es : Nat} (L : List DV) (h : H) (k : DV -> H -> Option R) : dZ n es (.list L) h k = k (.ptr h.size 0) (h.push (.blk ⟨n, es, false, true, Tr.ofL L⟩)) := by
 simp only [dZ, H.pushK_eq]; rfl
theorem oZ (k : IntKind) (n : Int) : rcK (some (.int k n)) (.int k n) = true := by
 show qJ (.int k n) (.int k n) = true; simp only [qJ, Bool.and_eq_true]
 first | (constructor <;> simp) | simp
theorem aIF (s : Ln) : rcK (some (.str s)) (.str s) = true := by
 show qJ (.str s) (.str s) = true; simp [qJ]
theorem dI (rd : Rd) (b o : Nat) : dS .ptr false rd (.ptr b o) .nilp = some (.bool false) := rfl
theorem uR (rd : Rd) (b o : Nat) : dS .ptr true rd (.ptr b o) .nilp = some (.bool true) := rfl
def aSi (n0 : Nat) (h : H) (v : DV) (L : List DV) : Prop := cU n0 h v L \/
 ∃ b o B, v = .slc b o L.length L.length false /\ h.get b = some (.blk B) /\ ∀ j x, L[j]? = some x -> rdCell h.get b (o + j) = some x
theorem aSi.push1 {n0 : Nat} {h : H} {v x z : DV} {L : List DV} {bytes : Nat} (o : aSi n0 h v L) (hlt : ∀ b o n c op, v = .slc b o n c op -> b < h.size) (hn0 : n0 <= h.size) (h1 : x.one = true)
   (hs : (L.length + 1) * bytes < aW) (hs2 : L.length + 1 < aW) : ∃ v' h', (∀ (R : Type) (k : DV -> H -> Option R), (gT 1 1 [z] [(0, 1, x)] h λ y h' => wK (cF 1 bytes v y h') k) = k v' h') /\ cU n0 h' v' (L ++ [x]) /\ cL n0 h h' := by
 rcases o with o | ⟨b, off, B, rfl, hB, hc⟩
 · exact o.push1 hn0 h1 hs hs2
 · have hb := hlt b off _ _ _ rfl
   let h1' := h.push (.blk ⟨1 * 1, 1, false, true, Tr.ofL [x]⟩)
   have hp : cT h1' h.size [x] := cT.pushed (h := h) (L := [x]) (pl := true); have hB' : h1'.get b = some (.blk B) := by show (h.push _).get b = _; rw [H.get_push, if_neg (by omega)]; exact hB
   have hrow : rdCells h1'.get b off L.length = some L := lN L off λ j y hj => by rw [lW (hB'.trans hB.symm)]; exact hc j y hj
   have hf : iJ (gR [z] 1) [(0, 1, x)] = some [x] := by simp [iJ, gR, xQ h1, uY]; rfl
   have hne : ¬ L.length + 1 <= L.length := by omega
   have hap : cF 1 bytes (.slc b off L.length L.length false) (.slc h.size 0 1 1 false) h1' = some (.slc h1'.size 0 (L.length + 1) (L.length + 1) true, h1'.push (.blk ⟨L.length + 1, 1, false, true, Tr.ofL (L ++ [x])⟩)) := by
     rw [eU]; have hx : dP 1 h1'.get (.slc h.size 0 1 1 false) = some [x] := by
       have := hp.cells_all
       simpa [dP] using this
     simp only [fS, srcLen, hx, Option.bind_some, bE, jC hne, cond_false, dT hs, dT hs2, Bool.and_self, cond_true, hB', Nat.mul_one, hrow, H.pushK_eq]
   refine ⟨.slc h1'.size 0 (L.length + 1) (L.length + 1) true, h1'.push (.blk ⟨L.length + 1, 1, false, true, Tr.ofL (L ++ [x])⟩), λ R k => ?_, .inr ⟨h1'.size, by show n0 <= h1'.size; rw [show h1'.size = h.size + 1 from rfl]; omega, ?_, ?_⟩, ?_⟩
   · simp only [gT, hf, Option.bind_some, H.pushK_eq]; show wK (cF 1 bytes (.slc b off L.length L.length false) (.slc h.size 0 1 1 false) h1') k = _; rw [hap]; rfl
   · simp
   · have := cT.pushed (h := h1') (L := L ++ [x]) (pl := true); rw [List.length_append] at this; exact this
   · exact (cL.push hn0 _).trans (cL.push (by show n0 <= h1'.size; rw [show h1'.size = h.size + 1 from rfl]; omega) _)
theorem cU.lt_size {n0 : Nat} {h : H} {v : DV} {L : List DV} (o : cU n0 h v L) : ∀ b o n c op, v = .slc b o n c op -> b < h.size := by
 intro b off n c op e; rcases o with ⟨rfl, _⟩ | ⟨b', _, rfl, hb⟩
 · cases e
 · cases e; exact hb.1
def aKH (h : H) (v : DV) (L : List DV) : Prop := aSi h.size h v L /\ ∀ b o n c op, v = .slc b o n c op -> b < h.size
theorem cU.appendStr {n0 : Nat} {h : H} {v : DV} {s : Ln} (o : cU n0 h v (bU s)) (hn0 : n0 <= h.size) (t : Ln) (hs : s.length + t.length <= 1000000) :
   ∃ v' h', cF 1 1 v (.str t) h = some (v', h') /\ cU n0 h' v' (bU (s ++ t)) /\ cL n0 h h' := by
 have e1 : (t.map λ b => DV.int .u8 (.ofNat b)) = bU t := rfl
 by_cases ht : t = []
 · subst ht; refine ⟨v, h, ?_, by simpa using o, cL.refl _ _⟩
   rw [eU]; rcases o with ⟨rfl, e⟩ | ⟨b, _, rfl, hb⟩
   · simp only [fS, srcLen, dP, bE, List.length_nil, Option.bind_some, Nat.beq_refl, cond_true]
   · simp only [fS, srcLen, dP, bE, List.length_nil, Option.bind_some, Nat.beq_refl, cond_true, Nat.add_zero, Nat.ble_eq_true_of_le (Nat.le_refl _)]; rfl
 · have := o.append (x := .str t) (new := bU t) (bytes := 1) hn0 (by simp only [srcLen, bE, bS]) (by simp only [dP, Nat.beq_refl, cond_true, e1]) (rJ t) (by intro e; exact ht (by simpa [bU] using e)) (by simp only [bS]; unfold aW; omega) (by simp only [bS]; unfold aW; omega)
   rw [eF]; exact this
theorem dY.text {h : H} {v : DV} {s : Ln} (r : dY h v (bU s)) (hok : bF s = true) : mY h.get v = some (.str s) := by
 have hs := r.src; rcases r with ⟨e, hv⟩ | ⟨b, o, c, op, rfl, _⟩
 · have : s = [] := by
     cases s with
     | nil => rfl
     | cons _ _ => cases e
   subst this; rcases hv with rfl | ⟨b, o, o2, rfl⟩ <;> rfl
 · simp only [dP, Nat.mul_one] at hs; rw [bS] at hs ⊢; simp only [mY, cI, hs, Option.bind_some, vY hok, iI]
theorem aSZ {R : Type} {z x : DV} (hx : x.one = true) (h : H) (k : DV -> H -> Option R) : gT 1 1 [z] [(0, 1, x)] h k = k (.slc h.size 0 1 1 false) (h.push (.blk ⟨1, 1, false, true, Tr.ofL [x]⟩)) := by
 have hf : iJ (gR [z] 1) [(0, 1, x)] = some [x] := by simp [iJ, gR, xQ hx, uY]; rfl
 simp only [gT, hf, Option.bind_some, H.pushK_eq, Nat.mul_one]
theorem dY.one {h : H} {x : DV} : dY (h.push (.blk ⟨1, 1, false, true, Tr.ofL [x]⟩)) (.slc h.size 0 1 1 false) [x] := (cT.pushed (h := h) (L := [x]) (pl := true)).row false
theorem bB.all {h : H} {b n : Nat} {L : List DV} (hb : bB h b L) (hn : L.length = n) : aK n h.get (.ptr b 0) = some (.agg L) := by
 rw [hb.readN (by omega), List.drop_zero, List.take_of_length_le (by omega)]
theorem bB.setAll {h : H} {b n : Nat} {L cs : List DV} (hb : bB h b L) (hL : L.length = n) (hn : cs.length = n) (hv : cs.all DV.one = true) :
   ∃ h', bQ n (.ptr b 0) (.agg cs) h = some (.tup [], h') /\ bB h' b cs /\ But b h h' := by
 obtain ⟨h', f1, f2, f3⟩ := hb.setN (o := 0) hn hv (by omega)
 refine ⟨h', f1, ?_, f3⟩; rw [List.take_zero, List.nil_append, Nat.zero_add, List.drop_of_length_le (by omega), List.append_nil] at f2
 exact f2
end Go.DI
end
