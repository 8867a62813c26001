/- D once more, its registers a function; plain functions that are D's; functions told by what they compute; deferred closures that recover. No condition beyond the theorems' own. -/
import Derived.Recover
import Derived.SliceStrings
import Derived.SizedLaws
import Derived.WideShapes
import Derived.Lib.Join
import Derived.Test.YtmafhiogonejfaaGreatDoorDb
set_option linter.unusedVariables false
set_option linter.unusedSimpArgs false
noncomputable section
namespace Go.DI
open Go.RowKit
theorem fX.mono {P : Program} {f : FuncId} {F G : cE} (hF : fX P f F) (h : ∀ args h r, G args h = some r -> F args h = some r) : fX P f G :=
 λ N0 w0 m hh w args args' v h' hr ht hw => hF N0 w0 m hh w args args' v h' (h _ _ _ hr) ht hw
structure aJ (h h' : H) : Prop where
 size : h.size <= h'.size
 get : ∀ b, b < h.size -> h'.get b = h.get b
theorem aJ.refl (h : H) : aJ h h := ⟨Nat.le_refl _, λ _ _ => rfl⟩
theorem aJ.trans {a b c : H} (x : aJ a b) (y : aJ b c) : aJ a c :=
 ⟨Nat.le_trans x.size y.size, λ i hi => (y.get i (Nat.lt_of_lt_of_le hi x.size)).trans (x.get i hi)⟩
theorem aJ.push (h : H) (o : iR) : aJ h (h.push o) := ⟨by simp, λ b hb => by rw [H.get_push, if_neg (by omega)]⟩
def oL (v : DV) : Prop := ∀ m m' : Mp, tr m v = tr m' v
theorem cX.forget {N0 : Nat} {w0 : World} {m m' : Mp} {h h' : H} {w w' : World} (hw : cX N0 w0 m h w) (hw' : cX N0 w0 m' h' w') (he : lG m h m' h') (hg : aJ h h') : cX N0 w0 m h w' := by
 have hgb : ∀ b i, m b = some i -> h'.get b = h.get b := λ b i e => hg.get b (hw.lt b i e).1
 refine ⟨λ b i e => ⟨(hw.lt b i e).1, (hw'.lt b i (he.le b i e)).2⟩, λ b i e => ?_, hw.inj, hw'.below, hw'.base, hw.wf⟩
 obtain ⟨o, g, r, n⟩ := hw.has b i e; obtain ⟨o', g', r', n'⟩ := hw'.has b i (he.le b i e); rw [hgb b i e, g] at g'; cases g'; refine ⟨o, g, ?_, n⟩; cases o with
 | blk B =>
   obtain ⟨⟨c, el, fr, h1, h2, h3⟩, _, _⟩ := r; obtain ⟨⟨c', el', fr', h1', h2', h3'⟩, hf', hp'⟩ := r'; refine ⟨⟨c', el', fr', h1', h2', λ j hj => ?_⟩, hf', hp'⟩
   rcases h3 j hj with ⟨v, v', a, b', d⟩ | hx
   · rcases h3' j hj with ⟨u, u', a', b'', d'⟩ | ⟨_, hx⟩
     · rw [a] at a'; cases a'; rw [fC he.le _ _ b'] at b''; cases b''; exact .inl ⟨v, v', a, b', d'⟩
     · rw [a] at hx; cases hx
   · exact .inr hx
 | dead => trivial
 | map ds clock =>
   obtain ⟨es, h1, h2⟩ := r; obtain ⟨es', h1', h2'⟩ := r'; refine ⟨es', h1', ?_⟩; have same : ∀ {ds : List xR} {es es' : List MapEntry}, gD m ds es -> gD m' ds es' -> gD m ds es' := by
     intro ds
     induction ds with
     | nil => intro es es' a b; cases es' <;> first | trivial | exact b.elim
     | cons d ds ih =>
       intro es es' a b; cases es with
       | nil => exact a.elim
       | cons e es =>
         cases es' with
         | nil => exact b.elim
         | cons e' es' =>
           refine ⟨⟨?_, ?_, b.1.2.2⟩, ih a.2 b.2⟩
           · have := fC he.le _ _ a.1.1; rw [b.1.1] at this; rw [a.1.1, this]
           · have := fC he.le _ _ a.1.2.1; rw [b.1.2.1] at this; rw [a.1.2.1, this]
   exact same h2 h2'
theorem fX.forget {P : Program} {f : FuncId} {F G : cE} (hF : fX P f F)
   (hG : ∀ args h v h', G args h = some (v, h') -> h' = h /\ oL v /\ ∃ h1, F args h = some (v, h1) /\ aJ h h1) : fX P f G := by
 intro N0 w0 m h w args args' v h' hr ht hw; obtain ⟨rfl, hv, h1, h2, h3⟩ := hG _ _ _ _ hr; refine (hF N0 w0 m h' w args args' v h1 h2 ht hw).mono λ e w' hh => ?_
 obtain ⟨m', v', e1, e2, e3, e4⟩ := hh; exact ⟨m, v', e1, by rw [hv m m']; exact e2, hw.forget e3 e4 h3, lG.refl _ _⟩
theorem oL.int (k : IntKind) (n : Int) : oL (.int k n) := λ _ _ => rfl
theorem oL.str (s : Ln) : oL (.str s) := λ _ _ => rfl
theorem oL.tup2 {a b : DV} (ha : oL a) (hb : oL b) : oL (.tup [a, b]) := λ m m' => by simp only [tr, trs, ha m m', hb m m']
end Go.DI
namespace Go.DI
open Go.RowKit
section
variable {R : Type}
def vK (o : Option DV) (k : DV -> Option R) : Option R := Option.rec (motive := λ _ => Option R) none k o
def wK (o : Option (DV × H)) (k : DV -> H -> Option R) : Option R := Option.rec (motive := λ _ => Option R) none (λ x => Prod.rec (motive := λ _ => Option R) k x) o
def bK (x : DV) (a b : Option R) : Option R := match x with
 | .bool c => Bool.rec b a c
 | _ => none
def gK (x : DV) (t : Bool) (a b : Option R) : Option R := match x with
 | .bool c => Bool.rec (Bool.rec a b t) (Bool.rec b a t) c
 | _ => b
def rcK (o : Option DV) (v : DV) : Bool := Option.rec (motive := λ _ => Bool) false (λ u => qD u v) o
theorem bEL (o : Option DV) (k : DV -> Option R) : vK o k = o.bind k := by cases o <;> rfl
theorem bEK (o : Option (DV × H)) (k : DV -> H -> Option R) : wK o k = o.bind λ x => k x.1 x.2 := by cases o <;> rfl
end
theorem rR (n a : Nat) (ha : a < 2 ^ n) : (BitVec.ofInt n (Int.ofNat a)).toNat = a := by
 rw [BitVec.toNat_ofInt]; have h2 : (Int.ofNat a) % ((2 ^ n : Nat) : Int) = (a : Int) := by
   rw [Int.ofNat_eq_natCast, <- Int.natCast_emod, Nat.mod_eq_of_lt ha]
 have h3 : ∀ z : Int, z = ((2 ^ n : Nat) : Int) -> ((Int.ofNat a) % z).toNat = a := by
   intro z hz; rw [hz, h2]; rfl
 exact h3 _ (by simp)
def fb (f : Nat -> Nat -> Nat) (s : IntKind -> Int -> Int -> Option DV) (k : IntKind) (x y : Int) : Option DV :=
 Int.rec (motive := λ _ => Option DV) (λ a => Int.rec (motive := λ _ => Option DV) (λ b => bif Nat.blt a (2 ^ k.bits) && Nat.blt b (2 ^ k.bits) then jI k (.ofNat (f a b)) else s k x y) (λ _ => s k x y) y) (λ _ => s k x y) x
theorem aUP {f : Nat -> Nat -> Nat} {s : IntKind -> Int -> Int -> Option DV} {k : IntKind} (h : ∀ a b, a < 2 ^ k.bits -> b < 2 ^ k.bits -> s k (.ofNat a) (.ofNat b) = jI k (.ofNat (f a b))) (x y : Int) : fb f s k x y = s k x y := by
 cases x with
 | negSucc a => rfl
 | ofNat a =>
   cases y with
   | negSucc b => rfl
   | ofNat b =>
     show (bif Nat.blt a (2 ^ k.bits) && Nat.blt b (2 ^ k.bits) then jI k (.ofNat (f a b)) else s k (.ofNat a) (.ofNat b)) = _; cases hb : (Nat.blt a (2 ^ k.bits) && Nat.blt b (2 ^ k.bits)) with
     | false => rfl
     | true =>
       rw [Bool.and_eq_true, Nat.blt_eq, Nat.blt_eq] at hb; exact (h a b hb.1 hb.2).symm
def aQd : IntKind -> Int -> Int -> Option DV := fb Nat.land aQz
def bBO : IntKind -> Int -> Int -> Option DV := fb Nat.lor bCy
def aQc : IntKind -> Int -> Int -> Option DV := fb Nat.xor aQq
theorem aUR (k : IntKind) (x y : Int) : aQd k x y = aQz k x y := aUP (λ a b ha hb => by
 unfold aQz rS; rw [BitVec.toNat_and, rR _ _ ha, rR _ _ hb]; rfl) x y
theorem bBN (k : IntKind) (x y : Int) : bBO k x y = bCy k x y := aUP (λ a b ha hb => by
 unfold bCy rS; rw [BitVec.toNat_or, rR _ _ ha, rR _ _ hb]; rfl) x y
theorem aUQ (k : IntKind) (x y : Int) : aQc k x y = aQq k x y := aUP (λ a b ha hb => by
 unfold aQq rS; rw [BitVec.toNat_xor, rR _ _ ha, rR _ _ hb]; rfl) x y
def vL (f : IntKind -> Int -> Int -> Option DV) (g : Ln -> Ln -> Option DV) (a b : DV) : Option DV := match a, b with
 | .int k x, .int k' y => bif kEq k k' then f k x y else none
 | .str s, .str t => g s t
 | _, _ => none
def xN (s t : Ln) : Option DV := none
def bEU (s t : Ln) : Option DV := bif Nat.blt (s.length + t.length) gQ then xQ (s ++ t) else none
def bET (s t : Ln) : Option DV := eV (sEq s t)
def bEP (s t : Ln) : Option DV := eV (!sEq s t)
def aPC (s t : Ln) : Option DV := eV (sQ s t)
def bEQ (s t : Ln) : Option DV := eV (sQ s t || sEq s t)
def bER (s t : Ln) : Option DV := eV (!(sQ s t || sEq s t))
def bES (s t : Ln) : Option DV := eV (!sQ s t)
def bCx (op : BinOp) (a b : DV) : Option DV := match a, b with
 | .int k x, .int _ y => pT op k x y
 | _, _ => none
def bJ : DV -> DV -> Option DV := vL aQA bEU
def fA : DV -> DV -> Option DV := vL aQr xN
def aCu : DV -> DV -> Option DV := vL aVw xN
def aPq : DV -> DV -> Option DV := vL aQs xN
def bRd : DV -> DV -> Option DV := vL aVu xN
def aDO : DV -> DV -> Option DV := vL aQd xN
def aRO : DV -> DV -> Option DV := vL bBO xN
def aDJ : DV -> DV -> Option DV := vL aQc xN
def aDK : DV -> DV -> Option DV := bCx .shl
def xT : DV -> DV -> Option DV := bCx .shr
def aTt : DV -> DV -> Option DV := vL aEX xN
def bV : DV -> DV -> Option DV := vL aQy bET
def dD : DV -> DV -> Option DV := vL aQt bEP
def cT : DV -> DV -> Option DV := vL aQu aPC
def xU : DV -> DV -> Option DV := vL aQv bEQ
def eF : DV -> DV -> Option DV := vL aQw bER
def nO : DV -> DV -> Option DV := vL aQx bES
def aPu (op : BinOp) : DV -> DV -> Option DV :=
 BinOp.rec (motive := λ _ => DV -> DV -> Option DV) bJ fA aCu aPq bRd aDO aRO aDJ aDK xT aTt bV dD cT xU eF nO op
theorem jA {op : BinOp} (hs : oT op = false) {f : IntKind -> Int -> Int -> Option DV} {g : Ln -> Ln -> Option DV} (hf : ∀ k x y, f k x y = xB op k x y) (hg : ∀ s t, g s t = xA op s t) (a b : DV) : vL f g a b = aEQ op a b := by
 cases a <;> cases b <;> first | rfl | (simp only [vL, aEQ, aUy, hs, cond_false, hf, hg])
theorem aQo {op : BinOp} (hs : oT op = true) (hg : ∀ s t, xA op s t = none) (a b : DV) : bCx op a b = aEQ op a b := by
 cases a <;> cases b <;> first | rfl | (simp only [bCx, aEQ, hs, cond_true, hg])
theorem aTs (op : BinOp) (a b : DV) : aPu op a b = aEQ op a b := by
 cases op
 · exact jA (op := .add) (f := aQA) (g := bEU) rfl (λ k x y => by show jI k (aUD x y) = jI k (x + y); rw [aIt]) (λ _ _ => rfl) a b
 · exact jA (op := .sub) (f := aQr) (g := xN) rfl (λ _ _ _ => rfl) (λ _ _ => rfl) a b
 · exact jA (op := .mul) (f := aVw) (g := xN) rfl (λ _ _ _ => rfl) (λ _ _ => rfl) a b
 · exact jA (op := .quo) (f := aQs) (g := xN) rfl (λ _ _ _ => rfl) (λ _ _ => rfl) a b
 · exact jA (op := .rem) (f := aVu) (g := xN) rfl (λ _ _ _ => rfl) (λ _ _ => rfl) a b
 · exact jA (op := .and) (f := aQd) (g := xN) rfl (λ k x y => aUR k x y) (λ _ _ => rfl) a b
 · exact jA (op := .or) (f := bBO) (g := xN) rfl (λ k x y => bBN k x y) (λ _ _ => rfl) a b
 · exact jA (op := .xor) (f := aQc) (g := xN) rfl (λ k x y => aUQ k x y) (λ _ _ => rfl) a b
 · exact aQo (op := .shl) rfl (λ _ _ => rfl) a b
 · exact aQo (op := .shr) rfl (λ _ _ => rfl) a b
 · exact jA (op := .andNot) (f := aEX) (g := xN) rfl (λ _ _ _ => rfl) (λ _ _ => rfl) a b
 · exact jA (op := .eql) (f := aQy) (g := bET) rfl (λ _ _ _ => rfl) (λ _ _ => rfl) a b
 · exact jA (op := .neq) (f := aQt) (g := bEP) rfl (λ _ _ _ => rfl) (λ _ _ => rfl) a b
 · exact jA (op := .lss) (f := aQu) (g := aPC) rfl (λ _ _ _ => rfl) (λ _ _ => rfl) a b
 · exact jA (op := .leq) (f := aQv) (g := bEQ) rfl (λ _ _ _ => rfl) (λ _ _ => rfl) a b
 · exact jA (op := .gtr) (f := aQw) (g := bER) rfl (λ _ _ _ => rfl) (λ _ _ => rfl) a b
 · exact jA (op := .geq) (f := aQx) (g := bES) rfl (λ _ _ _ => rfl) (λ _ _ => rfl) a b
def aIg (rd : Rd) (b j : Nat) : Option DV := match rd b with
 | some (.blk B) => bif Nat.blt j B.n then B.t.at_ j else none
 | _ => none
theorem cH (rd : Rd) (b j : Nat) : aIg rd b j = rdCell rd b j := by
 unfold aIg rdCell; cases rd b with
 | none => rfl
 | some o =>
   cases o with
   | blk B =>
     show (bif Nat.blt j B.n then B.t.at_ j else none) = if j < B.n then B.t.at_ j else none
     by_cases h : j < B.n
     · rw [if_pos h, show Nat.blt j B.n = true from by rw [Nat.blt_eq]; exact h]; rfl
     · rw [if_neg h, show Nat.blt j B.n = false from by rw [Bool.eq_false_iff, ne_eq, Nat.blt_eq]; exact h]; rfl
   | dead => rfl
   | map a b => rfl
def aUE (t : Tr DV) (n : Nat) : Nat -> Option (List DV) :=
 Nat.rec (motive := λ _ => Nat -> Option (List DV)) (λ _ => some []) (λ _ ih j => Option.rec (motive := λ _ => Option (List DV)) none (λ v => dZ (Nat.succ j) λ j => Option.rec (motive := λ _ => Option (List DV)) none (λ vs => some (v :: vs)) (ih j)) (t.at_ j)) n
theorem aLz {rd : Rd} {b : Nat} {B : Blk} (h : rd b = some (.blk B)) : ∀ (n j : Nat), j + n <= B.n -> aUE B.t n j = rdCells rd b j n
 | 0, j, _ => rfl
 | n + 1, j, hl => by
   show Option.rec (motive := λ _ => Option (List DV)) none (λ v => dZ (Nat.succ j) λ j => Option.rec (motive := λ _ => Option (List DV)) none (λ vs => some (v :: vs)) (aUE B.t n j)) (B.t.at_ j) = _
   simp only [bA, rdCells]; rw [aLz h n (j + 1) (by omega)]
   have e : rdCell rd b j = B.t.at_ j := by simp only [rdCell, h]; rw [if_pos (by omega)]
   rw [e]; cases B.t.at_ j with
   | none => rfl
   | some v => cases rdCells rd b (j + 1) n <;> rfl
theorem sY {rd : Rd} {b : Nat} : ∀ (n j : Nat), (∀ B, rd b = some (.blk B) -> B.n < j + n) -> 0 < n -> rdCells rd b j n = none
 | 0, j, _, h => absurd h (by omega)
 | n + 1, j, hb, _ => by
   simp only [rdCells]; cases hc : rdCell rd b j with
   | none => rfl
   | some v =>
     have : 0 < n := by
       unfold rdCell at hc; split at hc
       · rename_i B hB; split at hc
         · have := hb B hB; omega
         · cases hc
       · cases hc
     rw [sY n (j + 1) (λ B hB => by have := hb B hB; omega) this]
def nT (rd : Rd) (b j n : Nat) : Option (List DV) := bif Nat.beq n 0 then some [] else match rd b with
 | some (.blk B) => bif Nat.ble (j + n) B.n then aUE B.t n j else none
 | _ => none
theorem cC (rd : Rd) (b j n : Nat) : nT rd b j n = rdCells rd b j n := by
 unfold nT; by_cases h0 : n = 0
 · subst h0; rfl
 · rw [show Nat.beq n 0 = false from by cases h : Nat.beq n 0; rfl; exact absurd (Nat.eq_of_beq_eq_true h) h0, cond_false]
   split
   · rename_i B hB; by_cases hl : j + n <= B.n
     · rw [Nat.ble_eq_true_of_le hl, cond_true]; exact aLz hB n j hl
     · rw [show Nat.ble (j + n) B.n = false from by cases h : Nat.ble (j + n) B.n; rfl; exact absurd (Nat.le_of_ble_eq_true h) hl, cond_false]
       exact (sY n j (λ B' hB' => by rw [hB] at hB'; cases hB'; omega) (by omega)).symm
   · rename_i hn; exact (sY n j (λ B' hB' => absurd hB' (hn B')) (by omega)).symm
def aPA {β : Type} (vs : List DV) : Nat -> Tr DV -> (Tr DV -> β) -> β :=
 List.rec (motive := λ _ => Nat -> Tr DV -> (Tr DV -> β) -> β) (λ _ t k => k t) (λ v _ ih o t k => Tr.setK v (Pa.of o) t λ t => dZ (Nat.succ o) λ o => ih o t k) vs
def aKK : List DV -> Nat -> Tr DV -> Tr DV
 | [], _, t => t
 | v :: vs, o, t => aKK vs (o + 1) (Tr.set v (Pa.of o) t)
theorem aDZ {β : Type} : ∀ (vs : List DV) (o : Nat) (t : Tr DV) (k : Tr DV -> β), aPA vs o t k = k (aKK vs o t)
 | [], _, _, _ => rfl
 | v :: vs, o, t, k => by
   show (Tr.setK v (Pa.of o) t λ t => dZ (Nat.succ o) λ o => aPA vs o t k) = _
   rw [Tr.setK_eq, bA, aDZ vs]; rfl
theorem Tr.set_set {α : Type} (x y : α) : ∀ (p : Pa) (t : Tr α), Tr.set y p (Tr.set x p t) = Tr.set y p t
 | .h, .e => rfl
 | .h, .n _ _ _ => rfl
 | .l p, .e => by show Tr.n (Tr.set y p (Tr.set x p .e)) none .e = Tr.n (Tr.set y p .e) none .e; rw [Tr.set_set x y p]
 | .l p, .n l v r => by show Tr.n (Tr.set y p (Tr.set x p l)) v r = Tr.n (Tr.set y p l) v r; rw [Tr.set_set x y p]
 | .r p, .e => by show Tr.n .e none (Tr.set y p (Tr.set x p .e)) = Tr.n .e none (Tr.set y p .e); rw [Tr.set_set x y p]
 | .r p, .n l v r => by show Tr.n l v (Tr.set y p (Tr.set x p r)) = Tr.n l v (Tr.set y p r); rw [Tr.set_set x y p]
theorem H.put_put (h : H) (b : Nat) (x y : iR) : (h.put b x).put b y = h.put b y := by
 unfold H.put Tr.put; simp only [Tr.set_set]
def aAU (vs : List DV) (h : H) (b o : Nat) : Option H := match vs with
 | [] => some h
 | v :: vs => match h.get b with
   | some (.blk B) => bif (!B.ro) && Nat.ble (o + (v :: vs).length) B.n && (v :: vs).all DV.one then
       aPA (v :: vs) o B.t λ t => h.putK b (.blk { B with t := t }) some
     else none
   | _ => none
theorem aBM : ∀ (vs : List DV) (h : H) (b o : Nat) (B : Blk), h.get b = some (.blk B) -> vs ≠ [] ->
   gU vs h b o = if (!B.ro) = true /\ o + vs.length <= B.n /\ vs.all DV.one = true then some (h.put b (.blk { B with t := aKK vs o B.t })) else none
 | [], _, _, _, _, _, h => absurd rfl h
 | v :: vs, h, b, o, B, hB, _ => by
   simp only [gU, hB]; by_cases hc : ((!B.ro) && Nat.blt o B.n && v.one) = true
   · rw [hc, cond_true, Tr.setK_eq, H.putK_eq, bA]; rw [Bool.and_eq_true, Bool.and_eq_true, Nat.blt_eq] at hc; obtain ⟨⟨h1, h2⟩, h3⟩ := hc; cases vs with
     | nil =>
       rw [if_pos ⟨h1, by simp only [List.length_cons, List.length_nil]; omega, by simp [h3]⟩]; rfl
     | cons u us =>
       rw [aBM (u :: us) _ b (o + 1) { B with t := Tr.set v (Pa.of o) B.t } (by rw [H.get_put, if_pos rfl]) (by simp)]
       simp only [H.put_put]; by_cases hd : (!B.ro) = true /\ o + 1 + (u :: us).length <= B.n /\ (u :: us).all DV.one = true
       · rw [if_pos hd, if_pos ⟨h1, by have := hd.2.1; simp only [List.length_cons] at this ⊢; omega, by rw [List.all_cons, h3, hd.2.2]; rfl⟩]; rfl
       · rw [if_neg hd, if_neg]; intro hh; apply hd; refine ⟨h1, by have := hh.2.1; simp only [List.length_cons] at this ⊢; omega, ?_⟩
         have := hh.2.2; rw [List.all_cons, Bool.and_eq_true] at this; exact this.2
   · have hc' : ((!B.ro) && Nat.blt o B.n && v.one) = false := by simpa using hc
     rw [hc', cond_false, if_neg]; intro hh; apply hc; rw [Bool.and_eq_true, Bool.and_eq_true, Nat.blt_eq]; have h3 := hh.2.2; rw [List.all_cons, Bool.and_eq_true] at h3; exact ⟨⟨hh.1, by have := hh.2.1; simp only [List.length_cons] at this; omega⟩, h3.1⟩
theorem yX (vs : List DV) (h : H) (b o : Nat) : aAU vs h b o = gU vs h b o := by
 unfold aAU; split
 · rfl
 · rename_i v vs; split
   · rename_i B hB; rw [aBM (v :: vs) h b o B hB (by simp)]
     by_cases hd : (!B.ro) = true /\ o + (v :: vs).length <= B.n /\ (v :: vs).all DV.one = true
     · rw [if_pos hd, hd.1, Nat.ble_eq_true_of_le hd.2.1, hd.2.2]; simp only [Bool.and_self, cond_true, aDZ, H.putK_eq]
     · rw [if_neg hd]; have : ((!B.ro) && Nat.ble (o + (v :: vs).length) B.n && (v :: vs).all DV.one) = false := by
         rw [Bool.eq_false_iff]; intro hh; rw [Bool.and_eq_true, Bool.and_eq_true] at hh; exact hd ⟨hh.1.1, Nat.le_of_ble_eq_true hh.1.2, hh.2⟩
       rw [this, cond_false]
   · rename_i hn; simp only [gU]
def bU (n : Nat) (a x : DV) (h : H) : Option (DV × H) :=
 match a with
 | .ptr b o => bif Nat.beq x.cells.length n then (aAU x.cells h b o).map λ h => (.tup [], h) else none
 | _ => none
theorem aAV (n : Nat) (a x : DV) (h : H) : bU n a x h = dSt n a x h := by unfold bU dSt; simp only [yX]; cases a <;> rfl
def aBw (es : Nat) (rd : Rd) (x : DV) : Option (List DV) :=
 match x with
 | .nils => some []
 | .slE _ _ _ => some []
 | .slc b o n _ _ => nT rd b o (n * es)
 | .str s => bif Nat.beq es 1 then some (s.map λ b => .int .u8 (.ofNat b)) else none
 | _ => none
theorem aHS (es : Nat) (rd : Rd) (x : DV) : aBw es rd x = dO es rd x := by unfold aBw dO; simp only [cC]; cases x <;> rfl
def aNY (o len es : Nat) (B : Blk) (new : List DV) (rd : Rd) (b : Nat) : Option (Tr DV) := bif Nat.beq o 0 then aPA new (len * es) B.t some else (nT rd b o (len * es)).map λ old => Tr.ofL (old ++ new)
def cA (es bytes : Nat) (s x : DV) (h : H) : Option (DV × H) :=
 (srcLen x).bind λ n => (aBw es h.get x).bind λ new =>
 match s with
 | .nils => bif Nat.beq n 0 then some (.nils, h) else
     bif Nat.blt (n * bytes) aQ && Nat.blt n aQ then h.pushK (.blk ⟨n * es, es, false, true, Tr.ofL new⟩) λ h' => some (.slc h.size 0 n n true, h') else none
 | .slE b o o2 => bif Nat.beq n 0 then some (.slE b o o2, h) else none
 | .slc b o len cap op => dZ (len + n) λ need =>
     bif Nat.ble need cap then (aAU new h b (o + len * es)).map λ h => (.slc b o need cap op, h)
     else bif Nat.blt (need * bytes) aQ && Nat.blt need aQ then
       match h.get b with
       | some (.blk B) =>
         bif op then
           bif Nat.beq (o + cap * es) B.n && Nat.beq B.es es && (!B.ro) && Nat.ble len cap && new.all DV.one then
             (aNY o len es B new h.get b).bind λ t => dZ (need * es) λ n' => h.pushK (.blk ⟨n', es, false, false, t⟩) λ h' => h'.putK b .dead λ h'' => some (.slc h.size 0 need need true, h'')
           else none
         else
           (nT h.get b o (len * es)).bind λ old => dZ (need * es) λ n' => h.pushK (.blk ⟨n', es, false, true, Tr.ofL (old ++ new)⟩) λ h' => some (.slc h.size 0 need need true, h')
       | _ => none
     else none
 | _ => none
theorem aBx : ∀ (vs : List DV) (o : Nat) (t : Tr DV), aKK vs o t = Tr.ofF vs o t
 | [], _, _ => rfl
 | v :: vs, o, t => aBx vs (o + 1) _
theorem aSE (o len es : Nat) (B : Blk) (new : List DV) (rd : Rd) (b : Nat) : aNY o len es B new rd b = aCP o len es B new rd b := by
 unfold aNY aCP; rw [aDZ, aBx, cC]
theorem eS (es bytes : Nat) (s x : DV) (h : H) : cA es bytes s x h = fK es bytes s x h := by
 unfold cA fK; simp only [aHS, yX, cC, aSE]; cases srcLen x with
 | none => rfl
 | some n =>
   simp only [Option.bind_some]; cases dO es h.get x with
   | none => rfl
   | some new =>
     simp only [Option.bind_some]; cases s <;> rfl
def aDW (es k : Nat) (rd : Rd) (x : DV) : Option (List DV) :=
 match x with
 | .nils => some []
 | .slE _ _ _ => some []
 | .slc b o _ _ _ => nT rd b o (k * es)
 | .str s => bif Nat.beq es 1 then some ((s.take k).map λ b => .int .u8 (.ofNat b)) else none
 | _ => none
theorem aKH (es k : Nat) (rd : Rd) (x : DV) : aDW es k rd x = qH es k rd x := by unfold aDW qH; simp only [cC]; cases x <;> rfl
def lM (es : Nat) (d x : DV) (h : H) : Option (DV × H) :=
 (srcLen x).bind λ n => match d with
 | .nils => some (.int .i64 0, h)
 | .slE _ _ _ => some (.int .i64 0, h)
 | .slc b o len _ _ => dZ (bif Nat.ble n len then n else len) λ k => (aDW es k h.get x).bind λ new => (aAU new h b o).map λ h => (.int .i64 (.ofNat k), h)
 | _ => none
theorem aBN (es : Nat) (d x : DV) (h : H) : lM es d x h = aEP es d x h := by
 unfold lM aEP; simp only [aKH, yX]; cases srcLen x with
 | none => rfl
 | some n => cases d <;> rfl
def aHD (x y : DV) : Option DV := match x, y with
 | .str s, .int .u8 (.ofNat c) => bif Nat.blt c 256 then aLG (qC c s) λ n => some (.int .i64 n) else none
 | _, _ => none
def aMZ (x y : DV) : Option DV := match x, y with
 | .str s, .int .u8 (.ofNat c) => bif Nat.blt c 256 then dZ (aDj c s) λ n => some (.int .i64 (.ofNat n)) else none
 | _, _ => none
def aPr (k : Prm) : DV -> DV -> Option DV := Prm.rec (motive := λ _ => DV -> DV -> Option DV) aHD aMZ k
def aKr (kt : LfK) (z : DV) (ok : Bool) (rd : Rd) (x k : DV) : Option DV := (match x with
   | .nilm => some none
   | .mp b => match rd b with
     | some (.map es _) => aHh kt k es
     | _ => none
   | _ => none).map λ r => match r with
     | some v => bif ok then .tup [v, .bool true] else v
     | none => bif ok then .tup [z, .bool false] else z
def xS (es : Nat) (x : DV) (lo : Option DV) (hi mx : DV) : Option DV := match mx with
   | .int _ (.ofNat k) => (match x with
     | .nils => bif Nat.beq k 0 then dF 0 0 lo (some hi) λ l h => some .nils else none
     | .slc b o len cap op => bif Nat.ble k cap then dF len k lo (some hi) λ l h =>
         bif Nat.blt l k then (dZ (o + l * es) λ o => dZ (h - l) λ n => dZ (k - l) λ c => some (.slc b o n c false)) else some (.slc b o 0 0 false) else none
     | _ => none)
   | _ => none
def aX (c a b : DV) : Option DV := match c with
   | .bool t => some (Bool.rec b a t)
   | _ => none
def dT (t : EqT) (neg : Bool) (rd : Rd) (x y : DV) : Option DV := (dEq rd t x y).bind λ b => eV (bif neg then !b else b)
def aDM (neg : Bool) (s : EqS) (rd : Rd) (x y : DV) : Option DV := match x, y with
   | .agg xs, .agg ys => (rC rd s xs ys).bind λ b => eV (bif neg then !b else b)
   | _, _ => none
def kT (x : DV) : Option DV := match x with
   | .bool b => eV (!b)
   | _ => none
def aKq (x : DV) : Option DV := match x with
   | .int k n => jI k (0 - n)
   | _ => none
def fB (k : IntKind) (x : DV) : Option DV := match x with
   | .int _ n => jI k n
   | _ => none
def aHB (x : DV) : Option DV := match x with
   | .str s => some (.str s)
   | _ => none
def mO (rd : Rd) (x : DV) : Option DV := match x with
   | .nils => some (.str [])
   | .slE _ _ _ => some (.str [])
   | .slc b o len _ _ => ((nT rd b o len).bind nM).bind xQ
   | _ => none
def aG (rd : Rd) (x : DV) : Option DV := match x with
   | .ptr b o => aIg rd b o
   | _ => none
def aK (n : Nat) (rd : Rd) (x : DV) : Option DV := match x with
   | .ptr b o => (nT rd b o n).map .agg
   | _ => none
def aL (x : DV) : Option DV := match x with
   | .ptr b o => some (.ptr b o)
   | _ => none
def aF (off : Nat) (x : DV) : Option DV := match x with
   | .ptr b o => dZ (o + off) λ o => some (.ptr b o)
   | _ => none
def aPt (off n : Nat) (agg : Bool) (x : DV) : Option DV := match x with
   | .agg cs => bif agg then (bif Nat.ble (off + n) cs.length then some (.agg ((cs.drop off).take n)) else none) else cs[off]?
   | _ => none
def lO (len es : Nat) (x i : DV) : Option DV := match x with
   | .ptr b o => rB len i λ n => dZ (o + n * es) λ o => some (.ptr b o)
   | _ => none
def bR (es : Nat) (x i : DV) : Option DV := match x with
   | .slc b o len _ _ => rB len i λ n => dZ (o + n * es) λ o => some (.ptr b o)
   | _ => none
def xV (len es : Nat) (agg : Bool) (x i : DV) : Option DV := match x with
   | .agg cs => rB len i λ n => bif agg then (bif Nat.ble (n * es + es) cs.length then some (.agg ((cs.drop (n * es)).take es)) else none) else cs[n * es]?
   | _ => none
def gJ (x i : DV) : Option DV := match x with
   | .str s => rB s.length i λ n => (s[n]?).map λ b => .int .u8 (.ofNat b)
   | _ => none
def gX (x : DV) (lo hi : Option DV) : Option DV := match x with
   | .str s => dF s.length s.length lo hi λ l h => xQ ((s.take h).drop l)
   | _ => none
def dK (es : Nat) (x : DV) (lo hi : Option DV) : Option DV := match x with
   | .nils => dF 0 0 lo hi λ l h => some .nils
   | .slc b o len cap op => dF len cap lo hi λ l h =>
       bif Nat.blt l cap then (dZ (o + l * es) λ o => dZ (h - l) λ n => dZ (cap - l) λ c => some (.slc b o n c op))
       else bif op then (dZ (o + l * es) λ o2 => some (.slE b o o2)) else some (.slc b o 0 0 false)
   | .slE b o o2 => dF 0 0 lo hi λ l h => some (.slE b o o2)
   | _ => none
def aPp (n es : Nat) (x : DV) (lo hi : Option DV) : Option DV := match x with
   | .ptr b o => dF n n lo hi λ l h =>
       bif Nat.blt l n then (dZ (o + l * es) λ o => dZ (h - l) λ m => dZ (n - l) λ c => some (.slc b o m c false))
       else some (.slc b o 0 0 false)
   | _ => none
def aI (i : Nat) (x : DV) : Option DV := match x with
   | .tup vs => vs[i]?
   | _ => none
def bZ (x : DV) : Option DV := match x with
   | .str s => dZ s.length λ n => some (.int .i64 (.ofNat n))
   | _ => none
def bX (x : DV) : Option DV := match x with
   | .nils => some (.int .i64 (.ofNat 0))
   | .slc _ _ n _ _ => some (.int .i64 (.ofNat n))
   | .slE _ _ _ => some (.int .i64 (.ofNat 0))
   | _ => none
abbrev aDN (x : DV) : Option DV := aQj x
abbrev aKp (rd : Rd) (x y : DV) : Option DV := aIH rd x y
def aHC (rd : Rd) (x : DV) : Option DV := match x with
   | .nilm => some (.int .i64 (.ofNat 0))
   | .mp b => match rd b with
     | some (.map es _) => dZ es.length λ n => some (.int .i64 (.ofNat n))
     | _ => none
   | _ => none
def aDd (a b : DV) : Option DV := match a, b with
   | .int k x, .int k' y => some (.int k (bif iLt y x then y else x))
   | _, _ => none
def aBl (a b : DV) : Option DV := match a, b with
   | .int k x, .int k' y => some (.int k (bif iLt x y then y else x))
   | _, _ => none
def eI (zero : List DV) (parts : List (Nat × Nat × DV)) : Option DV := (hY zero parts).map .agg
def tT (t : Nat) (zero : DV) (ok : Bool) (x : DV) : Option DV := match x with
   | .nili => bif ok then some (.tup [zero, .bool false]) else none
   | .ifc u v => bif Nat.beq u t then some (bif ok then .tup [v, .bool true] else v) else bif ok then some (.tup [zero, .bool false]) else none
   | _ => none
section
variable {R : Type}
def eD (n es : Nat) (z : Zs) (h : H) (k : DV -> H -> Option R) : Option R := h.pushK (.blk ⟨n, es, false, true, z.tr⟩) λ h' => k (.ptr h.size 0) h'
def eC (x : DV) (h : H) (k : DV -> H -> Option R) : Option R := dZ x.cells.length λ n => h.pushK (.blk ⟨n, n, false, true, Tr.ofL x.cells⟩) λ h' => k (.ptr h.size 0) h'
def gO (n es : Nat) (zero : List DV) (parts : List (Nat × Nat × DV)) (h : H) (k : DV -> H -> Option R) : Option R :=
 (hY (gL zero n) parts).bind λ cs => h.pushK (.blk ⟨n * es, es, false, true, Tr.ofL cs⟩) λ h' => k (.slc h.size 0 n n false) h'
def tV (es bytes : Nat) (zero : DV) (l c : DV) (h : H) (k : DV -> H -> Option R) : Option R := match l, c with
   | .int _ (.ofNat l), .int _ (.ofNat c) =>
     bif Nat.ble l c && Nat.blt (bytes * c) 140737488355328 && Nat.blt c 140737488355328 then
       h.pushK (.blk ⟨c, 1, false, true, Tr.full zero 48⟩) λ h' => k (.slc h.size 0 l c false) h'
     else none
   | _, _ => none
def aPW (h : H) (k : DV -> H -> Option R) : Option R := h.pushK (.map [] 0) λ h' => k (.mp h.size) h'
def aGO (x : DV) (h : H) (k : DV -> H -> Option R) : Option R := match x with
   | .str s => dZ s.length λ n => h.pushK (.blk ⟨n, 1, false, false, Tr.ofL (s.map λ b => .int .u8 (.ofNat b))⟩) λ h' => k (.slc h.size 0 n n true) h'
   | _ => none
end
end Go.DI
namespace Go.DI
open Go.RowKit
abbrev Rg := Pa -> DV
def e2 (σ : Rg) (x : aT) : DV := aT.rec (motive := λ _ => DV) (λ p => σ p) (λ v => v) x
def fset (p : Pa) (v : DV) (σ : Rg) : Rg := λ q => Bool.rec (σ q) v (yM q p)
def reg (ρ : Tr DV) : Rg := λ p => ev ρ (.r p)
theorem aVg (ρ : Tr DV) (x : aT) : e2 (reg ρ) x = ev ρ x := by cases x <;> rfl
theorem cV (ρ : Tr DV) : e2 (reg ρ) = ev ρ := funext (aVg ρ)
theorem bBb (ρ : Tr DV) (p : Pa) (v : DV) : reg (Tr.set v p ρ) = fset p v (reg ρ) := by
 funext q
 unfold reg fset; rw [yW]; by_cases h : q = p
 · subst h; rw [if_pos rfl, wL]
 · rw [if_neg h]; cases e : yM q p with
   | true => exact absurd (jQ e) h
   | false => rfl
section
variable {R : Type}
abbrev bRZ (σ : Rg) (h : H) (k : DV -> H -> Option R) : Option R := none
abbrev bRD (q : Prm) (x y : aT) (σ : Rg) (h : H) (k : DV -> H -> Option R) : Option R := vK (aPr q (e2 σ x) (e2 σ y)) λ v => k v h
abbrev bRL (kt : LfK) (z : DV) (ok : Bool) (x y : aT) (σ : Rg) (h : H) (k : DV -> H -> Option R) : Option R := vK (aKr kt z ok h.get (e2 σ x) (e2 σ y)) λ v => k v h
abbrev bRz (es : Nat) (x : aT) (lo : Option aT) (hi mx : aT) (σ : Rg) (h : H) (k : DV -> H -> Option R) : Option R := vK (xS es (e2 σ x) (lo.map (e2 σ)) (e2 σ hi) (e2 σ mx)) λ v => k v h
abbrev bIm (c a b : aT) (σ : Rg) (h : H) (k : DV -> H -> Option R) : Option R := vK (aX (e2 σ c) (e2 σ a) (e2 σ b)) λ v => k v h
abbrev bRY (op : BinOp) (x y : aT) (σ : Rg) (h : H) (k : DV -> H -> Option R) : Option R := vK (aPu op (e2 σ x) (e2 σ y)) λ v => k v h
abbrev bRT (t : EqT) (neg : Bool) (x y : aT) (σ : Rg) (h : H) (k : DV -> H -> Option R) : Option R := vK (dT t neg h.get (e2 σ x) (e2 σ y)) λ v => k v h
abbrev bRU (neg : Bool) (s : EqS) (x y : aT) (σ : Rg) (h : H) (k : DV -> H -> Option R) : Option R := vK (aDM neg s h.get (e2 σ x) (e2 σ y)) λ v => k v h
abbrev bRF (x : aT) (σ : Rg) (h : H) (k : DV -> H -> Option R) : Option R := vK (kT (e2 σ x)) λ v => k v h
abbrev bRG (x : aT) (σ : Rg) (h : H) (k : DV -> H -> Option R) : Option R := vK (aKq (e2 σ x)) λ v => k v h
abbrev bIr (q : IntKind) (x : aT) (σ : Rg) (h : H) (k : DV -> H -> Option R) : Option R := vK (fB q (e2 σ x)) λ v => k v h
abbrev bIl (x : aT) (σ : Rg) (h : H) (k : DV -> H -> Option R) : Option R := vK (aHB (e2 σ x)) λ v => k v h
abbrev bSa (x : aT) (σ : Rg) (h : H) (k : DV -> H -> Option R) : Option R := vK (mO h.get (e2 σ x)) λ v => k v h
abbrev o_ld (x : aT) (σ : Rg) (h : H) (k : DV -> H -> Option R) : Option R := vK (aG h.get (e2 σ x)) λ v => k v h
abbrev bRM (n : Nat) (x : aT) (σ : Rg) (h : H) (k : DV -> H -> Option R) : Option R := vK (aK n h.get (e2 σ x)) λ v => k v h
abbrev aUj (x : aT) (σ : Rg) (h : H) (k : DV -> H -> Option R) : Option R := vK (aL (e2 σ x)) λ v => k v h
abbrev o_fa (off : Nat) (x : aT) (σ : Rg) (h : H) (k : DV -> H -> Option R) : Option R := vK (aF off (e2 σ x)) λ v => k v h
abbrev bRR (off n : Nat) (agg : Bool) (x : aT) (σ : Rg) (h : H) (k : DV -> H -> Option R) : Option R := vK (aPt off n agg (e2 σ x)) λ v => k v h
abbrev bRQ (len es : Nat) (x i : aT) (σ : Rg) (h : H) (k : DV -> H -> Option R) : Option R := vK (lO len es (e2 σ x) (e2 σ i)) λ v => k v h
abbrev bRP (es : Nat) (x i : aT) (σ : Rg) (h : H) (k : DV -> H -> Option R) : Option R := vK (bR es (e2 σ x) (e2 σ i)) λ v => k v h
abbrev bRO (len es : Nat) (agg : Bool) (x i : aT) (σ : Rg) (h : H) (k : DV -> H -> Option R) : Option R := vK (xV len es agg (e2 σ x) (e2 σ i)) λ v => k v h
abbrev bRN (x i : aT) (σ : Rg) (h : H) (k : DV -> H -> Option R) : Option R := vK (gJ (e2 σ x) (e2 σ i)) λ v => k v h
abbrev bRy (x : aT) (lo hi : Option aT) (σ : Rg) (h : H) (k : DV -> H -> Option R) : Option R := vK (gX (e2 σ x) (lo.map (e2 σ)) (hi.map (e2 σ))) λ v => k v h
abbrev bRA (es : Nat) (x : aT) (lo hi : Option aT) (σ : Rg) (h : H) (k : DV -> H -> Option R) : Option R := vK (dK es (e2 σ x) (lo.map (e2 σ)) (hi.map (e2 σ))) λ v => k v h
abbrev bRB (n es : Nat) (x : aT) (lo hi : Option aT) (σ : Rg) (h : H) (k : DV -> H -> Option R) : Option R := vK (aPp n es (e2 σ x) (lo.map (e2 σ)) (hi.map (e2 σ))) λ v => k v h
abbrev bRS (i : Nat) (x : aT) (σ : Rg) (h : H) (k : DV -> H -> Option R) : Option R := vK (aI i (e2 σ x)) λ v => k v h
abbrev bIn (x : aT) (σ : Rg) (h : H) (k : DV -> H -> Option R) : Option R := vK (bZ (e2 σ x)) λ v => k v h
abbrev bIp (x : aT) (σ : Rg) (h : H) (k : DV -> H -> Option R) : Option R := vK (bX (e2 σ x)) λ v => k v h
abbrev bIo (x : aT) (σ : Rg) (h : H) (k : DV -> H -> Option R) : Option R := vK (aHC h.get (e2 σ x)) λ v => k v h
abbrev bIs (x : aT) (σ : Rg) (h : H) (k : DV -> H -> Option R) : Option R := vK (aDN (e2 σ x)) λ v => k v h
abbrev bRE (x y : aT) (σ : Rg) (h : H) (k : DV -> H -> Option R) : Option R := vK (aKp h.get (e2 σ x) (e2 σ y)) λ v => k v h
abbrev o_mn (a b : aT) (σ : Rg) (h : H) (k : DV -> H -> Option R) : Option R := vK (aDd (e2 σ a) (e2 σ b)) λ v => k v h
abbrev o_mx (a b : aT) (σ : Rg) (h : H) (k : DV -> H -> Option R) : Option R := vK (aBl (e2 σ a) (e2 σ b)) λ v => k v h
abbrev bRX (zero : List DV) (parts : List (Nat × Nat × aT)) (σ : Rg) (h : H) (k : DV -> H -> Option R) : Option R := vK (eI zero (parts.map λ p => (p.1, p.2.1, e2 σ p.2.2))) λ v => k v h
abbrev bRx (t : Nat) (zero : DV) (ok : Bool) (x : aT) (σ : Rg) (h : H) (k : DV -> H -> Option R) : Option R := vK (tT t zero ok (e2 σ x)) λ v => k v h
abbrev o_mv (x : aT) (σ : Rg) (h : H) (k : DV -> H -> Option R) : Option R := k (e2 σ x) h
abbrev bRJ (t : Nat) (x : aT) (σ : Rg) (h : H) (k : DV -> H -> Option R) : Option R := k (.ifc t (e2 σ x)) h
abbrev bRK (f : Fn) (a c : List aT) (σ : Rg) (h : H) (k : DV -> H -> Option R) : Option R := k (.fn f (a.map (e2 σ)) (c.map (e2 σ))) h
abbrev bIq (n : Nat) (σ : Rg) (h : H) (k : DV -> H -> Option R) : Option R := k (.int .i64 (.ofNat n)) h
abbrev bSb (n es : Nat) (z : Zs) (σ : Rg) (h : H) (k : DV -> H -> Option R) : Option R := eD n es z h k
abbrev bRW (x : aT) (σ : Rg) (h : H) (k : DV -> H -> Option R) : Option R := eC (e2 σ x) h k
abbrev bRV (n es : Nat) (zero : List DV) (parts : List (Nat × Nat × aT)) (σ : Rg) (h : H) (k : DV -> H -> Option R) : Option R := gO n es zero (parts.map λ p => (p.1, p.2.1, e2 σ p.2.2)) h k
abbrev bRH (es bytes : Nat) (zero : DV) (l c : aT) (σ : Rg) (h : H) (k : DV -> H -> Option R) : Option R := tV es bytes zero (e2 σ l) (e2 σ c) h k
abbrev bRI  (σ : Rg) (h : H) (k : DV -> H -> Option R) : Option R := aPW h k
abbrev bRC (x : aT) (σ : Rg) (h : H) (k : DV -> H -> Option R) : Option R := aGO (e2 σ x) h k
abbrev bBt (d : EOp) : Rg -> H -> (DV -> H -> Option R) -> Option R :=
 EOp.rec (motive := λ _ => Rg -> H -> (DV -> H -> Option R) -> Option R) bRZ bRD bRL bRz o_mv bIm bRY bRT bRU bRF bRG bIr bIl bSa bRJ bRK o_ld bRM aUj o_fa bRR bRQ bRP bRO bRN bRy bRA bRB bRS bIn bIp bIo bIs bRE bIq o_mn o_mx bRX bRx bSb bRW bRV bRH bRI bRC d
end
def bFl (q : Prm) (x y : aT) (σ : Rg) (rd : Rd) : Option DV := aPr q (e2 σ x) (e2 σ y)
def bFr (kt : LfK) (z : DV) (ok : Bool) (x y : aT) (σ : Rg) (rd : Rd) : Option DV := aKr kt z ok rd (e2 σ x) (e2 σ y)
def bFi (es : Nat) (x : aT) (lo : Option aT) (hi mx : aT) (σ : Rg) (rd : Rd) : Option DV := xS es (e2 σ x) (lo.map (e2 σ)) (e2 σ hi) (e2 σ mx)
def aUG (c a b : aT) (σ : Rg) (rd : Rd) : Option DV := aX (e2 σ c) (e2 σ a) (e2 σ b)
def bFC (op : BinOp) (x y : aT) (σ : Rg) (rd : Rd) : Option DV := aPu op (e2 σ x) (e2 σ y)
def bFz (t : EqT) (neg : Bool) (x y : aT) (σ : Rg) (rd : Rd) : Option DV := dT t neg rd (e2 σ x) (e2 σ y)
def bFA (neg : Bool) (s : EqS) (x y : aT) (σ : Rg) (rd : Rd) : Option DV := aDM neg s rd (e2 σ x) (e2 σ y)
def bFn (x : aT) (σ : Rg) (rd : Rd) : Option DV := kT (e2 σ x)
def bFo (x : aT) (σ : Rg) (rd : Rd) : Option DV := aKq (e2 σ x)
def aUL (q : IntKind) (x : aT) (σ : Rg) (rd : Rd) : Option DV := fB q (e2 σ x)
def aUF (x : aT) (σ : Rg) (rd : Rd) : Option DV := aHB (e2 σ x)
def bFD (x : aT) (σ : Rg) (rd : Rd) : Option DV := mO rd (e2 σ x)
def g_ld (x : aT) (σ : Rg) (rd : Rd) : Option DV := aG rd (e2 σ x)
def bFs (n : Nat) (x : aT) (σ : Rg) (rd : Rd) : Option DV := aK n rd (e2 σ x)
def aLA (x : aT) (σ : Rg) (rd : Rd) : Option DV := aL (e2 σ x)
def g_fa (off : Nat) (x : aT) (σ : Rg) (rd : Rd) : Option DV := aF off (e2 σ x)
def bFx (off n : Nat) (agg : Bool) (x : aT) (σ : Rg) (rd : Rd) : Option DV := aPt off n agg (e2 σ x)
def bFw (len es : Nat) (x i : aT) (σ : Rg) (rd : Rd) : Option DV := lO len es (e2 σ x) (e2 σ i)
def bFv (es : Nat) (x i : aT) (σ : Rg) (rd : Rd) : Option DV := bR es (e2 σ x) (e2 σ i)
def bFu (len es : Nat) (agg : Bool) (x i : aT) (σ : Rg) (rd : Rd) : Option DV := xV len es agg (e2 σ x) (e2 σ i)
def bFt (x i : aT) (σ : Rg) (rd : Rd) : Option DV := gJ (e2 σ x) (e2 σ i)
def bFh (x : aT) (lo hi : Option aT) (σ : Rg) (rd : Rd) : Option DV := gX (e2 σ x) (lo.map (e2 σ)) (hi.map (e2 σ))
def bFj (es : Nat) (x : aT) (lo hi : Option aT) (σ : Rg) (rd : Rd) : Option DV := dK es (e2 σ x) (lo.map (e2 σ)) (hi.map (e2 σ))
def bFk (n es : Nat) (x : aT) (lo hi : Option aT) (σ : Rg) (rd : Rd) : Option DV := aPp n es (e2 σ x) (lo.map (e2 σ)) (hi.map (e2 σ))
def bFy (i : Nat) (x : aT) (σ : Rg) (rd : Rd) : Option DV := aI i (e2 σ x)
def aUH (x : aT) (σ : Rg) (rd : Rd) : Option DV := bZ (e2 σ x)
def aUJ (x : aT) (σ : Rg) (rd : Rd) : Option DV := bX (e2 σ x)
def aUI (x : aT) (σ : Rg) (rd : Rd) : Option DV := aHC rd (e2 σ x)
def aUM (x : aT) (σ : Rg) (rd : Rd) : Option DV := aDN (e2 σ x)
def bFm (x y : aT) (σ : Rg) (rd : Rd) : Option DV := aKp rd (e2 σ x) (e2 σ y)
def g_mn (a b : aT) (σ : Rg) (rd : Rd) : Option DV := aDd (e2 σ a) (e2 σ b)
def g_mx (a b : aT) (σ : Rg) (rd : Rd) : Option DV := aBl (e2 σ a) (e2 σ b)
def bFB (zero : List DV) (parts : List (Nat × Nat × aT)) (σ : Rg) (rd : Rd) : Option DV := eI zero (parts.map λ p => (p.1, p.2.1, e2 σ p.2.2))
def bFg (t : Nat) (zero : DV) (ok : Bool) (x : aT) (σ : Rg) (rd : Rd) : Option DV := tT t zero ok (e2 σ x)
def g_mv (x : aT) (σ : Rg) (rd : Rd) : Option DV := some (e2 σ x)
def bFp (t : Nat) (x : aT) (σ : Rg) (rd : Rd) : Option DV := some (.ifc t (e2 σ x))
def bFq (f : Fn) (a c : List aT) (σ : Rg) (rd : Rd) : Option DV := some (.fn f (a.map (e2 σ)) (c.map (e2 σ)))
def aUK (n : Nat) (σ : Rg) (rd : Rd) : Option DV := some (.int .i64 (.ofNat n))
def bSN (n es : Nat) (z : Zs) (σ : Rg) (rd : Rd) : Option DV := none
def bSL (x : aT) (σ : Rg) (rd : Rd) : Option DV := none
def bSK (n es : Nat) (zero : List DV) (parts : List (Nat × Nat × aT)) (σ : Rg) (rd : Rd) : Option DV := none
def bSG (es bytes : Nat) (zero : DV) (l c : aT) (σ : Rg) (rd : Rd) : Option DV := none
def bSH  (σ : Rg) (rd : Rd) : Option DV := none
def bSC (x : aT) (σ : Rg) (rd : Rd) : Option DV := none
def bSM  (σ : Rg) (rd : Rd) : Option DV := none
def eO (d : EOp) : Rg -> Rd -> Option DV :=
 EOp.rec (motive := λ _ => Rg -> Rd -> Option DV) bSM bFl bFr bFi g_mv aUG bFC bFz bFA bFn bFo aUL aUF bFD bFp bFq g_ld bFs aLA g_fa bFx bFw bFv bFu bFt bFh bFj bFk bFy aUH aUJ aUI aUM bFm aUK g_mn g_mx bFB bFg bSN bSL bSK bSG bSH bSC d
def aQa : EOp -> Bool
 | .alc _ _ _ | .box _ | .bsl _ _ _ _ | .mks _ _ _ _ _ | .mkm | .s2b _ | .bad => true
 | _ => false
theorem bBY (q : Prm) (x y : aT) (ρ : Tr DV) (rd : Rd) : dC (.prm q x y) ρ rd = (aPr q (ev ρ x) (ev ρ y)).map .val := by
 simp only [dC, aPr]; generalize ev ρ x = x'; generalize ev ρ y = y'; cases x' <;> (try (cases q <;> rfl))
 cases y' <;> (try (cases q <;> rfl))
 rename_i s kk n; cases kk <;> (try (cases q <;> rfl))
 cases n <;> (try (cases q <;> rfl))
 rename_i c; cases q
 · show (bif Nat.blt c 256 then _ else none) = (bif Nat.blt c 256 then _ else none : Option DV).map _; cases Nat.blt c 256 <;> simp only [cond_false, cond_true, oW] <;> rfl
 · show (bif Nat.blt c 256 then _ else none) = (bif Nat.blt c 256 then _ else none : Option DV).map _; cases Nat.blt c 256 <;> simp only [cond_false, cond_true, bA] <;> rfl
theorem bCe (kt : LfK) (z : DV) (ok : Bool) (x y : aT) (ρ : Tr DV) (rd : Rd) : dC (.lkp kt z ok x y) ρ rd = (aKr kt z ok rd (ev ρ x) (ev ρ y)).map .val := by
 simp only [dC, aKr, Option.map_map]
 congr 1; funext r; cases r <;> rfl
theorem bBU (es : Nat) (x : aT) (lo : Option aT) (hi mx : aT) (ρ : Tr DV) (rd : Rd) : dC (.slM es x lo hi mx) ρ rd = (xS es (ev ρ x) (lo.map (ev ρ)) (ev ρ hi) (ev ρ mx)).map .val := by
 simp only [dC, xS]; generalize ev ρ x = x'; generalize ev ρ hi = hi'; generalize ev ρ mx = mx'; cases mx' <;> try rfl
 rename_i k n; cases n <;> try rfl
 rename_i n; cases x' <;> try rfl
 · show (bif Nat.beq n 0 then _ else none) = (bif Nat.beq n 0 then _ else none : Option DV).map _; cases Nat.beq n 0 <;> rfl
 · rename_i a b c d e; show (bif Nat.ble n d then _ else none) = (bif Nat.ble n d then _ else none : Option DV).map _; cases Nat.ble n d <;> rfl
theorem aUY (c a b : aT) (ρ : Tr DV) (rd : Rd) : dC (.pick c a b) ρ rd = (aX (ev ρ c) (ev ρ a) (ev ρ b)).map .val := by
 simp only [dC, aX]; generalize ev ρ c = c'; generalize ev ρ a = a'; generalize ev ρ b = b'; cases c' <;> try rfl
 rename_i t; cases t <;> rfl
theorem bCp (op : BinOp) (x y : aT) (ρ : Tr DV) (rd : Rd) : dC (.bin op x y) ρ rd = (aPu op (ev ρ x) (ev ρ y)).map .val := by
 rw [aTs]; rfl
theorem bCm (t : EqT) (neg : Bool) (x y : aT) (ρ : Tr DV) (rd : Rd) : dC (.eqv t neg x y) ρ rd = (dT t neg rd (ev ρ x) (ev ρ y)).map .val := by
 rfl
theorem bCn (neg : Bool) (s : EqS) (x y : aT) (ρ : Tr DV) (rd : Rd) : dC (.eqs neg s x y) ρ rd = (aDM neg s rd (ev ρ x) (ev ρ y)).map .val := by
 simp only [dC, aDM]; generalize ev ρ x = x'; generalize ev ρ y = y'; cases x' <;> cases y' <;> rfl
theorem bCa (x : aT) (ρ : Tr DV) (rd : Rd) : dC (.not x) ρ rd = (kT (ev ρ x)).map .val := by
 simp only [dC, kT, cH, cC]; generalize ev ρ x = x'; cases x' <;> rfl
theorem bCb (x : aT) (ρ : Tr DV) (rd : Rd) : dC (.neg x) ρ rd = (aKq (ev ρ x)).map .val := by
 simp only [dC, aKq, cH, cC]; generalize ev ρ x = x'; cases x' <;> rfl
theorem aVd (q : IntKind) (x : aT) (ρ : Tr DV) (rd : Rd) : dC (.conv q x) ρ rd = (fB q (ev ρ x)).map .val := by
 simp only [dC, fB, cH, cC]; generalize ev ρ x = x'; cases x' <;> rfl
theorem aUX (x : aT) (ρ : Tr DV) (rd : Rd) : dC (.same x) ρ rd = (aHB (ev ρ x)).map .val := by
 simp only [dC, aHB, cH, cC]; generalize ev ρ x = x'; cases x' <;> rfl
theorem bCq (x : aT) (ρ : Tr DV) (rd : Rd) : dC (.b2s x) ρ rd = (mO rd (ev ρ x)).map .val := by
 simp only [dC, mO, cH, cC]; generalize ev ρ x = x'; cases x' <;> rfl
theorem bIN (x : aT) (ρ : Tr DV) (rd : Rd) : dC (.ld x) ρ rd = (aG rd (ev ρ x)).map .val := by
 simp only [dC, aG, cH, cC]; generalize ev ρ x = x'; cases x' <;> rfl
theorem bCf (n : Nat) (x : aT) (ρ : Tr DV) (rd : Rd) : dC (.ldN n x) ρ rd = (aK n rd (ev ρ x)).map .val := by
 simp only [dC, aK, cH, cC]; generalize ev ρ x = x'; cases x' <;> rfl
theorem aOl (x : aT) (ρ : Tr DV) (rd : Rd) : dC (.nilchk x) ρ rd = (aL (ev ρ x)).map .val := by
 simp only [dC, aL, cH, cC]; generalize ev ρ x = x'; cases x' <;> rfl
theorem bIO (off : Nat) (x : aT) (ρ : Tr DV) (rd : Rd) : dC (.fa off x) ρ rd = (aF off (ev ρ x)).map .val := by
 simp only [dC, aF, bA]; generalize ev ρ x = x'; cases x' <;> rfl
theorem bCk (off n : Nat) (agg : Bool) (x : aT) (ρ : Tr DV) (rd : Rd) : dC (.fld off n agg x) ρ rd = (aPt off n agg (ev ρ x)).map .val := by
 simp only [dC, aPt]; generalize ev ρ x = x'; cases x' <;> try rfl
 rename_i cs; cases agg <;> try rfl
 show (bif Nat.ble (off + n) cs.length then _ else none) = (bif Nat.ble (off + n) cs.length then _ else none : Option DV).map _; cases Nat.ble (off + n) cs.length <;> rfl
theorem bCj (len es : Nat) (x i : aT) (ρ : Tr DV) (rd : Rd) : dC (.iaA len es x i) ρ rd = (lO len es (ev ρ x) (ev ρ i)).map .val := by
 simp only [dC, lO, cH, cC]; generalize ev ρ x = x'; generalize ev ρ i = i'; cases x' <;> rfl
theorem bCi (es : Nat) (x i : aT) (ρ : Tr DV) (rd : Rd) : dC (.iaS es x i) ρ rd = (bR es (ev ρ x) (ev ρ i)).map .val := by
 simp only [dC, bR, cH, cC]; generalize ev ρ x = x'; generalize ev ρ i = i'; cases x' <;> rfl
theorem bCh (len es : Nat) (agg : Bool) (x i : aT) (ρ : Tr DV) (rd : Rd) : dC (.ixA len es agg x i) ρ rd = (xV len es agg (ev ρ x) (ev ρ i)).map .val := by
 simp only [dC, xV, cH, cC]; generalize ev ρ x = x'; generalize ev ρ i = i'; cases x' <;> rfl
theorem bCg (x i : aT) (ρ : Tr DV) (rd : Rd) : dC (.ixS x i) ρ rd = (gJ (ev ρ x) (ev ρ i)).map .val := by
 simp only [dC, gJ, cH, cC]; generalize ev ρ x = x'; generalize ev ρ i = i'; cases x' <;> rfl
theorem bBT (x : aT) (lo hi : Option aT) (ρ : Tr DV) (rd : Rd) : dC (.slS x lo hi) ρ rd = (gX (ev ρ x) (lo.map (ev ρ)) (hi.map (ev ρ))).map .val := by
 simp only [dC, gX, cH, cC]; generalize ev ρ x = x'; cases x' <;> rfl
theorem bBV (es : Nat) (x : aT) (lo hi : Option aT) (ρ : Tr DV) (rd : Rd) : dC (.slL es x lo hi) ρ rd = (dK es (ev ρ x) (lo.map (ev ρ)) (hi.map (ev ρ))).map .val := by
 simp only [dC, dK, cH, cC]; generalize ev ρ x = x'; cases x' <;> rfl
theorem bBW (n es : Nat) (x : aT) (lo hi : Option aT) (ρ : Tr DV) (rd : Rd) : dC (.slA n es x lo hi) ρ rd = (aPp n es (ev ρ x) (lo.map (ev ρ)) (hi.map (ev ρ))).map .val := by
 simp only [dC, aPp, cH, cC]; generalize ev ρ x = x'; cases x' <;> rfl
theorem bCl (i : Nat) (x : aT) (ρ : Tr DV) (rd : Rd) : dC (.ext i x) ρ rd = (aI i (ev ρ x)).map .val := by
 simp only [dC, aI, cH, cC]; generalize ev ρ x = x'; cases x' <;> rfl
theorem aUZ (x : aT) (ρ : Tr DV) (rd : Rd) : dC (.lenS x) ρ rd = (bZ (ev ρ x)).map .val := by
 simp only [dC, bZ, bA]; generalize ev ρ x = x'; cases x' <;> rfl
theorem aVb (x : aT) (ρ : Tr DV) (rd : Rd) : dC (.lenL x) ρ rd = (bX (ev ρ x)).map .val := by
 simp only [dC, bX, cH, cC]; generalize ev ρ x = x'; cases x' <;> rfl
theorem aVa (x : aT) (ρ : Tr DV) (rd : Rd) : dC (.lenM x) ρ rd = (aHC rd (ev ρ x)).map .val := by
 simp only [dC, aHC, bA]; generalize ev ρ x = x'; cases x' <;> try rfl
 rename_i b; simp only []; cases rd b with
 | none => rfl
 | some o => cases o <;> rfl
theorem aVe (x : aT) (ρ : Tr DV) (rd : Rd) : dC (.capL x) ρ rd = (aDN (ev ρ x)).map .val := by
 rfl
theorem bBZ (x y : aT) (ρ : Tr DV) (rd : Rd) : dC (.ovl x y) ρ rd = (aKp rd (ev ρ x) (ev ρ y)).map .val := by
 rfl
theorem bIM (a b : aT) (ρ : Tr DV) (rd : Rd) : dC (.mn a b) ρ rd = (aDd (ev ρ a) (ev ρ b)).map .val := by
 simp only [dC, aDd]; generalize ev ρ a = a'; generalize ev ρ b = b'; cases a' <;> cases b' <;> rfl
theorem bIK (a b : aT) (ρ : Tr DV) (rd : Rd) : dC (.mx a b) ρ rd = (aBl (ev ρ a) (ev ρ b)).map .val := by
 simp only [dC, aBl]; generalize ev ρ a = a'; generalize ev ρ b = b'; cases a' <;> cases b' <;> rfl
theorem bCo (zero : List DV) (parts : List (Nat × Nat × aT)) (ρ : Tr DV) (rd : Rd) : dC (.bld zero parts) ρ rd = (eI zero (parts.map λ p => (p.1, p.2.1, ev ρ p.2.2))).map .val := by
 rfl
theorem bBS (t : Nat) (zero : DV) (ok : Bool) (x : aT) (ρ : Tr DV) (rd : Rd) : dC (.tas t zero ok x) ρ rd = (tT t zero ok (ev ρ x)).map .val := by
 simp only [dC, tT]; generalize ev ρ x = x'; cases x' <;> try rfl
 · cases ok <;> rfl
 · rename_i u v; simp only []; cases Nat.beq u t <;> cases ok <;> rfl
theorem bIL (x : aT) (ρ : Tr DV) (rd : Rd) : dC (.mv x) ρ rd = (some (ev ρ x) : Option DV).map .val := rfl
theorem bCc (t : Nat) (x : aT) (ρ : Tr DV) (rd : Rd) : dC (.mkI t x) ρ rd = (some (.ifc t (ev ρ x)) : Option DV).map .val := rfl
theorem bCd (f : Fn) (a c : List aT) (ρ : Tr DV) (rd : Rd) : dC (.mkF f a c) ρ rd = (some (.fn f (a.map (ev ρ)) (c.map (ev ρ))) : Option DV).map .val := rfl
theorem aVc (n : Nat) (ρ : Tr DV) (rd : Rd) : dC (.lenA n) ρ rd = (some (.int .i64 (.ofNat n)) : Option DV).map .val := rfl
theorem aHd {d : EOp} (hd : aQa d = false) (ρ : Tr DV) (rd : Rd) : dC d ρ rd = (eO d (reg ρ) rd).map .val := by
 cases d
 · cases hd
 · rw [bBY]; simp only [eO, bFl, cV]
 · rw [bCe]; simp only [eO, bFr, cV]
 · rw [bBU]; simp only [eO, bFi, cV]
 · rw [bIL]; simp only [eO, g_mv, cV]
 · rw [aUY]; simp only [eO, aUG, cV]
 · rw [bCp]; simp only [eO, bFC, cV]
 · rw [bCm]; simp only [eO, bFz, cV]
 · rw [bCn]; simp only [eO, bFA, cV]
 · rw [bCa]; simp only [eO, bFn, cV]
 · rw [bCb]; simp only [eO, bFo, cV]
 · rw [aVd]; simp only [eO, aUL, cV]
 · rw [aUX]; simp only [eO, aUF, cV]
 · rw [bCq]; simp only [eO, bFD, cV]
 · rw [bCc]; simp only [eO, bFp, cV]
 · rw [bCd]; simp only [eO, bFq, cV]
 · rw [bIN]; simp only [eO, g_ld, cV]
 · rw [bCf]; simp only [eO, bFs, cV]
 · rw [aOl]; simp only [eO, aLA, cV]
 · rw [bIO]; simp only [eO, g_fa, cV]
 · rw [bCk]; simp only [eO, bFx, cV]
 · rw [bCj]; simp only [eO, bFw, cV]
 · rw [bCi]; simp only [eO, bFv, cV]
 · rw [bCh]; simp only [eO, bFu, cV]
 · rw [bCg]; simp only [eO, bFt, cV]
 · rw [bBT]; simp only [eO, bFh, cV]
 · rw [bBV]; simp only [eO, bFj, cV]
 · rw [bBW]; simp only [eO, bFk, cV]
 · rw [bCl]; simp only [eO, bFy, cV]
 · rw [aUZ]; simp only [eO, aUH, cV]
 · rw [aVb]; simp only [eO, aUJ, cV]
 · rw [aVa]; simp only [eO, aUI, cV]
 · rw [aVe]; simp only [eO, aUM, cV]
 · rw [bBZ]; simp only [eO, bFm, cV]
 · rw [aVc]; simp only [eO, aUK, cV]
 · rw [bIM]; simp only [eO, g_mn, cV]
 · rw [bIK]; simp only [eO, g_mx, cV]
 · rw [bCo]; simp only [eO, bFB, cV]
 · rw [bBS]; simp only [eO, bFg, cV]
 · cases hd
 · cases hd
 · cases hd
 · cases hd
 · cases hd
 · cases hd
section
variable {R : Type}
theorem aUh {d : EOp} (hd : aQa d = false) (σ : Rg) (h : H) (k : DV -> H -> Option R) : bBt d σ h k = vK (eO d σ h.get) λ v => k v h := by
 cases d <;> first | (cases hd; done) | rfl
theorem bBs (E : bO) (d : EOp) (ρ : Tr DV) (h : H) (k : DV -> H -> Option R) : bBt d (reg ρ) h k = (odo E (.e d) ρ h).bind λ x => k x.1 x.2 := by
 cases hd : aQa d with
 | false =>
   rw [aUh hd]; simp only [odo, aDw]; rw [aHd hd]; cases eO d (reg ρ) h.get <;> rfl
 | true =>
   simp only [odo, aDw]; cases d <;> first | (cases hd; done) | skip
   · rfl
   · rename_i n es z; simp only [dC, H.pushK_eq, Option.bind_some]; show eD n es z h k = _; simp only [eD, H.pushK_eq]
   · rename_i x; simp only [dC, H.pushK_eq, bA, Option.bind_some]; show eC (e2 (reg ρ) x) h k = _; simp only [eC, H.pushK_eq, bA, cV]
   · rename_i n es zero parts; show gO n es zero (parts.map λ p => (p.1, p.2.1, e2 (reg ρ) p.2.2)) h k = _
     simp only [dC, gO, cV]; cases hY (gL zero n) (parts.map λ p => (p.1, p.2.1, ev ρ p.2.2)) with
     | none => rfl
     | some cs => simp only [Option.bind_some, Option.map_some, H.pushK_eq]
   · rename_i es bytes zero l c; show tV es bytes zero (e2 (reg ρ) l) (e2 (reg ρ) c) h k = _; simp only [dC, tV, cV]; generalize ev ρ l = l'; generalize ev ρ c = c'; cases l' <;> try rfl
     rename_i k1 n1; cases n1 <;> try rfl
     rename_i n1; cases c' <;> try rfl
     rename_i k2 n2; cases n2 <;> try rfl
     rename_i n2; simp only []; cases (Nat.ble n1 n2 && Nat.blt (bytes * n2) 140737488355328 && Nat.blt n2 140737488355328) with
     | false => rfl
     | true => simp only [cond_true, H.pushK_eq, Option.bind_some]
   · simp only [dC, H.pushK_eq, Option.bind_some]; show aPW h k = _; simp only [aPW, H.pushK_eq]
   · rename_i x; show aGO (e2 (reg ρ) x) h k = _; simp only [dC, aGO, cV]; generalize ev ρ x = x'; cases x' <;> try rfl
     simp only [bA, H.pushK_eq, Option.bind_some]
end
end Go.DI
namespace Go.DI
open Go.RowKit
def oN (E : bO) (f : DV) (args : List DV) (h : H) : Option (DV × H) := match f with
 | .fn (.func g) first captured => aD E g (first ++ args ++ captured) h
 | _ => none
def vJ (E : bO) (tbl : List (Nat × Nat)) (x : DV) (args : List DV) (h : H) : Option (DV × H) := match x with
 | .ifc t v => match look t tbl with
   | some f => aD E f (v :: args) h
   | none => none
 | _ => none
def aAH (dst : Option Pa) (v : DV) (σ : Rg) : Rg := Option.rec (motive := λ _ => Rg) σ (λ p => fset p v σ) dst
section
variable {R : Type}
def odoW (d : WOp) : Rg -> H -> (DV -> H -> Option R) -> Option R :=
 WOp.rec (motive := λ _ => Rg -> H -> (DV -> H -> Option R) -> Option R)
   (λ n a x σ h k => wK (bU n (e2 σ a) (e2 σ x) h) k)
   (λ es bytes x y σ h k => wK (cA es bytes (e2 σ x) (e2 σ y) h) k)
   (λ es x y σ h k => wK (lM es (e2 σ x) (e2 σ y) h) k)
   (λ kt x q y σ h k => wK (aSO kt (e2 σ x) (e2 σ q) (e2 σ y) h) k)
   (λ zs x σ h k => wK (vG zs (e2 σ x) h) k)
   (λ x σ h k => wK (aAW (e2 σ x) h) k)
   (λ es bytes zs x y σ h k => wK (aLX es bytes zs (e2 σ x) (e2 σ y) h) k) d
def odoC (E : bO) (d : COp) : Rg -> H -> (DV -> H -> Option R) -> Option R :=
 COp.rec (motive := λ _ => Rg -> H -> (DV -> H -> Option R) -> Option R)
   (λ f args σ h k => wK (aD E f (args.map (e2 σ)) h) k)
   (λ f args σ h k => wK (oN E (e2 σ f) (args.map (e2 σ)) h) k)
   (λ tbl x args σ h k => wK (vJ E tbl (e2 σ x) (args.map (e2 σ)) h) k) d
def aUi (E : bO) (d : DOp) : Rg -> H -> (DV -> H -> Option R) -> Option R :=
 DOp.rec (motive := λ _ => Rg -> H -> (DV -> H -> Option R) -> Option R) bBt odoW (odoC E) d
def bE (c : DV) (t : Bool) (op : (DV -> H -> Option R) -> Option R) (h : H) (k : DV -> H -> Option R) : Option R := gK c t (op k) (k (.tup []) h)
def aOk (E : bO) (g : DG) (σ : Rg) (h : H) (k : Rg -> H -> Option R) : Option R :=
 Option.rec (motive := λ _ => Option R) (aUi E g.op σ h λ v h => k (aAH g.dst v σ) h)
   (λ x => bE (σ x.1) x.2 (λ kk => aUi E g.op σ h kk) h λ v h => k (aAH g.dst v σ) h) g.guard
def aIv (E : bO) (l : List DG) : Rg -> H -> (Rg -> H -> Option R) -> Option R :=
 List.rec (motive := λ _ => Rg -> H -> (Rg -> H -> Option R) -> Option R) (λ σ h k => k σ h) (λ g _ ih σ h k => aOk E g σ h λ σ h => ih σ h k) l
def gB (c : DV) (t : Bool) (x : Bool) : Bool := match c with
 | .bool c => Bool.rec (Bool.rec x true t) (Bool.rec true x t) c
 | _ => true
def bBd (d : DOp) (dst : Option Pa) (σ : Rg) (h : H) : Bool :=
 DOp.rec (motive := λ _ => Bool) (λ e => Option.rec (motive := λ _ => Bool) false (λ p => rcK (eO e σ h.get) (σ p)) dst) (λ _ => false) (λ _ => false) d
def oZ (g : DG) (σ : Rg) (h : H) : Bool :=
 Option.rec (motive := λ _ => Bool) (bBd g.op g.dst σ h) (λ x => gB (σ x.1) x.2 (bBd g.op g.dst σ h)) g.guard
def rK (b : Bool) (x : Option R) : Option R := Bool.rec none x b
def reK (pre : List DR) (σ : Rg) (h : H) (x : Option R) (l : Ln) : Option R :=
 List.rec (motive := λ _ => Option R) x (λ q _ ih => rK (Option.rec (motive := λ _ => Bool) false (λ g => oZ g σ h) (aAJ q pre)) ih) l
def aOj (E : bO) (l : List DR) : List DR -> Rg -> H -> (Rg -> H -> Option R) -> Option R :=
 List.rec (motive := λ _ => List DR -> Rg -> H -> (Rg -> H -> Option R) -> Option R) (λ _ σ h k => k σ h)
   (λ x _ ih pre σ h k => aOk E x.g σ h λ σ h => reK pre σ h (ih (x :: pre) σ h k) x.re) l
abbrev gS (R : Type) := DX -> Rg -> H -> Option R
def aBt (k : Rg -> H -> Option R) (K : gS R) : gS R := λ x σ h =>
 DX.rec (motive := λ _ => Option R) (k σ h) (λ id => K (.exit id) σ h) (K .ret σ h) x
def aQp (id : Nat) (K : gS R) : gS R := λ x σ h =>
 DX.rec (motive := λ _ => Option R) (K .normal σ h) (λ i => Bool.rec (K (.exit i) σ h) (K .normal σ h) (Nat.beq i id)) (K .ret σ h) x
def aPB (K : gS R) : gS R := λ x σ h =>
 DX.rec (motive := λ _ => Option R) (K .normal σ h) (λ i => Bool.rec none (K (.exit i) σ h) (Nat.blt i 4294967296)) (K .ret σ h) x
def aBG (g : Nat) (k : Rg -> H -> Option R) (K : gS R) : gS R := λ x σ h =>
 DX.rec (motive := λ _ => Option R) (K .normal σ h) (λ i => Bool.rec (Bool.rec none (K (.exit i) σ h) (Nat.blt i 4294967296)) (k σ h) (Nat.beq i g)) (K .ret σ h) x
def yS (body : Rg -> H -> gS R -> Option R) (g : Nat) (K : gS R) (n : Nat) : Rg -> H -> Option R :=
 Nat.rec (motive := λ _ => Rg -> H -> Option R) (λ _ _ => none) (λ _ ih σ h => body σ h (aBG g ih K)) n
def uX (body : Rg -> H -> gS R -> Option R) (K : gS R) (n : Nat) : Rg -> H -> Option R :=
 Nat.rec (motive := λ _ => Rg -> H -> Option R) (λ _ _ => none) (λ _ ih σ h => body σ h (aBt ih K)) n
def kF (E : bO) (c : DC) : Rg -> H -> gS R -> Option R :=
 DC.rec (motive := λ _ => Rg -> H -> gS R -> Option R)
   (λ σ h K => K .normal σ h)
   (λ l σ h K => aIv E l σ h λ σ h => K .normal σ h)
   (λ _ _ ia ib σ h K => ia σ h (aBt (λ σ h => ib σ h K) K))
   (λ c _ _ ia ib σ h K => bK (e2 σ c) (ia σ h K) (ib σ h K))
   (λ id _ ia σ h K => ia σ h (aQp id K))
   (λ _ ia σ h K => uX ia K aR σ h)
   (λ id σ h K => K (.exit id) σ h)
   (λ σ h K => K .ret σ h)
   (λ _ ia σ h K => ia σ h (aPB K))
   (λ l σ h K => aOj E l [] σ h λ σ h => K .normal σ h)
   (λ _ _ _ => none)
   (λ g _ _ ia ir σ h K => ia σ h (aBG g (yS ir g K aR) K)) c
end
def rv2 (σ : Rg) (h : H) (r : RV) (k : DV -> Option (DV × H)) : Option (DV × H) :=
 RV.rec (motive := λ _ => Option (DV × H)) (λ p => k (σ p)) (λ p => vK (aG h.get (σ p)) k) (λ p n => vK (aK n h.get (σ p)) k) r
def aTL (σ : Rg) (h : H) (l : List RV) : (List DV -> Option (DV × H)) -> Option (DV × H) :=
 List.rec (motive := λ _ => (List DV -> Option (DV × H)) -> Option (DV × H)) (λ k => k []) (λ r _ ih k => rv2 σ h r λ v => ih λ vs => k (v :: vs)) l
def aPJ (res : List RV) : gS (DV × H) := λ x σ h =>
 DX.rec (motive := λ _ => Option (DV × H)) (aTL σ h res λ vs => some (rM vs, h)) (λ _ => none) (aTL σ h res λ vs => some (rM vs, h)) x
def aNs (E : bO) (d : DF) : cE := λ args h => Bool.rec none (kF E d.body (reg (Tr.ofL args)) h (aPJ d.res)) (Nat.beq args.length d.np)
section
variable {R : Type} {E : bO} {ρ : Tr DV}
theorem aPQ (d : DOp) (ρ : Tr DV) (h : H) (k : DV -> H -> Option R) : aUi E d (reg ρ) h k = (odo E d ρ h).bind λ x => k x.1 x.2 := by
 cases d with
 | e d => exact bBs E d ρ h k
 | w d =>
   rw [<- bEK]; cases d <;> (show wK _ k = wK _ k; simp only [odo, wdo, cV, aAV, eS, aBN])
 | c d =>
   rw [<- bEK]; cases d with
   | f f args => show wK (aD E f (args.map (e2 (reg ρ))) h) k = wK (aD E f (args.map (ev ρ)) h) k; rw [cV]
   | v f args => show wK (oN E (e2 (reg ρ) f) (args.map (e2 (reg ρ))) h) k = wK (oN E (ev ρ f) (args.map (ev ρ)) h) k; rw [cV]
   | m tbl x args => show wK (vJ E tbl (e2 (reg ρ) x) (args.map (e2 (reg ρ))) h) k = wK (vJ E tbl (ev ρ x) (args.map (ev ρ)) h) k; rw [cV]
theorem aTT (dst : Option Pa) (v : DV) (ρ : Tr DV) : reg (sO dst v ρ) = aAH dst v (reg ρ) := by
 cases dst with
 | none => rfl
 | some p => exact bBb ρ p v
theorem bSO (p : Pa) (t : Bool) (a b : Option R) : gK (reg ρ p) t a b = bif eY ρ (some (p, t)) then a else b := by
 show gK (ev ρ (.r p)) t a b = _; unfold eY; simp only []; generalize ev ρ (.r p) = x; cases x <;> try rfl
 rename_i c; cases c <;> cases t <;> rfl
theorem bSQ (p : Pa) (t : Bool) (x : Bool) : gB (reg ρ p) t x = bif eY ρ (some (p, t)) then x else true := by
 show gB (ev ρ (.r p)) t x = _; unfold eY; simp only []; generalize ev ρ (.r p) = y; cases y <;> try rfl
 rename_i c; cases c <;> cases t <;> rfl
theorem aHb (g : DG) (h : H) (k : Tr DV -> H -> Option R) (k2 : Rg -> H -> Option R) (hk : ∀ ρ h, k ρ h = k2 (reg ρ) h) : uZ E g ρ h k = aOk E g (reg ρ) h k2 := by
 obtain ⟨dst, guard, op⟩ := g; unfold uZ; simp only [qI, hk, aTT]; cases guard with
 | none =>
   show (odo E op ρ h).bind (λ x => k2 (aAH dst x.1 (reg ρ)) x.2) = aUi E op (reg ρ) h λ v h => k2 (aAH dst v (reg ρ)) h
   rw [aPQ]
 | some x =>
   obtain ⟨p, t⟩ := x; show _ = gK (reg ρ p) t (aUi E op (reg ρ) h λ v h => k2 (aAH dst v (reg ρ)) h) (k2 (aAH dst (.tup []) (reg ρ)) h)
   rw [bSO, aPQ]
theorem aEK : ∀ (l : List DG) (ρ : Tr DV) (h : H) (k : Tr DV -> H -> Option R) (k2 : Rg -> H -> Option R), (∀ ρ h, k ρ h = k2 (reg ρ) h) -> aIw E l ρ h k = aIv E l (reg ρ) h k2
 | [], ρ, h, k, k2, hk => hk ρ h
 | g :: l, ρ, h, k, k2, hk => aHb g h _ (λ σ h => aIv E l σ h k2) λ ρ h => aEK l ρ h k k2 hk
theorem bBc (g : DG) (h : H) : aAA g ρ h = oZ g (reg ρ) h := by
 obtain ⟨dst, guard, op⟩ := g; have key : (match op, dst with
     | .e d, some p => match dC d ρ h.get with
       | some (.val v) => qD v (ev ρ (.r p))
       | _ => false
     | _, _ => false) = bBd op dst (reg ρ) h := by
   cases op with
   | w d => rfl
   | c d => rfl
   | e d =>
     cases dst with
     | none => rfl
     | some p =>
       show _ = rcK (eO d (reg ρ) h.get) (reg ρ p); simp only []; cases hd : aQa d with
       | false =>
         rw [aHd hd]; cases eO d (reg ρ) h.get <;> rfl
       | true =>
         have e1 : eO d (reg ρ) h.get = none := by cases d <;> first | (cases hd; done) | rfl
         rw [e1]; show _ = false; split
         · rename_i v hv
           exfalso
           cases d <;> first | (cases hd; done) | skip
           · cases hv
           · cases hv
           · simp only [dC, bA] at hv; cases hv
           · rename_i a b c d; simp only [dC] at hv; cases hq : hY (gL c a) (d.map λ p => (p.1, p.2.1, ev ρ p.2.2)) with
             | none => rw [hq] at hv; cases hv
             | some cs => rw [hq] at hv; cases hv
           · simp only [dC] at hv; split at hv
             · obtain ⟨_, hv⟩ := bG hv; cases hv
             · cases hv
           · cases hv
           · simp only [dC, bA] at hv; split at hv <;> cases hv
         · rfl
 unfold aAA oZ; cases guard with
 | none => exact key
 | some x =>
   obtain ⟨p, t⟩ := x; show _ = gB (reg ρ p) t (bBd op dst (reg ρ) h); rw [bSQ, <- key]
   rfl
theorem aTX (pre : List DR) (h : H) (x : Option R) : ∀ l : Ln, (bif l.all (nH pre ρ h) then x else none) = reK pre (reg ρ) h x l
 | [] => rfl
 | q :: l => by
   show _ = rK (Option.rec (motive := λ _ => Bool) false (λ g => oZ g (reg ρ) h) (aAJ q pre)) (reK pre (reg ρ) h x l)
   rw [<- aTX pre h x l]; have e : nH pre ρ h q = Option.rec (motive := λ _ => Bool) false (λ g => oZ g (reg ρ) h) (aAJ q pre) := by
     unfold nH; cases aAJ q pre with
     | none => rfl
     | some g => exact bBc g h
   rw [<- e, List.all_cons]; cases nH pre ρ h q <;> rfl
theorem aHa : ∀ (l pre : List DR) (ρ : Tr DV) (h : H) (k : Tr DV -> H -> Option R) (k2 : Rg -> H -> Option R), (∀ ρ h, k ρ h = k2 (reg ρ) h) -> tX E l pre ρ h k = aOj E l pre (reg ρ) h k2
 | [], pre, ρ, h, k, k2, hk => hk ρ h
 | x :: l, pre, ρ, h, k, k2, hk => by
   refine aHb x.g h (λ ρ h => bif x.re.all (nH pre ρ h) then tX E l (x :: pre) ρ h k else none) (λ σ h => reK pre σ h (aOj E l (x :: pre) σ h k2) x.re) λ ρ h => ?_
   rw [<- aHa l (x :: pre) ρ h k k2 hk]; exact aTX pre h _ x.re
theorem aUV : ∀ (d : DC) (ρ : Tr DV) (h : H) (K : KT R) (K2 : gS R), (∀ x ρ h, K x ρ h = K2 x (reg ρ) h) -> vA E d ρ h K = kF E d (reg ρ) h K2 := by
 intro d
 induction d with
 | skip => intro ρ h K K2 hk; exact hk .normal ρ h
 | reg l => intro ρ h K K2 hk; exact aEK l ρ h _ _ λ ρ h => hk .normal ρ h
 | seq a b iha ihb =>
   intro ρ h K K2 hk; refine iha ρ h _ (aBt (λ σ h => kF E b σ h K2) K2) λ x ρ h => ?_
   cases x with
   | normal => exact ihb ρ h K K2 hk
   | exit i => exact hk (.exit i) ρ h
   | ret => exact hk .ret ρ h
 | cond c a b iha ihb =>
   intro ρ h K K2 hk; show aDH c a b (vA E a) (vA E b) ρ h K = bK (e2 (DI.reg ρ) c) (kF E a (DI.reg ρ) h K2) (kF E b (DI.reg ρ) h K2); rw [<- iha ρ h K K2 hk, <- ihb ρ h K K2 hk, aVg]; unfold aDH bK; cases ev ρ c <;> try rfl
   rename_i t; cases t <;> rfl
 | block id a iha =>
   intro ρ h K K2 hk; refine iha ρ h _ (aQp id K2) λ x ρ h => ?_
   cases x with
   | normal => exact hk .normal ρ h
   | exit i =>
     show (bif Nat.beq i id then K .normal ρ h else K (.exit i) ρ h) = Bool.rec (K2 (.exit i) (DI.reg ρ) h) (K2 .normal (DI.reg ρ) h) (Nat.beq i id); cases Nat.beq i id
     · exact hk (.exit i) ρ h
     · exact hk .normal ρ h
   | ret => exact hk .ret ρ h
 | loop a iha =>
   intro ρ h K K2 hk; show aPZ (vA E a) K aR ρ h = uX (kF E a) K2 aR (DI.reg ρ) h; generalize aR = n
   induction n generalizing ρ h with
   | zero => rfl
   | succ n ih =>
     refine iha ρ h _ (aBt (uX (kF E a) K2 n) K2) λ x ρ h => ?_
     cases x with
     | normal => exact ih ρ h
     | exit i => exact hk (.exit i) ρ h
     | ret => exact hk .ret ρ h
 | exit id => intro ρ h K K2 hk; exact hk (.exit id) ρ h
 | ret => intro ρ h K K2 hk; exact hk .ret ρ h
 | scope a iha =>
   intro ρ h K K2 hk; refine iha ρ h _ (aPB K2) λ x ρ h => ?_
   cases x with
   | normal => exact hk .normal ρ h
   | exit i =>
     show (bif Nat.blt i 4294967296 then K (.exit i) ρ h else none) = Bool.rec none (K2 (.exit i) (DI.reg ρ) h) (Nat.blt i 4294967296); cases Nat.blt i 4294967296
     · rfl
     · exact hk (.exit i) ρ h
   | ret => exact hk .ret ρ h
 | jump g a r iha ihr =>
   intro ρ h K K2 hk; have jk : ∀ (k : Tr DV -> H -> Option R) (k2 : Rg -> H -> Option R), (∀ ρ h, k ρ h = k2 (DI.reg ρ) h) -> ∀ x ρ h, aLt g k K x ρ h = aBG g k2 K2 x (DI.reg ρ) h := by
     intro k k2 hkk x ρ h; cases x with
     | normal => exact hk .normal ρ h
     | exit i =>
       show (bif Nat.beq i g then k ρ h else bif Nat.blt i 4294967296 then K (.exit i) ρ h else none) = Bool.rec (Bool.rec none (K2 (.exit i) (DI.reg ρ) h) (Nat.blt i 4294967296)) (k2 (DI.reg ρ) h) (Nat.beq i g); cases Nat.beq i g
       · cases Nat.blt i 4294967296
         · rfl
         · exact hk (.exit i) ρ h
       · exact hkk ρ h
     | ret => exact hk .ret ρ h
   have key : ∀ n ρ h, aGQ (vA E r) g K n ρ h = yS (kF E r) g K2 n (DI.reg ρ) h := by
     intro n
     induction n with
     | zero => intro ρ h; rfl
     | succ n ih => intro ρ h; exact ihr ρ h _ (aBG g (yS (kF E r) g K2 n) K2) (jk _ _ ih)
   exact iha ρ h _ (aBG g (yS (kF E r) g K2 aR) K2) (jk _ _ (key aR))
 | drg l => intro ρ h K K2 hk; exact aHa l [] ρ h _ _ λ ρ h => hk .normal ρ h
 | bad => intro ρ h K K2 hk; rfl
theorem aPF (h : H) : ∀ (l : List RV) (k : List DV -> Option (DV × H)), aTL (reg ρ) h l k = (qJ ρ h l).bind k
 | [], k => rfl
 | r :: l, k => by
   show rv2 (reg ρ) h r (λ v => aTL (reg ρ) h l λ vs => k (v :: vs)) = _
   simp only [aPF h l]; have e : ∀ q : DV -> Option (DV × H), rv2 (reg ρ) h r q = (aHW ρ h r).bind q := by
     intro q; cases r with
     | r p => rfl
     | cell p =>
       show vK (aG h.get (ev ρ (.r p))) q = _; rw [bEL]; simp only [aHW, aG, cH]; generalize ev ρ (.r p) = y; cases y <;> rfl
     | cells p n =>
       show vK (aK n h.get (ev ρ (.r p))) q = _; rw [bEL]; simp only [aHW, aK, cC]; generalize ev ρ (.r p) = y; cases y <;> rfl
   rw [e]; simp only [qJ]; cases aHW ρ h r with
   | none => rfl
   | some v =>
     simp only [Option.bind_some]; cases qJ ρ h l <;> rfl
theorem aSe (E : bO) (d : DF) (args : List DV) (h : H) : lZ E d args h = aNs E d args h := by
 unfold lZ aNs; cases Nat.beq args.length d.np with
 | false => rfl
 | true =>
   show vA E d.body (Tr.ofL args) h (retK d.res) = kF E d.body (reg (Tr.ofL args)) h (aPJ d.res); refine aUV d.body _ h _ _ λ x ρ h => ?_
   have e : ((qJ ρ h d.res).map λ vs => (rM vs, h)) = aTL (reg ρ) h d.res λ vs => some (rM vs, h) := by
     rw [aPF]; cases qJ ρ h d.res <;> rfl
   cases x with
   | normal => exact e
   | exit i => rfl
   | ret => exact e
end
section
variable {R : Type}
abbrev bRu (d : WOp) : Rg -> H -> (DV -> H -> Option R) -> Option R :=
 WOp.rec (motive := λ _ => Rg -> H -> (DV -> H -> Option R) -> Option R)
   (λ n a x σ h k => wK (bU n (e2 σ a) (e2 σ x) h) k)
   (λ es bytes x y σ h k => wK (cA es bytes (e2 σ x) (e2 σ y) h) k)
   (λ es x y σ h k => wK (lM es (e2 σ x) (e2 σ y) h) k)
   (λ kt x q y σ h k => wK (aSO kt (e2 σ x) (e2 σ q) (e2 σ y) h) k)
   (λ zs x σ h k => wK (vG zs (e2 σ x) h) k)
   (λ x σ h k => wK (aAW (e2 σ x) h) k)
   (λ es bytes zs x y σ h k => wK (aLX es bytes zs (e2 σ x) (e2 σ y) h) k) d
abbrev bRv (E : bO) (d : COp) : Rg -> H -> (DV -> H -> Option R) -> Option R :=
 COp.rec (motive := λ _ => Rg -> H -> (DV -> H -> Option R) -> Option R)
   (λ f args σ h k => wK (aD E f (args.map (e2 σ)) h) k)
   (λ f args σ h k => wK (oN E (e2 σ f) (args.map (e2 σ)) h) k)
   (λ tbl x args σ h k => wK (vJ E tbl (e2 σ x) (args.map (e2 σ)) h) k) d
abbrev odo3 (E : bO) (d : DOp) : Rg -> H -> (DV -> H -> Option R) -> Option R :=
 DOp.rec (motive := λ _ => Rg -> H -> (DV -> H -> Option R) -> Option R) bBt bRu (bRv E) d
abbrev aUT (E : bO) (g : DG) (σ : Rg) (h : H) (k : Rg -> H -> Option R) : Option R :=
 Option.rec (motive := λ _ => Option R) (odo3 E g.op σ h λ v h => k (aAH g.dst v σ) h)
   (λ x => bE (σ x.1) x.2 (λ kk => odo3 E g.op σ h kk) h λ v h => k (aAH g.dst v σ) h) g.guard
abbrev bBP (E : bO) (l : List DG) : Rg -> H -> (Rg -> H -> Option R) -> Option R :=
 List.rec (motive := λ _ => Rg -> H -> (Rg -> H -> Option R) -> Option R) (λ σ h k => k σ h) (λ g _ ih σ h k => aUT E g σ h λ σ h => ih σ h k) l
abbrev reK3 (pre : List DR) (σ : Rg) (h : H) (x : Option R) (l : Ln) : Option R :=
 List.rec (motive := λ _ => Option R) x (λ q _ ih => rK (Option.rec (motive := λ _ => Bool) false (λ g => oZ g σ h) (aAJ q pre)) ih) l
abbrev bIJ (E : bO) (l : List DR) : List DR -> Rg -> H -> (Rg -> H -> Option R) -> Option R :=
 List.rec (motive := λ _ => List DR -> Rg -> H -> (Rg -> H -> Option R) -> Option R) (λ _ σ h k => k σ h)
   (λ x _ ih pre σ h k => aUT E x.g σ h λ σ h => reK3 pre σ h (ih (x :: pre) σ h k) x.re) l
abbrev cF (k : Rg -> H -> Option R) (K : gS R) : gS R := λ x σ h =>
 DX.rec (motive := λ _ => Option R) (k σ h) (λ id => K (.exit id) σ h) (K .ret σ h) x
abbrev bL (id : Nat) (K : gS R) : gS R := λ x σ h =>
 DX.rec (motive := λ _ => Option R) (K .normal σ h) (λ i => Bool.rec (K (.exit i) σ h) (K .normal σ h) (Nat.beq i id)) (K .ret σ h) x
abbrev aDr (K : gS R) : gS R := λ x σ h =>
 DX.rec (motive := λ _ => Option R) (K .normal σ h) (λ i => Bool.rec none (K (.exit i) σ h) (Nat.blt i 4294967296)) (K .ret σ h) x
abbrev aUz (g : Nat) (k : Rg -> H -> Option R) (K : gS R) : gS R := λ x σ h =>
 DX.rec (motive := λ _ => Option R) (K .normal σ h) (λ i => Bool.rec (Bool.rec none (K (.exit i) σ h) (Nat.blt i 4294967296)) (k σ h) (Nat.beq i g)) (K .ret σ h) x
abbrev mF (E : bO) (c : DC) : Rg -> H -> gS R -> Option R :=
 DC.rec (motive := λ _ => Rg -> H -> gS R -> Option R)
   (λ σ h K => K .normal σ h)
   (λ l σ h K => bBP E l σ h λ σ h => K .normal σ h)
   (λ _ _ ia ib σ h K => ia σ h (cF (λ σ h => ib σ h K) K))
   (λ c _ _ ia ib σ h K => bK (e2 σ c) (ia σ h K) (ib σ h K))
   (λ id _ ia σ h K => ia σ h (bL id K))
   (λ _ ia σ h K => uX ia K aR σ h)
   (λ id σ h K => K (.exit id) σ h)
   (λ σ h K => K .ret σ h)
   (λ _ ia σ h K => ia σ h (aDr K))
   (λ l σ h K => bIJ E l [] σ h λ σ h => K .normal σ h)
   (λ _ _ _ => none)
   (λ g _ _ ia ir σ h K => ia σ h (aUz g (yS ir g K aR) K)) c
end
abbrev rv3 (σ : Rg) (h : H) (r : RV) (k : DV -> Option (DV × H)) : Option (DV × H) :=
 RV.rec (motive := λ _ => Option (DV × H)) (λ p => k (σ p)) (λ p => vK (aG h.get (σ p)) k) (λ p n => vK (aK n h.get (σ p)) k) r
abbrev rvs3 (σ : Rg) (h : H) (l : List RV) : (List DV -> Option (DV × H)) -> Option (DV × H) :=
 List.rec (motive := λ _ => (List DV -> Option (DV × H)) -> Option (DV × H)) (λ k => k []) (λ r _ ih k => rv3 σ h r λ v => ih λ vs => k (v :: vs)) l
abbrev bN (res : List RV) : gS (DV × H) := λ x σ h =>
 DX.rec (motive := λ _ => Option (DV × H)) (rvs3 σ h res λ vs => some (rM vs, h)) (λ _ => none) (rvs3 σ h res λ vs => some (rM vs, h)) x
theorem aUU {R : Type} (E : bO) (c : DC) (σ : Rg) (h : H) (K : gS R) : mF E c σ h K = kF E c σ h K := by
 induction c generalizing σ h K with
 | skip => rfl
 | reg l => rfl
 | seq a b iha ihb =>
   show mF E a σ h (cF (λ σ h => mF E b σ h K) K) = kF E a σ h (aBt (λ σ h => kF E b σ h K) K)
   rw [iha, show (λ σ h => mF E b σ h K) = λ σ h => kF E b σ h K from funext λ σ => funext λ h => ihb σ h K]
   rfl
 | cond c a b iha ihb =>
   show bK (e2 σ c) (mF E a σ h K) (mF E b σ h K) = bK (e2 σ c) (kF E a σ h K) (kF E b σ h K); rw [iha, ihb]
 | block id a iha => exact iha σ h _
 | loop a iha =>
   have e : mF (R := R) E a = kF E a := funext λ σ => funext λ h => funext λ K => iha σ h K
   show uX (mF E a) K aR σ h = uX (kF E a) K aR σ h; rw [e]
 | exit id => rfl
 | ret => rfl
 | scope a iha => exact iha σ h _
 | drg l => rfl
 | bad => rfl
 | jump g a r iha ihr =>
   have e : mF (R := R) E r = kF E r := funext λ σ => funext λ h => funext λ K => ihr σ h K
   show mF E a σ h (aUz g (yS (mF E r) g K aR) K) = kF E a σ h (aBG g (yS (kF E r) g K aR) K); rw [e, iha]; rfl
def Is {R : Type} (E : bO) (c : DC) (K : gS R) (S : Rg -> H -> Option R) : Prop := ∀ σ h, mF E c σ h K = S σ h
section
variable {R : Type} {E : bO} {K : gS R}
theorem Is.leaf (c : DC) : Is E c K λ σ h => mF E c σ h K := λ _ _ => rfl
theorem Is.seq {a b : DC} {Sa Sb : Rg -> H -> Option R} (hb : Is E b K Sb) (ha : Is E a (cF Sb K) Sa) : Is E (.seq a b) K Sa := λ σ h => by
 have e : (λ σ h => mF E b σ h K) = Sb := funext λ σ => funext λ h => hb σ h
 show mF E a σ h (cF (λ σ h => mF E b σ h K) K) = _
 rw [e]; exact ha σ h
theorem Is.block {id : Nat} {a : DC} {Sa : Rg -> H -> Option R} (ha : Is E a (bL id K) Sa) : Is E (.block id a) K Sa := ha
theorem Is.scope {a : DC} {Sa : Rg -> H -> Option R} (ha : Is E a (aDr K) Sa) : Is E (.scope a) K Sa := ha
theorem Is.loop {a : DC} (S : Nat -> Rg -> H -> Option R) (h0 : S 0 = λ _ _ => none) (hs : ∀ n, Is E a (cF (S n) K) (S (n + 1))) : Is E (.loop a) K (S aR) := by
 have key : ∀ n, uX (mF E a) K n = S n := by
   intro n
   induction n with
   | zero => exact h0.symm
   | succ n ih =>
     funext σ h
     show mF E a σ h (aBt (uX (mF E a) K n) K) = _; rw [ih]; exact hs n σ h
 exact λ σ h => congrFun (congrFun (key aR) σ) h
theorem Is.as {c : DC} {S T : Rg -> H -> Option R} (h : Is E c K S) (e : ∀ σ m, S σ m = T σ m) : Is E c K T := λ σ m => (h σ m).trans (e σ m)
end
end Go.DI
namespace Go.DI
open Go.RowKit
def a0 {R : Type} (args : List DV) (x : Option R) : Option R := List.rec (motive := λ _ => Option R) x (λ _ _ _ => none) args
def aS {R : Type} (args : List DV) (k : DV -> List DV -> Option R) : Option R := List.rec (motive := λ _ => Option R) none (λ v vs _ => k v vs) args
abbrev aU := Option (DV × H)
theorem Is.fn {E : bO} {d : DF} {S : Rg -> H -> aU} (h : Is E d.body (bN d.res) S) {np : Nat} (hn : d.np = np) (F : cE) (hF : ∀ args h, args.length = np -> S (reg (Tr.ofL args)) h = F args h) (h0 : ∀ args h, args.length ≠ np -> F args h = none) (args : List DV) (m : H) : lZ E d args m = F args m := by
 rw [aSe]; unfold aNs; have e0 : ∀ σ m, kF E d.body σ m (aPJ d.res) = S σ m := λ σ m => (aUU E d.body σ m (aPJ d.res)).symm.trans (h σ m)
 subst hn; by_cases e : args.length = d.np
 · rw [e, Nat.beq_refl]; exact (e0 _ m).trans (hF args m e)
 · have : Nat.beq args.length d.np = false := by
     cases hb : Nat.beq args.length d.np
     · rfl
     · exact absurd (Nat.eq_of_beq_eq_true hb) e
   rw [this]; exact (h0 args m e).symm
theorem Is.fn0 {E : bO} {d : DF} {S : Rg -> H -> aU} (h : Is E d.body (bN d.res) S) (hn : d.np = 0) (J : H -> aU) (e : ∀ h, S (reg (Tr.ofL [])) h = J h) (args : List DV) (m : H) : lZ E d args m = a0 args (J m) :=
 h.fn hn (λ args h => a0 args (J h)) (λ args h hl => by
   match args, hl with
   | [], _ => exact e h) (λ args h hl => by
   match args, hl with
   | [], hl => exact absurd rfl hl
   | _ :: _, _ => rfl) args m
theorem Is.fn1 {E : bO} {d : DF} {S : Rg -> H -> aU} (h : Is E d.body (bN d.res) S) (hn : d.np = 1) (J : DV -> H -> aU) (e : ∀ r0 h, S (reg (Tr.ofL [r0])) h = J r0 h) (args : List DV) (m : H) : lZ E d args m = (λ args h => aS args λ r0 args => a0 args (J r0 h)) args m :=
 h.fn hn (λ args h => aS args λ r0 args => a0 args (J r0 h)) (λ args h hl => by
   match args, hl with
   | [r0], _ => exact e r0 h) (λ args h hl => by
   match args, hl with
   | [], _ => rfl
   | [r0], hl => exact absurd rfl hl
   | _ :: _ :: _, _ => rfl) args m
theorem Is.fn2 {E : bO} {d : DF} {S : Rg -> H -> aU} (h : Is E d.body (bN d.res) S) (hn : d.np = 2) (J : DV -> DV -> H -> aU) (e : ∀ r0 r1 h, S (reg (Tr.ofL [r0, r1])) h = J r0 r1 h) (args : List DV) (m : H) : lZ E d args m = (λ args h => aS args λ r0 args => aS args λ r1 args => a0 args (J r0 r1 h)) args m :=
 h.fn hn (λ args h => aS args λ r0 args => aS args λ r1 args => a0 args (J r0 r1 h)) (λ args h hl => by
   match args, hl with
   | [r0, r1], _ => exact e r0 r1 h) (λ args h hl => by
   match args, hl with
   | [], _ => rfl
   | [_], _ => rfl
   | [r0, r1], hl => exact absurd rfl hl
   | _ :: _ :: _ :: _, _ => rfl) args m
theorem Is.fn3 {E : bO} {d : DF} {S : Rg -> H -> aU} (h : Is E d.body (bN d.res) S) (hn : d.np = 3) (J : DV -> DV -> DV -> H -> aU) (e : ∀ r0 r1 r2 h, S (reg (Tr.ofL [r0, r1, r2])) h = J r0 r1 r2 h) (args : List DV) (m : H) : lZ E d args m = (λ args h => aS args λ r0 args => aS args λ r1 args => aS args λ r2 args => a0 args (J r0 r1 r2 h)) args m :=
 h.fn hn (λ args h => aS args λ r0 args => aS args λ r1 args => aS args λ r2 args => a0 args (J r0 r1 r2 h)) (λ args h hl => by
   match args, hl with
   | [r0, r1, r2], _ => exact e r0 r1 r2 h) (λ args h hl => by
   match args, hl with
   | [], _ => rfl
   | [_], _ => rfl
   | [_, _], _ => rfl
   | [r0, r1, r2], hl => exact absurd rfl hl
   | _ :: _ :: _ :: _ :: _, _ => rfl) args m
theorem Is.fn4 {E : bO} {d : DF} {S : Rg -> H -> aU} (h : Is E d.body (bN d.res) S) (hn : d.np = 4) (J : DV -> DV -> DV -> DV -> H -> aU) (e : ∀ r0 r1 r2 r3 h, S (reg (Tr.ofL [r0, r1, r2, r3])) h = J r0 r1 r2 r3 h) (args : List DV) (m : H) : lZ E d args m = (λ args h => aS args λ r0 args => aS args λ r1 args => aS args λ r2 args => aS args λ r3 args => a0 args (J r0 r1 r2 r3 h)) args m :=
 h.fn hn (λ args h => aS args λ r0 args => aS args λ r1 args => aS args λ r2 args => aS args λ r3 args => a0 args (J r0 r1 r2 r3 h)) (λ args h hl => by
   match args, hl with
   | [r0, r1, r2, r3], _ => exact e r0 r1 r2 r3 h) (λ args h hl => by
   match args, hl with
   | [], _ => rfl
   | [_], _ => rfl
   | [_, _], _ => rfl
   | [_, _, _], _ => rfl
   | [r0, r1, r2, r3], hl => exact absurd rfl hl
   | _ :: _ :: _ :: _ :: _ :: _, _ => rfl) args m
structure FD where
 f : Nat
 d : DF
 s : bO -> cE
def sK : List FD -> Prop
 | [] => True
 | x :: l => (∀ E args h, lZ E x.d args h = x.s E args h) /\ sK l
theorem sK.mem : ∀ {l : List FD}, sK l -> ∀ x ∈ l, ∀ E args h, lZ E x.d args h = x.s E args h
 | y :: l, h, x, hx => by
   rcases List.mem_cons.1 hx with rfl | hx
   · exact h.1
   · exact h.2.mem x hx
theorem sK.append : ∀ {l m : List FD}, sK l -> sK m -> sK (l ++ m)
 | [], _, _, h => h
 | _ :: _, _, h, k => ⟨h.1, h.2.append k⟩
def aCY (P : Program) (l : List FD) : Bool := l.all λ x => aMa P x.f x.d
theorem aAX {P : Program} {l m : List FD} (h : aCY P l = true) (k : aCY P m = true) : aCY P (l ++ m) = true := by
 unfold aCY at *; rw [List.all_append, h, k]; rfl
def bBf : List FD -> Tr (bO -> cE) -> Tr (bO -> cE)
 | [], t => t
 | x :: l, t => bBf l (Tr.set x.s (Pa.of x.f) t)
theorem aPM : ∀ (l : List FD) (t : Tr (bO -> cE)) (f : Nat) (s : bO -> cE), (bBf l t).at_ f = some s -> t.at_ f = some s \/ ∃ x ∈ l, x.f = f /\ x.s = s
 | [], t, f, d, h => .inl h
 | x :: l, t, f, d, h => by
   rcases aPM l _ f d h with h | ⟨y, hy, h⟩
   · have := Tr.at_put t x.f f x.s; unfold Tr.put at this; rw [this] at h; split at h
     · rename_i hh; cases h; exact .inr ⟨x, by simp, hh.symm, rfl⟩
     · exact .inl h
   · exact .inr ⟨y, List.mem_cons_of_mem _ hy, h⟩
def SE (B : bO) (T : Tr (bO -> cE)) (n : Nat) : bO := Nat.rec (motive := λ _ => bO) (λ _ => none) (λ _ ih f =>
 Option.rec (motive := λ _ => Option cE) (Option.rec (motive := λ _ => Option cE) none (λ s => some (s ih)) (T.at_ f)) some (B f)) n
structure aHo (P : Program) (T : Tr (bO -> cE)) : Prop where
 ok : ∀ f s, T.at_ f = some s -> mH P f = true /\ ∀ E, kX P E -> fX P f (s E)
theorem bRe {P : Program} {l : List FD} {T : Tr (bO -> cE)} (hT : bBf l .e = T) (hc : aCY P l = true) (he : sK l) : aHo P T := by
 refine ⟨λ f s h => ?_⟩
 rw [<- hT] at h; rcases aPM l _ f s h with h | ⟨x, hx, rfl, rfl⟩
 · rw [Tr.at_e] at h; cases h
 · have hk := List.all_eq_true.1 hc x hx; refine ⟨aMc hk, λ E hE => ?_⟩
   have e : x.s E = lZ E x.d := funext λ args => funext λ h => (he.mem x hx E args h).symm
   rw [e]; exact aUN hE hk
theorem aQD {P : Program} {B : bO} {T : Tr (bO -> cE)} (hB : kX P B) (hT : aHo P T) : ∀ n, kX P (SE B T n)
 | 0 => λ f F hF => by cases hF
 | n + 1 => λ f F hF => by
   replace hF : Option.rec (motive := λ _ => Option cE) (Option.rec (motive := λ _ => Option cE) none (λ s => some (s (SE B T n))) (T.at_ f)) some (B f) = some F := hF
   cases hb : B f with
   | some G => rw [hb] at hF; cases hF; exact hB f F hb
   | none =>
     rw [hb] at hF; cases hs : T.at_ f with
     | none => rw [hs] at hF; cases hF
     | some s =>
       rw [hs] at hF; cases hF; exact ⟨(hT.ok f s hs).1, (hT.ok f s hs).2 _ (aQD hB hT n)⟩
theorem aMb {P : Program} {B : bO} {T : Tr (bO -> cE)} {f : FuncId} {s : bO -> cE} (hB : kX P B) (hT : aHo P T) (hf : T.at_ f = some s) {n : Nat} {args : List DV} {args' : List Value} (hargs : trs (λ _ => none) args = some args')
   (hrun : (s (SE B T n) args H0).map (·.1) = some (.bool true)) (w : World) :
   Calls P f args'.toArray w λ e w' => e = .returned (.bool true) /\ Below w.heap.size w w' := by
 cases hr : s (SE B T n) args H0 with
 | none => rw [hr] at hrun; cases hrun
 | some r =>
   obtain ⟨v, h'⟩ := r; rw [hr] at hrun; simp only [Option.map_some, Option.some.injEq] at hrun; subst hrun; refine ((hT.ok f s hf).2 _ (aQD hB hT n) w.heap.size w _ H0 w args args' _ h' hr hargs (cX.start w)).mono λ e w' hh => ?_
   obtain ⟨m', v', rfl, h2, h3, h4⟩ := hh; rw [jP h2]; exact ⟨rfl, h3.below⟩
end Go.DI
namespace Go.DI
open Go.RowKit
section
variable {R : Type}
@[simp] theorem aA (v : DV) (k : DV -> Option R) : vK (some v) k = k v := id rfl
@[simp] theorem bYe (k : DV -> Option R) : vK none k = none := id rfl
@[simp] theorem aB (v : DV) (h : H) (k : DV -> H -> Option R) : wK (some (v, h)) k = k v h := id rfl
@[simp] theorem bYd (k : DV -> H -> Option R) : wK none k = none := id rfl
@[simp] theorem aE (a b : Option R) : bK (.bool true) a b = a := id rfl
@[simp] theorem aC (a b : Option R) : bK (.bool false) a b = b := id rfl
@[simp] theorem fY (a : Option R) : rK true a = a := id rfl
@[simp] theorem bYx (v : DV) (vs : List DV) (k : DV -> List DV -> Option R) : aS (v :: vs) k = k v vs := id rfl
@[simp] theorem aS_nil (k : DV -> List DV -> Option R) : aS [] k = none := id rfl
@[simp] theorem a0_nil (x : Option R) : a0 [] x = x := id rfl
@[simp] theorem bYy (v : DV) (vs : List DV) (x : Option R) : a0 (v :: vs) x = none := id rfl
end
theorem dQ {a b : Nat} (h : a < b) : Nat.blt a b = true := by rw [Nat.blt_eq]; exact h
theorem cM {E : bO} {f : Nat} {F : cE} (h : E f = some F) (args : List DV) (m : H) : aD E f args m = F args m := by unfold aD; rw [h]
theorem jG (k : IntKind) : kEq k k = true := by cases k <;> rfl
theorem aBr (k : IntKind) (a b : Int) : bJ (.int k a) (.int k b) = some (.int k (k.wrap (a + b))) := by
 show (bif kEq k k then aQA k a b else none) = _; rw [jG]; show jI k (aUD a b) = _; rw [aIt, jS]
theorem aBk (k : IntKind) (a b : Int) : fA (.int k a) (.int k b) = some (.int k (k.wrap (a - b))) := by
 show (bif kEq k k then aQr k a b else none) = _; rw [jG]; show jI k (a - b) = _; rw [jS]
theorem fP (k : IntKind) (a b : Int) : cT (.int k a) (.int k b) = some (.bool (decide (a < b))) := by
 show (bif kEq k k then aQu k a b else none) = _; rw [jG]; show eV (iLt a b) = _; rw [fN, mZ]
theorem aBq (k : IntKind) (a b : Int) : eF (.int k a) (.int k b) = some (.bool (decide (b < a))) := by
 show (bif kEq k k then aQw k a b else none) = _; rw [jG]; show eV (iLt b a) = _; rw [fN, mZ]
theorem aRS (k : IntKind) (a b : Nat) (ha : a < 2 ^ k.bits) (hb : b < 2 ^ k.bits) : aDO (.int k (.ofNat a)) (.int k (.ofNat b)) = some (.int k (k.wrap (.ofNat (a &&& b)))) := by
 show (bif kEq k k then aQd k (.ofNat a) (.ofNat b) else none) = _; rw [jG]; show (bif Nat.blt a (2 ^ k.bits) && Nat.blt b (2 ^ k.bits) then jI k (.ofNat (Nat.land a b)) else _) = _; rw [dQ ha, dQ hb]; exact jS _ _
theorem aBj (k : IntKind) (a b : Nat) (ha : a < 2 ^ k.bits) (hb : b < 2 ^ k.bits) : aDJ (.int k (.ofNat a)) (.int k (.ofNat b)) = some (.int k (k.wrap (.ofNat (a ^^^ b)))) := by
 show (bif kEq k k then aQc k (.ofNat a) (.ofNat b) else none) = _; rw [jG]; show (bif Nat.blt a (2 ^ k.bits) && Nat.blt b (2 ^ k.bits) then jI k (.ofNat (Nat.xor a b)) else _) = _; rw [dQ ha, dQ hb]; exact jS _ _
theorem aRM (k k' : IntKind) (a b : Nat) (hb : b <= k.bits) : xT (.int k (.ofNat a)) (.int k' (.ofNat b)) = some (.int k (.ofNat (a / 2 ^ b))) := by
 show pT .shr k (.ofNat a) (.ofNat b) = _; unfold pT; rw [show iLt (.ofNat b) 0 = false from by rw [mZ]; simp]
 simp only [cond_false, oW]; rw [show min (Int.ofNat b).toNat k.bits = b from by simp [Nat.min_eq_left hb]]
 congr 2
 show Int.fdiv (a : Int) (2 ^ b) = ((a / 2 ^ b : Nat) : Int); rw [Int.fdiv_eq_ediv_of_nonneg _ (by exact_mod_cast Nat.zero_le _)]
 simp
theorem pF (k k' : IntKind) (a : Int) : fB k (.int k' a) = some (.int k (k.wrap a)) := jS _ _
theorem bD (s : Ln) : bZ (.str s) = some (.int .i64 (.ofNat s.length)) := by
 simp only [bZ, bA]
theorem oY {s : Ln} {i b : Nat} (h : s[i]? = some b) (k : IntKind) : gJ (.str s) (.int k (.ofNat i)) = some (.int .u8 (.ofNat b)) := by
 have hi : i < s.length := by
   rcases Nat.lt_or_ge i s.length with h1 | h1
   · exact h1
   · rw [List.getElem?_eq_none h1] at h; cases h
 simp only [gJ, rB]; rw [dQ hi, h]; rfl
theorem wrap_i64 {n : Nat} (h : n < 9223372036854775808) : IntKind.i64.wrap (.ofNat n) = .ofNat n := by
 rw [uF] <;> simp only [Int.ofNat_eq_natCast] <;> omega
@[simp] theorem eN {R : Type} (op : (DV -> H -> Option R) -> Option R) (h : H) (k : DV -> H -> Option R) : bE (.bool false) false op h k = op k := id rfl
@[simp] theorem iM {R : Type} (op : (DV -> H -> Option R) -> Option R) (h : H) (k : DV -> H -> Option R) : bE (.bool true) true op h k = op k := id rfl
@[simp] theorem iN {R : Type} (op : (DV -> H -> Option R) -> Option R) (h : H) (k : DV -> H -> Option R) : bE (.bool true) false op h k = k (.tup []) h := id rfl
@[simp] theorem yT {R : Type} (op : (DV -> H -> Option R) -> Option R) (h : H) (k : DV -> H -> Option R) : bE (.bool false) true op h k = k (.tup []) h := id rfl
@[simp] theorem cO (a b : DV) : aX (.bool true) a b = some a := id rfl
@[simp] theorem cP (a b : DV) : aX (.bool false) a b = some b := id rfl
theorem fF (b : Bool) : kT (.bool b) = some (.bool (!b)) := fN _
theorem aRP (k : IntKind) (a b : Int) : dD (.int k a) (.int k b) = some (.bool (a != b)) := by
 show (bif kEq k k then aQt k a b else none) = _; rw [jG]; show eV (!iEq a b) = _; rw [fN, tI]; rfl
theorem jM (k : IntKind) (a b : Int) : bV (.int k a) (.int k b) = some (.bool (a == b)) := by
 show (bif kEq k k then aQy k a b else none) = _; rw [jG]; show eV (iEq a b) = _; rw [fN, tI]
def eM (b : Nat) : DV := .int .u8 (.ofNat b)
def bT (s : Ln) : List DV := s.map eM
theorem vM : ∀ {s : Ln}, bF s = true -> nM (bT s) = some s
 | [], _ => rfl
 | b :: s, h => by
   simp only [bF, Bool.and_eq_true, Nat.blt_eq] at h; have hb : aEU (eM b) = some b := by
     show (bif Nat.blt b 256 then some b else none) = some b; rw [dQ h.1]; rfl
   show (match aEU (eM b), nM (bT s) with
     | some b, some bs => some (b :: bs)
     | _, _ => none) = _
   rw [hb, vM h.2]
theorem rE (s : Ln) : (bT s).all DV.one = true := by
 rw [List.all_eq_true]; intro x hx; obtain ⟨b, _, rfl⟩ := List.mem_map.1 hx
 rfl
theorem lJ {rd : Rd} {b : Nat} : ∀ (vs : List DV) (j : Nat), (∀ i v, vs[i]? = some v -> rdCell rd b (j + i) = some v) -> rdCells rd b j vs.length = some vs
 | [], j, _ => rfl
 | v :: vs, j, h => by
   simp only [List.length_cons, rdCells]; have h0 := h 0 v rfl; rw [Nat.add_zero] at h0; rw [h0, lJ vs (j + 1) (λ i u hi => by rw [show j + 1 + i = j + (i + 1) from by omega]; exact h (i + 1) u hi)]
theorem qS {h : H} {b o : Nat} {B : Blk} {vs : List DV} (hg : h.get b = some (.blk B)) (hr : B.ro = false) (hl : o + vs.length <= B.n) (h1 : vs.all DV.one = true) :
   ∃ h' t', gU vs h b o = some h' /\ h'.size = h.size /\ (∀ c, c ≠ b -> h'.get c = h.get c) /\ h'.get b = some (.blk { B with t := t' }) /\ ∀ j, t'.at_ j = if o <= j /\ j < o + vs.length then vs[j - o]? else B.t.at_ j := by
 cases vs with
 | nil => exact ⟨h, B.t, rfl, rfl, λ _ _ => rfl, hg, λ j => by rw [if_neg (by simp only [List.length_nil]; omega)]⟩
 | cons v vs =>
   refine ⟨_, aKK (v :: vs) o B.t, by rw [aBM (v :: vs) h b o B hg (by simp), if_pos ⟨by simp [hr], hl, h1⟩], by simp, λ c hc => by rw [H.get_put, if_neg hc], by rw [H.get_put, if_pos rfl], λ j => ?_⟩
   rw [aBx, Tr.at_ofF]
theorem jZ {rd : Rd} {b j : Nat} {B : Blk} (h : rd b = some (.blk B)) (hj : j < B.n) : rdCell rd b j = B.t.at_ j := by
 unfold rdCell; rw [h]; simp only []; rw [if_pos hj]
theorem lQ {rd rd' : Rd} {b j : Nat} (h : rd' b = rd b) : rdCell rd' b j = rdCell rd b j := by unfold rdCell; rw [h]
theorem fX.or {P : Program} {f : FuncId} {F G : cE} (hF : fX P f F) (hG : fX P f G) : fX P f λ args h => Option.rec (motive := λ _ => Option (DV × H)) (G args h) some (F args h) := by
 intro N0 w0 m h w args args' v h' hr ht hw; cases hf : F args h with
 | some r =>
   have hr' : some r = some (v, h') := by rw [<- hr]; show _ = Option.rec (motive := λ _ => Option (DV × H)) (G args h) some (F args h); rw [hf]
   cases hr'; exact hF N0 w0 m h w args args' v h' hf ht hw
 | none =>
   have hr' : G args h = some (v, h') := by rw [<- hr]; show _ = Option.rec (motive := λ _ => Option (DV × H)) (G args h) some (F args h); rw [hf]
   exact hG N0 w0 m h w args args' v h' hr' ht hw
def aBD (s : Ln) : Bool := List.rec (motive := λ _ => Bool) true (λ b _ ih => bif Nat.blt b 256 then ih else false) s
theorem wM : ∀ s, aBD s = bF s
 | [] => rfl
 | b :: s => by
   show (bif Nat.blt b 256 then aBD s else false) = (Nat.blt b 256 && bF s); rw [wM s]; cases Nat.blt b 256 <;> rfl
end Go.DI
namespace Go.DI
open Go.RowKit
section
variable {P : Program} {N0 : Nat} {w0 : World} {E : bO}
end
end Go.DI
namespace Go.DI
open Go.RowKit
section
variable {P : Program} {N0 : Nat} {w0 : World} {E : bO}
section
variable {n : Nat} {ds : List Deferred} {ops : Array Oper} {m0 : Mp} {h0 : H} {σ pfx rest0 : List DR} {x : DR} {res : Tr DV × H} {Q : Exit -> Act -> World -> Prop}
end
end
end Go.DI
namespace Go.DI
open Go.RowKit
section
variable {P : Program} {N0 : Nat} {w0 : World} {E : bO}
end
section
variable {P : Program} {N0 : Nat} {w0 : World} {E : bO}
end
end Go.DI
namespace Go.DI
open Go.RowKit
theorem aCE (n : Nat) : bF (List.replicate n 0) = true := by
 rw [gH]; intro b hb; have := List.eq_of_mem_replicate hb; omega
structure But (b : Nat) (h h' : H) : Prop where
 size : h'.size = h.size
 get : ∀ c, c ≠ b -> h'.get c = h.get c
theorem But.trans {b : Nat} {x y z : H} (h : But b x y) (k : But b y z) : But b x z := ⟨k.size.trans h.size, λ c hc => (k.get c hc).trans (h.get c hc)⟩
theorem But.grown {h0 h h' : H} (g : aJ h0 h) {b : Nat} (hb : h0.size <= b) (k : But b h h') : aJ h0 h' :=
 ⟨by rw [k.size]; exact g.size, λ i hi => (k.get i (by omega)).trans (g.get i hi)⟩
theorem aEx {R : Type} {h : H} {n : Nat} (hn : n < 140737488355328) (k : DV -> H -> Option R) : tV 1 1 (.int .u8 (.ofNat 0)) (.int .i64 (.ofNat n)) (.int .i64 (.ofNat n)) h k = k (.slc h.size 0 n n false) (h.push (.blk ⟨n, 1, false, true, Tr.full (.int .u8 (.ofNat 0)) 48⟩)) := by
 simp only [tV]; rw [Nat.ble_eq_true_of_le (Nat.le_refl _), dQ (show 1 * n < 140737488355328 by omega), dQ hn]
 simp only [Bool.and_self, cond_true, H.pushK_eq]
theorem wrap_u8 {n : Nat} (h : n < 256) : IntKind.u8.wrap (.ofNat n) = .ofNat n := by
 rw [IntKind.wrap_u8]; simp only [Int.ofNat_eq_natCast]; omega
theorem aDL (k k' : IntKind) (a b : Nat) : aBl (.int k (.ofNat a)) (.int k' (.ofNat b)) = some (.int k (.ofNat (max a b))) := by
 simp only [aBl, mZ]
 congr 2
 by_cases h : a < b
 · rw [show decide (Int.ofNat a < Int.ofNat b) = true from by simp only [Int.ofNat_eq_natCast, decide_eq_true_iff]; omega]
   show Int.ofNat b = _; congr 1; omega
 · rw [show decide (Int.ofNat a < Int.ofNat b) = false from by simp only [Int.ofNat_eq_natCast, decide_eq_false_iff_not]; omega]
   show Int.ofNat a = _; congr 1; omega
theorem aBp {b n c j : Nat} {op : Bool} (hj : j < n) (k : IntKind) : bR 1 (.slc b 0 n c op) (.int k (.ofNat j)) = some (.ptr b j) := by
 simp only [bR, rB, bA]; rw [dQ hj]; simp
theorem aUr (a b : Nat) : decide (Int.ofNat a < Int.ofNat b) = decide (a < b) := by
 rw [decide_eq_decide]; simp only [Int.ofNat_eq_natCast]; omega
theorem fG {i : Nat} (h : i + 1 < 9223372036854775808) : bJ (.int .i64 (.ofNat i)) (.int .i64 (.ofNat 1)) = some (.int .i64 (.ofNat (i + 1))) := by
 rw [aBr, show Int.ofNat i + Int.ofNat 1 = Int.ofNat (i + 1) from rfl, wrap_i64 h]
theorem aAh {s : Ln} {j : Nat} (h : j <= s.length) (k : IntKind) : gX (.str s) none (some (.int k (.ofNat j))) = some (.str (s.take j)) := by
 simp only [gX, dF, dHi, dLo]; rw [Nat.ble_eq_true_of_le h, cond_true, Nat.ble_eq_true_of_le (Nat.zero_le _), cond_true, hU]; rfl
theorem yE {s : Ln} {j : Nat} (h : j <= s.length) (k : IntKind) : gX (.str s) (some (.int k (.ofNat j))) none = some (.str (s.drop j)) := by
 simp only [gX, dF, dHi, dLo]; rw [Nat.ble_eq_true_of_le (Nat.le_refl _), cond_true, Nat.ble_eq_true_of_le h, cond_true, hU, List.take_length]
theorem fR (s t : Ln) : bV (.str s) (.str t) = some (.bool (s == t)) := by
 show eV (sEq s t) = _; rw [fN, sR]
theorem cG (k : IntKind) (a b : Nat) : bV (.int k (.ofNat a)) (.int k (.ofNat b)) = some (.bool (decide (a = b))) := by
 rw [jM]; congr 2; rw [Bool.eq_iff_iff, beq_iff_eq, decide_eq_true_iff]; simp only [Int.ofNat_eq_natCast]; omega
end Go.DI
namespace Go.DI
open Go.RowKit
theorem aBE {a b : Nat} (h : a ≠ b) : Nat.beq a b = false := by
 cases hb : Nat.beq a b
 · rfl
 · exact absurd (Nat.eq_of_beq_eq_true hb) h
theorem iY {a b : Nat} (h : ¬ a <= b) : Nat.ble a b = false := by
 cases hb : Nat.ble a b
 · rfl
 · exact absurd (Nat.le_of_ble_eq_true hb) h
def cU (h : H) (b : Nat) (L : List DV) : Prop := b < h.size /\ ∃ pl t, h.get b = some (.blk ⟨L.length, 1, false, pl, t⟩) /\ ∀ j x, L[j]? = some x -> t.at_ j = some x
section
variable {h h' : H} {b : Nat} {L : List DV}
theorem cU.rd (hb : cU h b L) {j : Nat} {x : DV} (hj : L[j]? = some x) : rdCell h.get b j = some x := by
 obtain ⟨hlt, pl, t, h1, h2⟩ := hb; have hjl : j < L.length := by
   rcases Nat.lt_or_ge j L.length with h3 | h3
   · exact h3
   · rw [List.getElem?_eq_none h3] at hj; cases hj
 rw [jZ h1 hjl]; exact h2 j x hj
theorem cU.cells (hb : cU h b L) {o k : Nat} (hk : o + k <= L.length) : rdCells h.get b o k = some ((L.drop o).take k) := by
 have hl : ((L.drop o).take k).length = k := by simp; omega
 have := lJ (rd := h.get) (b := b) ((L.drop o).take k) o λ i v hi => hb.rd (by
   rw [List.getElem?_take] at hi; split at hi
   · rw [List.getElem?_drop] at hi; exact hi
   · cases hi)
 rw [hl] at this; exact this
theorem cU.cells_all (hb : cU h b L) : rdCells h.get b 0 L.length = some L := by
 have := hb.cells (o := 0) (k := L.length) (by omega)
 simpa using this
theorem cU.but (hb : cU h b L) {c : Nat} (hc : b ≠ c) (k : But c h h') : cU h' b L := by
 obtain ⟨hlt, pl, t, h1, h2⟩ := hb; exact ⟨by rw [k.size]; exact hlt, pl, t, by rw [k.get b hc]; exact h1, h2⟩
theorem cU.store (hb : cU h b L) {vs : List DV} {o : Nat} (hv : vs.all DV.one = true) (ho : o + vs.length <= L.length) :
   ∃ h', gU vs h b o = some h' /\ cU h' b (L.take o ++ vs ++ L.drop (o + vs.length)) /\ But b h h' := by
 obtain ⟨hlt, pl, t, h1, h2⟩ := hb; obtain ⟨h', t', f1, f2, f3, f4, f5⟩ := qS (h := h) (b := b) (o := o) (vs := vs) h1 rfl ho hv; have hlen : (L.take o ++ vs ++ L.drop (o + vs.length)).length = L.length := by simp; omega
 refine ⟨h', f1, ⟨by rw [f2]; exact hlt, pl, t', by rw [f4, hlen], λ j x hj => ?_⟩, ⟨f2, f3⟩⟩
 rw [f5]; have ht : (L.take o).length = o := by simp; omega
 by_cases hjo : o <= j /\ j < o + vs.length
 · rw [if_pos hjo]; rw [List.append_assoc, List.getElem?_append_right (by omega), ht, List.getElem?_append_left (by omega)] at hj
   exact hj
 · rw [if_neg hjo]; apply h2; rcases Nat.lt_or_ge j o with hlt | hge
   · rw [List.append_assoc, List.getElem?_append_left (by omega), List.getElem?_take, if_pos hlt] at hj
     exact hj
   · have hge2 : o + vs.length <= j := by
       rcases Nat.lt_or_ge j (o + vs.length) with h3 | h3
       · exact absurd ⟨hge, h3⟩ hjo
       · exact h3
     rw [List.getElem?_append_right (by simp only [List.length_append, ht]; omega), List.length_append, ht, List.getElem?_drop] at hj
     rw [show j = o + vs.length + (j - (o + vs.length)) from by omega]; exact hj
theorem cU.set (hb : cU h b L) {j : Nat} {v : DV} (hv : v.one = true) (hj : j < L.length) :
   ∃ h', bU 1 (.ptr b j) v h = some (.tup [], h') /\ cU h' b (L.set j v) /\ But b h h' := by
 obtain ⟨h', f1, f2, f3⟩ := hb.store (vs := [v]) (o := j) (by simp [hv]) (by simp; omega)
 refine ⟨h', ?_, ?_, f3⟩
 · rw [aAV]; have hc : v.cells = [v] := by cases v <;> first | rfl | cases hv
   simp only [dSt, hc, List.length_singleton, Nat.beq_refl, cond_true, f1, Option.map_some]
 · have : L.take j ++ [v] ++ L.drop (j + [v].length) = L.set j v := by
     rw [List.set_eq_take_append_cons_drop, if_pos hj]; simp
   rw [<- this]; exact f2
theorem cU.text {s : Ln} (hb : cU h b (bT s)) (hok : bF s = true) (c : Nat) (op : Bool) : mO h.get (.slc b 0 s.length c op) = some (.str s) := by
 have hr := hb.cells_all; have hlen : (bT s).length = s.length := by simp [bT]
 rw [hlen] at hr; simp only [mO, cC, hr, Option.bind_some, vM hok, hU]
theorem cU.copy_str (hb : cU h b L) {s : Ln} {o n c : Nat} {op : Bool} (hs : s.length <= n) (ho : o + s.length <= L.length) :
   ∃ h', lM 1 (.slc b o n c op) (.str s) h = some (.int .i64 (.ofNat s.length), h') /\ cU h' b (L.take o ++ bT s ++ L.drop (o + s.length)) /\ But b h h' := by
 have hbl : (bT s).length = s.length := by simp [bT]
 obtain ⟨h', f1, f2, f3⟩ := hb.store (vs := bT s) (o := o) (rE s) (by omega)
 rw [hbl] at f2; refine ⟨h', ?_, f2, f3⟩; rw [aBN]; simp only [aEP, srcLen, bA, Option.bind_some]; rw [Nat.ble_eq_true_of_le hs]; simp only [cond_true, qH, Nat.beq_refl, List.take_length, Option.bind_some]; have : (s.map λ b => DV.int .u8 (.ofNat b)) = bT s := rfl
 rw [this, f1]; rfl
end
theorem cU.pushed {h : H} {L : List DV} {pl : Bool} : cU (h.push (.blk ⟨L.length, 1, false, pl, Tr.ofL L⟩)) h.size L :=
 ⟨by rw [H.size_push]; omega, pl, _, by rw [H.get_push, if_pos rfl], λ j x hj => by rw [Tr.at_ofL]; exact hj⟩
theorem cU.push {h : H} {b : Nat} {L : List DV} (hb : cU h b L) (o : iR) : cU (h.push o) b L := by
 obtain ⟨hlt, pl, t, h1, h2⟩ := hb; exact ⟨by rw [H.size_push]; omega, pl, t, by rw [H.get_push, if_neg (by omega)]; exact h1, h2⟩
theorem cU.made {h : H} {z : DV} {n : Nat} (hn : n < 140737488355328) : cU (h.push (.blk ⟨n, 1, false, true, Tr.full z 48⟩)) h.size (List.replicate n z) := by
 refine ⟨by rw [H.size_push]; omega, true, _, by rw [H.get_push, if_pos rfl, List.length_replicate], λ j x hj => ?_⟩
 have hlt : j < n := by
   rcases Nat.lt_or_ge j n with h3 | h3
   · exact h3
   · rw [List.getElem?_eq_none (by simpa using h3)] at hj; cases hj
 have hx : x = z := by
   rw [List.getElem?_replicate, if_pos hlt] at hj; exact (Option.some.inj hj).symm
 subst hx; exact Tr.at_full _ (by omega)
structure cI (n0 : Nat) (h h' : H) : Prop where
 size : h.size <= h'.size
 get : ∀ c, c < n0 -> h'.get c = h.get c
theorem cI.refl (n0 : Nat) (h : H) : cI n0 h h := ⟨Nat.le_refl _, λ _ _ => rfl⟩
theorem cI.trans {n0 : Nat} {x y z : H} (a : cI n0 x y) (c : cI n0 y z) : cI n0 x z := ⟨Nat.le_trans a.size c.size, λ i hi => (c.get i hi).trans (a.get i hi)⟩
theorem cI.grown {h h' : H} (a : cI h.size h h') : aJ h h' := ⟨a.size, a.get⟩
theorem But.keeps {n0 b : Nat} {h h' : H} (k : But b h h') (hb : n0 <= b) : cI n0 h h' := ⟨by rw [k.size]; exact Nat.le_refl _, λ c hc => k.get c (by omega)⟩
theorem cI.push {n0 : Nat} {h : H} (hn : n0 <= h.size) (o : iR) : cI n0 h (h.push o) := ⟨by rw [H.size_push]; omega, λ c hc => by rw [H.get_push, if_neg (by omega)]⟩
def cK (n0 : Nat) (h : H) (v : DV) (L : List DV) : Prop := (v = .nils /\ L = []) \/ ∃ b, n0 <= b /\ v = .slc b 0 L.length L.length true /\ cU h b L
theorem cK.nil (n0 : Nat) (h : H) : cK n0 h .nils [] := .inl ⟨rfl, rfl⟩
theorem cK.len {n0 : Nat} {h : H} {v : DV} {L : List DV} (o : cK n0 h v L) : bX v = some (.int .i64 (.ofNat L.length)) := by
 rcases o with ⟨rfl, rfl⟩ | ⟨b, _, rfl, _⟩ <;> rfl
theorem cK.append {n0 : Nat} {h : H} {v x : DV} {L new : List DV} {bytes : Nat} (o : cK n0 h v L) (hn0 : n0 <= h.size) (hl : srcLen x = some new.length) (hc : dO 1 h.get x = some new) (h1 : new.all DV.one = true) (hne : new ≠ [])
   (hs : (L.length + new.length) * bytes < aQ) (hs2 : L.length + new.length < aQ) : ∃ v' h', cA 1 bytes v x h = some (v', h') /\ cK n0 h' v' (L ++ new) /\ cI n0 h h' := by
 have hpos : 0 < new.length := List.length_pos_iff.2 hne; rcases o with ⟨rfl, rfl⟩ | ⟨b, hb0, rfl, hb⟩
 · refine ⟨.slc h.size 0 new.length new.length true, h.push (.blk ⟨new.length, 1, false, true, Tr.ofL new⟩), ?_, .inr ⟨h.size, hn0, ?_, ?_⟩, cI.push hn0 _⟩
   · rw [eS]; simp only [fK, hl, hc, Option.bind_some]; simp only [List.length_nil, Nat.zero_add] at hs hs2; rw [aBE (show new.length ≠ 0 by omega), dQ hs, dQ hs2]
     simp only [cond_false, Bool.and_self, cond_true, H.pushK_eq, Nat.mul_one]
   · simp
   · simpa using cU.pushed
 · obtain ⟨hlt, pl, t, g1, g2⟩ := hb; refine ⟨.slc h.size 0 (L.length + new.length) (L.length + new.length) true, (h.push (.blk ⟨(L.length + new.length) * 1, 1, false, false, Tr.ofF new (L.length * 1) t⟩)).put b .dead, ?_, .inr ⟨h.size, hn0, ?_, ?_⟩, ?_⟩
   · rw [eS]; simp only [fK, hl, hc, Option.bind_some, bA]; rw [iY (show ¬ L.length + new.length <= L.length by omega), dQ hs, dQ hs2]
     simp only [cond_false, Bool.and_self, cond_true, g1, h1, Nat.zero_add, Nat.mul_one, Nat.beq_refl, Bool.not_false, Nat.ble_eq_true_of_le (Nat.le_refl _), aCP, Option.bind_some, H.pushK_eq, H.putK_eq]
   · simp
   · refine ⟨by rw [H.size_put, H.size_push]; omega, false, Tr.ofF new (L.length * 1) t, ?_, λ j x hj => ?_⟩
     · rw [H.get_put, if_neg (by omega), H.get_push, if_pos rfl, List.length_append, Nat.mul_one]
     · rw [Tr.at_ofF, Nat.mul_one]; rcases Nat.lt_or_ge j L.length with hj1 | hj1
       · rw [if_neg (by omega)]
         rw [List.getElem?_append_left hj1] at hj; exact g2 j x hj
       · rw [List.getElem?_append_right hj1] at hj; have : j - L.length < new.length := by
           rcases Nat.lt_or_ge (j - L.length) new.length with h3 | h3
           · exact h3
           · rw [List.getElem?_eq_none h3] at hj; cases hj
         rw [if_pos ⟨hj1, by omega⟩]; exact hj
   · refine ⟨by rw [H.size_put, H.size_push]; omega, λ c hc' => ?_⟩
     rw [H.get_put, if_neg (by omega), H.get_push, if_neg (by omega)]
theorem cK.push1 {n0 : Nat} {h : H} {v x z : DV} {L : List DV} {bytes : Nat} (o : cK n0 h v L) (hn0 : n0 <= h.size) (h1 : x.one = true)
   (hs : (L.length + 1) * bytes < aQ) (hs2 : L.length + 1 < aQ) : ∃ v' h', (∀ (R : Type) (k : DV -> H -> Option R), (gO 1 1 [z] [(0, 1, x)] h λ y h' => wK (cA 1 bytes v y h') k) = k v' h') /\ cK n0 h' v' (L ++ [x]) /\ cI n0 h h' := by
 let h1' := h.push (.blk ⟨1 * 1, 1, false, true, Tr.ofL [x]⟩)
 have hp : cU h1' h.size [x] := cU.pushed (h := h) (L := [x]) (pl := true); have o' : cK n0 h1' v L := by
   rcases o with ⟨rfl, rfl⟩ | ⟨b, hb0, rfl, hb⟩
   · exact .inl ⟨rfl, rfl⟩
   · exact .inr ⟨b, hb0, rfl, hb.push _⟩
 obtain ⟨v', h', f1, f2, f3⟩ := o'.append (x := .slc h.size 0 1 1 false) (new := [x]) (bytes := bytes) (by show n0 <= (h.push _).size; rw [H.size_push]; omega) rfl
   (by simpa [dO] using hp.cells_all) (by simp [h1]) (by simp) hs hs2
 refine ⟨v', h', λ R k => ?_, f2, (cI.push hn0 _).trans f3⟩
 have hf : hY (gL [z] 1) [(0, 1, x)] = some [x] := by
   have hc : x.cells = [x] := by cases x <;> first | rfl | cases h1
   simp [hY, gL, hc, uN]; rfl
 simp only [gO, hf, Option.bind_some, H.pushK_eq]; show wK (cA 1 bytes v (.slc h.size 0 1 1 false) h1') k = _; rw [f1]; rfl
theorem cK.lt {n0 : Nat} {h : H} {v : DV} {L : List DV} (o : cK n0 h v L) (hL : L ≠ []) : ∃ b, n0 <= b /\ v = .slc b 0 L.length L.length true /\ cU h b L := by
 rcases o with ⟨rfl, rfl⟩ | o
 · exact absurd rfl hL
 · exact o
theorem cK.store1 {n0 : Nat} {h : H} {v x : DV} {L : List DV} {j : Nat} (o : cK n0 h v L) (hj : j < L.length) (hx : x.one = true) (k : IntKind) :
   ∃ b h', bR 1 v (.int k (.ofNat j)) = some (.ptr b j) /\ bU 1 (.ptr b j) x h = some (.tup [], h') /\ cK n0 h' v (L.set j x) /\ cI n0 h h' := by
 obtain ⟨b, hb0, rfl, hb⟩ := o.lt (by intro e; subst e; simp at hj)
 obtain ⟨h', f1, f2, f3⟩ := hb.set hx hj; exact ⟨b, h', aBp hj k, f1, .inr ⟨b, hb0, by simp, f2⟩, f3.keeps hb0⟩
theorem cK.text {n0 : Nat} {h : H} {v : DV} {s : Ln} (o : cK n0 h v (bT s)) (hok : bF s = true) : mO h.get v = some (.str s) := by
 have hl : (bT s).length = s.length := by simp [bT]
 rcases o with ⟨rfl, e⟩ | ⟨b, _, rfl, hb⟩
 · have : s = [] := by
     cases s with
     | nil => rfl
     | cons _ _ => cases e
   subst this; rfl
 · rw [hl]; exact hb.text hok _ _
theorem cK.s2b {n0 : Nat} {h : H} (hn0 : n0 <= h.size) (s : Ln) : ∃ v' h', (∀ (R : Type) (k : DV -> H -> Option R), aGO (.str s) h k = k v' h') /\ cK n0 h' v' (bT s) /\ cI n0 h h' /\ v' ≠ .nils := by
 have hl : (bT s).length = s.length := by simp [bT]
 refine ⟨.slc h.size 0 s.length s.length true, h.push (.blk ⟨s.length, 1, false, false, Tr.ofL (bT s)⟩), λ R k => ?_, .inr ⟨h.size, hn0, by rw [hl], ?_⟩, cI.push hn0 _, by simp⟩
 · simp only [aGO, bA, H.pushK_eq]; rfl
 · have := cU.pushed (h := h) (L := bT s) (pl := false); rw [hl] at this; exact this
def fU (s : Ln) (n : Nat) : Ln := s ++ List.replicate (n - s.length) 0
def xO (s : Ln) (at_ : Nat) (t : Ln) : Ln := (fU s (max s.length (at_ + t.length))).take at_ ++ t ++ (fU s (max s.length (at_ + t.length))).drop (at_ + t.length)
theorem kO {s : Ln} {n : Nat} (h : s.length <= n) : (fU s n).length = n := by unfold fU; simp; omega
theorem qM (s t : Ln) (at_ : Nat) : (xO s at_ t).length = max s.length (at_ + t.length) := by
 have := kO (s := s) (n := max s.length (at_ + t.length)) (by omega)
 unfold xO; simp only [List.length_append, List.length_take, List.length_drop, this]; omega
theorem uV {s : Ln} (h : bF s = true) (n : Nat) : bF (fU s n) = true := cW h (aCE _)
theorem yP {s : Ln} (h : bF s = true) (n : Nat) : bF (s.take n) = true := by
 rw [gH] at h ⊢; intro b hb; exact h b (List.mem_of_mem_take hb)
theorem yQ {s : Ln} (h : bF s = true) (n : Nat) : bF (s.drop n) = true := by
 rw [gH] at h ⊢; intro b hb; exact h b (List.mem_of_mem_drop hb)
theorem aEp {s t : Ln} (hs : bF s = true) (ht : bF t = true) (a : Nat) : bF (xO s a t) = true :=
 cW (cW (yP (uV hs _) _) ht) (yQ (uV hs _) _)
theorem eB (s t : Ln) : bT (s ++ t) = bT s ++ bT t := by simp [bT]
theorem aMd (s : Ln) (n : Nat) : bT (s.take n) = (bT s).take n := by simp [bT, List.map_take]
theorem aMe (s : Ln) (n : Nat) : bT (s.drop n) = (bT s).drop n := by simp [bT, List.map_drop]
theorem bQ (s : Ln) : (bT s).length = s.length := by simp [bT]
theorem aAY (n : Nat) : bT (List.replicate n 0) = List.replicate n (eM 0) := by simp [bT]
theorem aOu (s : Ln) (j x : Nat) : bT (s.set j x) = (bT s).set j (eM x) := by simp [bT, List.map_set]
theorem dI (k : IntKind) (a b : Nat) : eF (.int k (.ofNat a)) (.int k (.ofNat b)) = some (.bool (decide (b < a))) := by rw [aBq, aUr]
theorem aP (k : IntKind) (a b : Nat) : cT (.int k (.ofNat a)) (.int k (.ofNat b)) = some (.bool (decide (a < b))) := by rw [fP, aUr]
theorem fO {a b : Nat} (h : b <= a) (ha : a < 9223372036854775808) : fA (.int .i64 (.ofNat a)) (.int .i64 (.ofNat b)) = some (.int .i64 (.ofNat (a - b))) := by
 rw [aBk, show Int.ofNat a - Int.ofNat b = Int.ofNat (a - b) from by simp only [Int.ofNat_eq_natCast]; omega, wrap_i64 (by omega)]
theorem bW {a b : Nat} (h : a + b < 9223372036854775808) : bJ (.int .i64 (.ofNat a)) (.int .i64 (.ofNat b)) = some (.int .i64 (.ofNat (a + b))) := by
 rw [aBr, show Int.ofNat a + Int.ofNat b = Int.ofNat (a + b) from rfl, wrap_i64 h]
theorem aBn (k : IntKind) {a : Int} (h : a < 0) : cT (.int k a) (.int k (.ofNat 0)) = some (.bool true) := by
 rw [fP]; simp [h]
theorem aMX {b o n : Nat} {op : Bool} {j : Nat} (h : j <= n) (k : IntKind) : dK 1 (.slc b o n n op) (some (.int k (.ofNat j))) none = some (if j < n then .slc b (o + j) (n - j) (n - j) op else if op then .slE b o (o + j) else .slc b o 0 0 false) := by
 simp only [dK, dF, dHi, dLo]; rw [Nat.ble_eq_true_of_le (Nat.le_refl n), cond_true, Nat.ble_eq_true_of_le h, cond_true]; simp only [bA, Nat.mul_one]; by_cases hj : j < n
 · rw [dQ hj, if_pos hj]; rfl
 · rw [if_neg hj, show Nat.blt j n = false from iY (by omega)]
   cases op <;> rfl
def aFu : cE := λ args h => match args with
 | [] => some (.bool true, h)
 | _ => none
theorem aNd {P : Program} {B : bO} {T : Tr (bO -> cE)} {f : FuncId} {s : bO -> cE} (hB : kX P B) (hT : aHo P T) (hf : T.at_ f = some s) {n : Nat} (hrun : (s (SE B T n) [] H0).map (·.1) = some (.bool true)) : fX P f aFu := by
 refine aKI λ args hh v h' hr => ?_
 unfold aFu at hr; split at hr
 · cases hr; refine ⟨rfl, λ m args' w ht => ?_⟩
   simp only [trs, Option.some.injEq] at ht; subst ht; exact ⟨.bool true, rfl, (aMb hB hT hf (args := []) (args' := []) rfl hrun w)⟩
 · cases hr
def cZ (l : List (Ln)) : List DV := l.map DV.str
theorem strsV_append (a b : List (Ln)) : cZ (a ++ b) = cZ a ++ cZ b := by simp [cZ]
theorem bP (l : List (Ln)) : (cZ l).length = l.length := by simp [cZ]
theorem lP {l : List (Ln)} {j : Nat} {s : Ln} (h : l[j]? = some s) : (cZ l)[j]? = some (.str s) := by simp [cZ, h]
theorem cK.keep {n0 n1 : Nat} {h h' : H} {v : DV} {L : List DV} (o : cK n0 h v L) (k : cI n1 h h') (hn : h.size <= n1) : cK n0 h' v L := by
 rcases o with o | ⟨b, hb, e, hlt, pl, t, g1, g2⟩
 · exact .inl o
 · exact .inr ⟨b, hb, e, Nat.lt_of_lt_of_le hlt k.size, pl, t, by rw [k.get b (by omega)]; exact g1, g2⟩
theorem cK.mono {n0 n1 : Nat} {h : H} {v : DV} {L : List DV} (o : cK n0 h v L) (hn : n1 <= n0) : cK n1 h v L := by
 rcases o with o | ⟨b, hb, e⟩
 · exact .inl o
 · exact .inr ⟨b, by omega, e⟩
theorem gF {s t : Ln} (h : s.length + t.length < gQ) : bJ (.str s) (.str t) = some (.str (s ++ t)) := by
 show (bif Nat.blt (s.length + t.length) gQ then xQ (s ++ t) else none) = _; rw [dQ h, hU]; rfl
theorem aNL (n : Nat) : gL [0] n = List.replicate n 0 := by
 induction n with
 | zero => rfl
 | succ n ih => rw [List.replicate_succ, <- ih]; rfl
theorem aJZ (n : Nat) (hn : n <= 140737488355328) (h : H) : sG [.str [0], .int .i64 (.ofNat n)] h = some (.str (List.replicate n 0), h) := by
 show (bif Nat.ble n 9223372036854775807 && Nat.ble (([0] : Ln).length * n) 140737488355328 then (xQ (gL [0] n)).map λ v => (v, h) else none) = _
 rw [Nat.ble_eq_true_of_le (by omega), Nat.ble_eq_true_of_le (by simp; omega), hU, aNL]; rfl
end Go.DI
namespace Go.DI
open Go.RowKit
theorem lR {α : Type} {l : List α} {j : Nat} {x : α} (h : l[j]? = some x) : j < l.length := by
 rcases Nat.lt_or_ge j l.length with h1 | h1
 · exact h1
 · rw [List.getElem?_eq_none h1] at h; cases h
def dL (h : H) (v : DV) (L : List DV) : Prop :=
 (L = [] /\ (v = .nils \/ ∃ b o o2, v = .slE b o o2)) \/ ∃ b o c op, v = .slc b o L.length c op /\ L.length <= c /\ b < h.size /\ ∀ j x, L[j]? = some x -> rdCell h.get b (o + j) = some x
section
variable {h h' : H} {v : DV} {L : List DV}
theorem dL.nil (h : H) : dL h .nils [] := .inl ⟨rfl, .inl rfl⟩
theorem dL.len (r : dL h v L) : bX v = some (.int .i64 (.ofNat L.length)) := by
 rcases r with ⟨rfl, rfl | ⟨b, o, o2, rfl⟩⟩ | ⟨b, o, c, op, rfl, _⟩ <;> rfl
theorem dL.grown (r : dL h v L) (g : aJ h h') : dL h' v L := by
 rcases r with r | ⟨b, o, c, op, e, hc, hb, hx⟩
 · exact .inl r
 · exact .inr ⟨b, o, c, op, e, hc, Nat.lt_of_lt_of_le hb g.size, λ j x hj => by rw [lQ (g.get b hb)]; exact hx j x hj⟩
theorem aTr {b o n c j : Nat} {op : Bool} (hj : j < n) (k : IntKind) : bR 1 (.slc b o n c op) (.int k (.ofNat j)) = some (.ptr b (o + j)) := by
 simp only [bR, rB, bA]; rw [dQ hj]; simp
theorem dL.at (r : dL h v L) {j : Nat} {x : DV} (hj : L[j]? = some x) (k : IntKind) : ∃ b o, bR 1 v (.int k (.ofNat j)) = some (.ptr b o) /\ aG h.get (.ptr b o) = some x := by
 rcases r with ⟨rfl, _⟩ | ⟨b, o, c, op, rfl, _, _, hx⟩
 · cases hj
 · exact ⟨b, o + j, aTr (lR hj) k, by simp only [aG, cH]; exact hx j x hj⟩
theorem dL.srcLen (r : dL h v L) : srcLen v = some L.length := by
 rcases r with ⟨rfl, rfl | ⟨b, o, o2, rfl⟩⟩ | ⟨b, o, c, op, rfl, _⟩ <;> rfl
theorem dL.src (r : dL h v L) : dO 1 h.get v = some L := by
 rcases r with ⟨rfl, rfl | ⟨b, o, o2, rfl⟩⟩ | ⟨b, o, c, op, rfl, _, _, hx⟩
 · rfl
 · rfl
 · simp only [dO, Nat.mul_one]; exact lJ L o hx
theorem dL.cut (r : dL h v L) {l m : Nat} (hlm : l <= m) (hm : m <= L.length) (k k' : IntKind) :
   ∃ v', dK 1 v (some (.int k (.ofNat l))) (some (.int k' (.ofNat m))) = some v' /\ dL h v' ((L.take m).drop l) := by
 rcases r with ⟨rfl, hv⟩ | ⟨b, o, c, op, rfl, hc, hb, hx⟩
 · have h0 : m = 0 := by simpa using hm
   subst h0; have h1 : l = 0 := by omega
   subst h1; rcases hv with rfl | ⟨b, o, o2, rfl⟩
   · exact ⟨.nils, rfl, by simpa using dL.nil h⟩
   · exact ⟨.slE b o o2, rfl, .inl ⟨by simp, .inr ⟨b, o, o2, rfl⟩⟩⟩
 · simp only [dK, dF, dHi, dLo]; rw [Nat.ble_eq_true_of_le (show m <= c by omega), cond_true, Nat.ble_eq_true_of_le hlm, cond_true]
   simp only [bA, Nat.mul_one]; have hlen : ((L.take m).drop l).length = m - l := by simp; omega
   by_cases hl : l < c
   · rw [dQ hl, cond_true]; refine ⟨_, rfl, .inr ⟨b, o + l, c - l, op, by rw [hlen], by rw [hlen]; omega, hb, λ j x hj => ?_⟩⟩
     rw [List.getElem?_drop, List.getElem?_take] at hj; split at hj
     · rw [Nat.add_assoc]; exact hx _ _ hj
     · cases hj
   · have hl2 : l = m := by omega
     have he : (L.take m).drop l = [] := List.eq_nil_of_length_eq_zero (by omega)
     rw [show Nat.blt l c = false from iY (by omega), cond_false, he]
     cases op
     · exact ⟨_, rfl, .inr ⟨b, o, 0, false, rfl, Nat.le_refl _, hb, λ j x hj => by cases hj⟩⟩
     · exact ⟨_, rfl, .inl ⟨rfl, .inr ⟨b, o, _, rfl⟩⟩⟩
theorem dL.cutTo (r : dL h v L) {m : Nat} (hm : m <= L.length) (k : IntKind) : ∃ v', dK 1 v none (some (.int k (.ofNat m))) = some v' /\ dL h v' (L.take m) := by
 obtain ⟨v', e, r'⟩ := r.cut (l := 0) (Nat.zero_le m) hm .i64 k; exact ⟨v', by rw [<- e]; cases v <;> rfl, by simpa using r'⟩
end
theorem cU.row {h : H} {b : Nat} {L : List DV} (hb : cU h b L) (op : Bool) : dL h (.slc b 0 L.length L.length op) L :=
 .inr ⟨b, 0, _, op, rfl, Nat.le_refl _, hb.1, λ j x hj => by rw [Nat.zero_add]; exact hb.rd hj⟩
theorem cK.row {n0 : Nat} {h : H} {v : DV} {L : List DV} (o : cK n0 h v L) : dL h v L := by
 rcases o with ⟨rfl, rfl⟩ | ⟨b, hb0, rfl, hb⟩
 · exact dL.nil h
 · exact hb.row true
theorem calls_true3 {P : Program} {B : bO} {T : Tr (bO -> cE)} {f : FuncId} {s : bO -> cE} (hB : kX P B) (hT : aHo P T) (hf : T.at_ f = some s) {n : Nat} {args : List DV} {args' : List Value} {m : Mp} {h : H} {w : World} (hw : cX w.heap.size w m h w) (hargs : trs m args = some args')
   (hrun : (s (SE B T n) args h).map (·.1) = some (.bool true)) :
   Calls P f args'.toArray w λ e w' => e = .returned (.bool true) /\ Below w.heap.size w w' := by
 cases hr : s (SE B T n) args h with
 | none => rw [hr] at hrun; cases hrun
 | some r =>
   obtain ⟨v, h'⟩ := r; rw [hr] at hrun; simp only [Option.map_some, Option.some.injEq] at hrun; subst hrun; refine ((hT.ok f s hf).2 _ (aQD hB hT n) w.heap.size w m h w args args' _ h' hr hargs hw).mono λ e w' hh => ?_
   obtain ⟨m', v', rfl, h2, h3, h4⟩ := hh; rw [jP h2]; exact ⟨rfl, h3.below⟩
def aXy (CL : List DV) : H := H0.push (.blk ⟨CL.length, 1, true, false, Tr.ofL CL⟩)
theorem xM (CL : List DV) : (aXy CL).size = 1 := rfl
theorem aMv (CL : List DV) : (aXy CL).get 0 = some (.blk ⟨CL.length, 1, true, false, Tr.ofL CL⟩) := by
 unfold aXy; rw [H.get_push]; rfl
theorem cX.startRow {w : World} {a : Addr} {len cap : Nat} {CL : List DV} {t : TypeId} {k : Nat} (ha : a.spot = none) (hs : w.shape? a.block = some (t, k)) (hlen : CL.length = 0 -> len = 0)
   (hc : ∀ j x, CL[j]? = some x -> ∃ v', tr (λ _ => none) x = some v' /\ w.cell? (a.add j) = some v') :
   ∃ m o, cX w.heap.size w m (aXy CL) w /\ tr m (.slc 0 o len cap false) = some (.slice (some a) len cap) /\ (CL ≠ [] -> o = 0) := by
 unfold World.shape? at hs; split at hs
 rotate_left
 · cases hs
 rename_i c el fr hh; have hlt : a.block < w.heap.size := by
   rcases Nat.lt_or_ge a.block w.heap.size with h1 | h1
   · exact h1
   · rw [Array.getElem?_eq_none (by simpa using h1)] at hh; cases hh
 obtain ⟨ab, ao, as⟩ := a; simp only [] at ha hh hlt; subst ha; have cellAt : ∀ j, w.cell? ((⟨ab, ao, none⟩ : Addr).add j) = c[ao + j]? := λ j => by
   rw [iA]; simp [World.cell?, hh]
 let i : sF := if CL = [] then ⟨ab, c.size, 0⟩ else ⟨ab, c.size - ao - CL.length, ao⟩
 let m : Mp := λ b => if b = 0 then some i else none
 have hir : i.r = ab := by by_cases h0 : CL = [] <;> simp [i, h0]
 have m_some : ∀ {b j}, m b = some j -> b = 0 /\ j = i := by
   intro b j e; simp only [m] at e; split at e
   · rename_i h0; cases e; exact ⟨h0, rfl⟩
   · cases e
 have mle : Mp.le (λ _ => none) m := λ _ _ e => by cases e
 refine ⟨m, if CL = [] then ao else 0, ?_, ?_, λ h => by rw [if_neg h]⟩
 · refine ⟨λ b j e => ?_, λ b j e => ?_, λ b b' j j' o o' e e' _ _ _ _ _ => ?_, Below.refl _ _, Nat.le_refl _, λ b hb => ?_⟩
   · obtain ⟨rfl, rfl⟩ := m_some e; exact ⟨by rw [xM]; omega, by rw [hir]; exact hlt⟩
   · obtain ⟨rfl, rfl⟩ := m_some e; refine ⟨_, aMv CL, ⟨⟨c, el, fr, by rw [hir]; exact hh, ?_, λ j hj => ?_⟩, (λ h => nomatch h), (λ h => nomatch h)⟩, (λ h => nomatch h)⟩
     · by_cases h0 : CL = []
       · simp [i, h0]
       · have hpos : 0 < CL.length := List.length_pos_iff.2 h0; obtain ⟨v', _, h2⟩ := hc (CL.length - 1) _ (List.getElem?_eq_getElem (by omega))
         rw [cellAt] at h2; have hlt2 : ao + (CL.length - 1) < c.size := by
           rcases Nat.lt_or_ge (ao + (CL.length - 1)) c.size with h3 | h3
           · exact h3
           · rw [Array.getElem?_eq_none (by simpa using h3)] at h2; cases h2
         simp only [i, h0, if_false]; omega
     · simp only [] at hj; have h0 : CL ≠ [] := by intro h0; subst h0; simp at hj
       obtain ⟨v', h1, h2⟩ := hc j _ (List.getElem?_eq_getElem hj); refine .inl ⟨_, v', by rw [Tr.at_ofL]; exact List.getElem?_eq_getElem hj, fC mle _ _ h1, ?_⟩
       rw [cellAt] at h2; simp only [i, h0, if_false]; exact h2
   · rw [(m_some e).1, (m_some e').1]
   · rw [xM] at hb; unfold aXy; rw [H.get_push, if_neg (show b ≠ H0.size from by show b ≠ 0; omega)]
     exact Tr.at_e b
 · simp only [tr, m, if_true]; by_cases h0 : CL = []
   · simp [i, h0]
   · simp [i, h0]
theorem aRN {a b : Nat} (hb : 0 < b) (ha : a < 9223372036854775808) : aPq (.int .i64 (.ofNat a)) (.int .i64 (.ofNat b)) = some (.int .i64 (.ofNat (a / b))) := by
 show (bif kEq .i64 .i64 then aQs .i64 (.ofNat a) (.ofNat b) else none) = _; rw [jG]; show (bif iEq (.ofNat b) 0 then none else jI .i64 ((Int.ofNat a).tdiv (.ofNat b))) = _; rw [tI, show ((Int.ofNat b) == 0) = false from by simp; omega, cond_false, jS]
 rw [show (Int.ofNat a).tdiv (.ofNat b) = .ofNat (a / b) from rfl, wrap_i64 (by have := Nat.div_le_self a b; omega)]
theorem aRQ (k : IntKind) (a b : Int) : nO (.int k a) (.int k b) = some (.bool (decide (b <= a))) := by
 show (bif kEq k k then aQx k a b else none) = _; rw [jG]; show eV (iLe b a) = _; rw [fN, aNX]
theorem aBo (k : IntKind) (a b : Int) : xU (.int k a) (.int k b) = some (.bool (decide (a <= b))) := by
 show (bif kEq k k then aQv k a b else none) = _; rw [jG]; show eV (iLe a b) = _; rw [fN, aNX]
theorem aIq (a b : Nat) : decide (Int.ofNat a <= Int.ofNat b) = decide (a <= b) := by
 rw [decide_eq_decide]; simp only [Int.ofNat_eq_natCast]; omega
theorem fQ (k : IntKind) (a b : Nat) : nO (.int k (.ofNat a)) (.int k (.ofNat b)) = some (.bool (decide (b <= a))) := by rw [aRQ, aIq]
theorem wF (k : IntKind) (a b : Nat) : xU (.int k (.ofNat a)) (.int k (.ofNat b)) = some (.bool (decide (a <= b))) := by rw [aBo, aIq]
theorem aAi (n : Int) : IntKind.u64.wrap n = n % 18446744073709551616 := by simp [IntKind.wrap, IntKind.bits, IntKind.signed]
theorem uE {n : Nat} (h : n < 18446744073709551616) : IntKind.u64.wrap (.ofNat n) = .ofNat n := by
 rw [aAi]; simp only [Int.ofNat_eq_natCast]; omega
theorem pJ (l : List (Ln)) (n : Nat) : (cZ l).take n = cZ (l.take n) := by simp [cZ, List.map_take]
theorem aRY (l : List (Ln)) : (cZ l).all DV.one = true := by
 rw [List.all_eq_true]; intro x hx; obtain ⟨s, _, rfl⟩ := List.mem_map.1 hx; rfl
theorem aJ.keeps {h h' : H} (g : aJ h h') {n : Nat} (hn : n <= h.size) : cI n h h' := ⟨g.size, λ c hc => g.get c (by omega)⟩
end Go.DI
namespace Go.DI
open Go.RowKit
theorem Trod_lt {H : Type} {enc : TypeId × Value -> H} {P : Program} {W : World} {base : Nat} {sp : Nat -> Bool} {held : Bool} {t : TypeId} {v : Value} {d : DataW H} {ps : List MemPlace} (h : DataW.Trod enc P W base sp held t v d ps) : ∀ x ∈ ps, x.block < W.heap.size := λ x hx => by
 obtain ⟨n, e⟩ := h; exact DataW.trod_lt n _ _ _ e x hx
theorem tr_str_any (m : Mp) (s : ByteArray) : tr m (.str (aNS s)) = some (.string s) := by simp [tr, toBA_ofBA, okStr_ofBA]
end Go.DI
namespace Go.DI
open Go.RowKit
def fE (n0 : Nat) (h : H) (v : DV) (L : List DV) : Prop := (v = .nils /\ L = []) \/
 ∃ b c pl t, n0 <= b /\ b < h.size /\ v = .slc b 0 L.length c true /\ L.length <= c /\ 0 < c /\ h.get b = some (.blk ⟨c, 1, false, pl, t⟩) /\ ∀ j x, L[j]? = some x -> t.at_ j = some x
theorem fE.nil (n0 : Nat) (h : H) : fE n0 h .nils [] := .inl ⟨rfl, rfl⟩
section
variable {n0 : Nat} {h h' : H} {v : DV} {L : List DV}
theorem fE.row (g : fE n0 h v L) : dL h v L := by
 rcases g with ⟨rfl, rfl⟩ | ⟨b, c, pl, t, hb0, hb, rfl, hc, hc0, hg, ht⟩
 · exact dL.nil h
 · exact .inr ⟨b, 0, c, true, rfl, hc, hb, λ j x hj => by rw [Nat.zero_add, jZ hg (Nat.lt_of_lt_of_le (lR hj) hc)]; exact ht j x hj⟩
theorem fE.keep {n1 : Nat} (g : fE n0 h v L) (k : cI n1 h h') (hn : h.size <= n1) : fE n0 h' v L := by
 rcases g with g | ⟨b, c, pl, t, hb0, hb, e, hc, hc0, hg, ht⟩
 · exact .inl g
 · exact .inr ⟨b, c, pl, t, hb0, Nat.lt_of_lt_of_le hb k.size, e, hc, hc0, by rw [k.get b (by omega)]; exact hg, ht⟩
theorem fE.cut (g : fE n0 h v L) {m : Nat} (hm : m <= L.length) (k : IntKind) : ∃ v', dK 1 v none (some (.int k (.ofNat m))) = some v' /\ fE n0 h v' (L.take m) := by
 rcases g with ⟨rfl, rfl⟩ | ⟨b, c, pl, t, hb0, hb, rfl, hc, hc0, hg, ht⟩
 · have : m = 0 := by simpa using hm
   subst this; exact ⟨.nils, rfl, by simpa using fE.nil n0 h⟩
 · refine ⟨.slc b 0 m c true, ?_, .inr ⟨b, c, pl, t, hb0, hb, by simp; omega, by simp; omega, hc0, hg, λ j x hj => ?_⟩⟩
   · simp only [dK, dF, dHi, dLo]; rw [Nat.ble_eq_true_of_le (show m <= c by omega), cond_true, Nat.ble_eq_true_of_le (Nat.zero_le _), cond_true, dQ hc0, cond_true]
     simp [bA]
   · rw [List.getElem?_take] at hj; split at hj
     · exact ht j x hj
     · cases hj
theorem fE.appendRow {x : DV} {new : List DV} {bytes : Nat} (g : fE n0 h v L) (hn0 : n0 <= h.size) (r : dL h x new) (h1 : new.all DV.one = true)
   (hs : (L.length + new.length) * bytes < aQ) (hs2 : L.length + new.length < aQ) : ∃ v' h', cA 1 bytes v x h = some (v', h') /\ fE n0 h' v' (L ++ new) /\ cI n0 h h' := by
 rcases g with ⟨rfl, rfl⟩ | ⟨b, c, pl, t, hb0, hb, rfl, hc, hc0, hg, ht⟩
 · by_cases hne : new = []
   · subst hne; refine ⟨.nils, h, ?_, fE.nil _ _, cI.refl _ _⟩; rw [eS]; simp only [fK, r.srcLen, r.src, Option.bind_some, List.length_nil]; rfl
   · have hpos : 0 < new.length := List.length_pos_iff.2 hne; refine ⟨.slc h.size 0 new.length new.length true, h.push (.blk ⟨new.length, 1, false, true, Tr.ofL new⟩), ?_, .inr ⟨h.size, new.length, true, Tr.ofL new, hn0, by simp, by simp, by simp, hpos, by rw [H.get_push, if_pos rfl], λ j y hj => by rw [Tr.at_ofL]; exact hj⟩, cI.push hn0 _⟩
     rw [eS]; simp only [fK, r.srcLen, r.src, Option.bind_some]; simp only [List.length_nil, Nat.zero_add] at hs hs2; rw [aBE (show new.length ≠ 0 by omega), dQ hs, dQ hs2]
     simp only [cond_false, Bool.and_self, cond_true, H.pushK_eq, Nat.mul_one]
 · rw [eS]; simp only [fK, r.srcLen, r.src, Option.bind_some, bA, Nat.zero_add, Nat.mul_one]; by_cases hfit : L.length + new.length <= c
   · rw [Nat.ble_eq_true_of_le hfit, cond_true]; obtain ⟨h1', t', f1, f2, f3, f4, f5⟩ := qS (h := h) (b := b) (o := L.length) (vs := new) hg rfl hfit h1; refine ⟨_, h1', by rw [f1]; rfl, .inr ⟨b, c, pl, t', hb0, by rw [f2]; exact hb, by simp, by simpa using hfit, hc0, f4, λ j y hj => ?_⟩, ⟨by rw [f2]; exact Nat.le_refl _, λ d hd => f3 d (by omega)⟩⟩
     rw [f5]; rcases Nat.lt_or_ge j L.length with h2 | h2
     · rw [if_neg (by omega)]
       rw [List.getElem?_append_left h2] at hj; exact ht j y hj
     · rw [List.getElem?_append_right h2] at hj; have := lR hj; rw [if_pos ⟨h2, by omega⟩]; exact hj
   · rw [iY hfit, cond_false, dQ hs, dQ hs2]; simp only [Bool.and_self, cond_true, hg, Nat.beq_refl, h1, Nat.ble_eq_true_of_le hc, Bool.not_false, aCP, Nat.mul_one, Option.bind_some, H.pushK_eq, H.putK_eq]; refine ⟨_, _, rfl, .inr ⟨h.size, L.length + new.length, false, Tr.ofF new L.length t, hn0, by simp, by simp, by simp, by omega, by rw [H.get_put, if_neg (by omega), H.get_push, if_pos rfl], λ j y hj => ?_⟩, ⟨by simp, λ d hd => by rw [H.get_put, if_neg (by omega), H.get_push, if_neg (by omega)]⟩⟩
     rw [Tr.at_ofF]; rcases Nat.lt_or_ge j L.length with h2 | h2
     · rw [if_neg (by omega)]
       rw [List.getElem?_append_left h2] at hj; exact ht j y hj
     · rw [List.getElem?_append_right h2] at hj; have := lR hj; rw [if_pos ⟨h2, by omega⟩]; exact hj
theorem fE.push1 {x z : DV} {bytes : Nat} (g : fE n0 h v L) (hn0 : n0 <= h.size) (h1 : x.one = true)
   (hs : (L.length + 1) * bytes < aQ) (hs2 : L.length + 1 < aQ) : ∃ v' h', (∀ (R : Type) (k : DV -> H -> Option R), (gO 1 1 [z] [(0, 1, x)] h λ y h' => wK (cA 1 bytes v y h') k) = k v' h') /\ fE n0 h' v' (L ++ [x]) /\ cI n0 h h' := by
 have hp : cU (h.push (.blk ⟨1 * 1, 1, false, true, Tr.ofL [x]⟩)) h.size [x] := cU.pushed (h := h) (L := [x]) (pl := true); have g' : fE n0 (h.push (.blk ⟨1 * 1, 1, false, true, Tr.ofL [x]⟩)) v L := g.keep (cI.push (Nat.le_refl _) _) (Nat.le_refl _); obtain ⟨v', h', f1, f2, f3⟩ := g'.appendRow (x := .slc h.size 0 1 1 false) (new := [x]) (bytes := bytes) (by rw [H.size_push]; omega) (hp.row false) (by simp [h1]) hs hs2
 refine ⟨v', h', λ R k => ?_, f2, (cI.push hn0 _).trans f3⟩
 have hf : hY (gL [z] 1) [(0, 1, x)] = some [x] := by
   have hc : x.cells = [x] := by cases x <;> first | rfl | cases h1
   simp [hY, gL, hc, uN]; rfl
 simp only [gO, hf, Option.bind_some, H.pushK_eq]; rw [f1]; rfl
end
end Go.DI
namespace Go.DI
open Go.RowKit
theorem fJ {R : Type} (l : List DV) (t : Bool) (op : (DV -> H -> Option R) -> Option R) (h : H) (k : DV -> H -> Option R) : bE (.tup l) t op h k = k (.tup []) h := id rfl
theorem aZ (a : DV) (l : List DV) : aI 0 (.tup (a :: l)) = some a := id rfl
theorem aY (a b : DV) (l : List DV) : aI 1 (.tup (a :: b :: l)) = some b := id rfl
theorem oO (a b c : DV) (l : List DV) : aI 2 (.tup (a :: b :: c :: l)) = some c := rfl
theorem aMW {s : Ln} {i j : Nat} (hi : i <= j) (hj : j <= s.length) (k k' : IntKind) : gX (.str s) (some (.int k (.ofNat i))) (some (.int k' (.ofNat j))) = some (.str ((s.take j).drop i)) := by
 simp only [gX, dF, dHi, dLo]; rw [Nat.ble_eq_true_of_le hj, cond_true, Nat.ble_eq_true_of_le hi, cond_true, hU]
theorem uG (k k' : IntKind) (a b : Nat) : aDd (.int k (.ofNat a)) (.int k' (.ofNat b)) = some (.int k (.ofNat (min a b))) := by
 simp only [aDd, mZ]
 congr 2
 by_cases h : b < a
 · rw [show decide (Int.ofNat b < Int.ofNat a) = true from by simp only [Int.ofNat_eq_natCast, decide_eq_true_iff]; omega]
   show Int.ofNat b = _; congr 1; omega
 · rw [show decide (Int.ofNat b < Int.ofNat a) = false from by simp only [Int.ofNat_eq_natCast, decide_eq_false_iff_not]; omega]
   show Int.ofNat a = _; congr 1; omega
theorem bY (k : IntKind) (a b : Nat) : dD (.int k (.ofNat a)) (.int k (.ofNat b)) = some (.bool (!decide (a = b))) := by
 rw [aRP]; congr 2; rw [Bool.eq_iff_iff]; simp only [bne_iff_ne, ne_eq, Int.ofNat_eq_natCast, Bool.not_eq_true', decide_eq_false_iff_not]; omega
theorem iI (s t : Ln) : dD (.str s) (.str t) = some (.bool (s != t)) := by
 show eV (!sEq s t) = _; rw [fN, sR]; rfl
end Go.DI
namespace Go.DI
open Go.RowKit
def bB (h : H) (b : Nat) (L : List DV) : Prop := b < h.size /\ ∃ es t, h.get b = some (.blk ⟨L.length, es, false, true, t⟩) /\ ∀ j x, L[j]? = some x -> t.at_ j = some x
section
variable {h h' : H} {b : Nat} {L : List DV}
theorem bB.rd (hb : bB h b L) {j : Nat} {x : DV} (hj : L[j]? = some x) : rdCell h.get b j = some x := by
 obtain ⟨hlt, es, t, h1, h2⟩ := hb; rw [jZ h1 (lR hj)]; exact h2 j x hj
theorem bB.read (hb : bB h b L) {j : Nat} {x : DV} (hj : L[j]? = some x) : aG h.get (.ptr b j) = some x := by
 simp only [aG, cH]; exact hb.rd hj
theorem bB.cells (hb : bB h b L) {o k : Nat} (hk : o + k <= L.length) : rdCells h.get b o k = some ((L.drop o).take k) := by
 have hl : ((L.drop o).take k).length = k := by simp; omega
 have := lJ (rd := h.get) (b := b) ((L.drop o).take k) o λ i v hi => hb.rd (by
   rw [List.getElem?_take] at hi; split at hi
   · rw [List.getElem?_drop] at hi; exact hi
   · cases hi)
 rw [hl] at this; exact this
theorem bB.readN (hb : bB h b L) {o k : Nat} (hk : o + k <= L.length) : aK k h.get (.ptr b o) = some (.agg ((L.drop o).take k)) := by
 simp only [aK, cC, hb.cells hk]; rfl
theorem bB.but (hb : bB h b L) {c : Nat} (hc : b ≠ c) (k : But c h h') : bB h' b L := by
 obtain ⟨hlt, es, t, h1, h2⟩ := hb; exact ⟨by rw [k.size]; exact hlt, es, t, by rw [k.get b hc]; exact h1, h2⟩
theorem bB.grown (hb : bB h b L) (g : aJ h h') : bB h' b L := by
 obtain ⟨hlt, es, t, h1, h2⟩ := hb; exact ⟨Nat.lt_of_lt_of_le hlt g.size, es, t, by rw [g.get b hlt]; exact h1, h2⟩
theorem bB.keep {n : Nat} (hb : bB h b L) (k : cI n h h') (hn : b < n) : bB h' b L := by
 obtain ⟨hlt, es, t, h1, h2⟩ := hb; exact ⟨Nat.lt_of_lt_of_le hlt k.size, es, t, by rw [k.get b hn]; exact h1, h2⟩
theorem bB.store (hb : bB h b L) {vs : List DV} {o : Nat} (hv : vs.all DV.one = true) (ho : o + vs.length <= L.length) :
   ∃ h', gU vs h b o = some h' /\ bB h' b (L.take o ++ vs ++ L.drop (o + vs.length)) /\ But b h h' := by
 obtain ⟨hlt, es, t, h1, h2⟩ := hb; obtain ⟨h', t', f1, f2, f3, f4, f5⟩ := qS (h := h) (b := b) (o := o) (vs := vs) h1 rfl ho hv; have hlen : (L.take o ++ vs ++ L.drop (o + vs.length)).length = L.length := by simp; omega
 refine ⟨h', f1, ⟨by rw [f2]; exact hlt, es, t', by rw [f4, hlen], λ j x hj => ?_⟩, ⟨f2, f3⟩⟩
 rw [f5]; have ht : (L.take o).length = o := by simp; omega
 by_cases hjo : o <= j /\ j < o + vs.length
 · rw [if_pos hjo]; rw [List.append_assoc, List.getElem?_append_right (by omega), ht, List.getElem?_append_left (by omega)] at hj
   exact hj
 · rw [if_neg hjo]; apply h2; rcases Nat.lt_or_ge j o with hlt | hge
   · rw [List.append_assoc, List.getElem?_append_left (by omega), List.getElem?_take, if_pos hlt] at hj
     exact hj
   · have hge2 : o + vs.length <= j := by
       rcases Nat.lt_or_ge j (o + vs.length) with h3 | h3
       · exact absurd ⟨hge, h3⟩ hjo
       · exact h3
     rw [List.getElem?_append_right (by simp only [List.length_append, ht]; omega), List.length_append, ht, List.getElem?_drop] at hj
     rw [show j = o + vs.length + (j - (o + vs.length)) from by omega]; exact hj
theorem xD {v : DV} (hv : v.one = true) : v.cells = [v] := by cases v <;> first | rfl | cases hv
theorem bB.set (hb : bB h b L) {j : Nat} {v : DV} (hv : v.one = true) (hj : j < L.length) :
   ∃ h', bU 1 (.ptr b j) v h = some (.tup [], h') /\ bB h' b (L.set j v) /\ But b h h' := by
 obtain ⟨h', f1, f2, f3⟩ := hb.store (vs := [v]) (o := j) (by simp [hv]) (by simp; omega)
 refine ⟨h', ?_, ?_, f3⟩
 · rw [aAV]; simp only [dSt, xD hv, List.length_singleton, Nat.beq_refl, cond_true, f1, Option.map_some]
 · have : L.take j ++ [v] ++ L.drop (j + [v].length) = L.set j v := by
     rw [List.set_eq_take_append_cons_drop, if_pos hj]; simp
   rw [<- this]; exact f2
theorem bB.setN (hb : bB h b L) {o n : Nat} {cs : List DV} (hn : cs.length = n) (hv : cs.all DV.one = true) (ho : o + n <= L.length) :
   ∃ h', bU n (.ptr b o) (.agg cs) h = some (.tup [], h') /\ bB h' b (L.take o ++ cs ++ L.drop (o + n)) /\ But b h h' := by
 subst hn; obtain ⟨h', f1, f2, f3⟩ := hb.store (vs := cs) (o := o) hv ho; refine ⟨h', ?_, f2, f3⟩; rw [aAV]; have : (DV.agg cs).cells = cs := rfl; simp only [dSt, this, Nat.beq_refl, cond_true, f1, Option.map_some]
theorem jN {R : Type} (cs : List DV) (h : H) (k : DV -> H -> Option R) : eC (.agg cs) h k = k (.ptr h.size 0) (h.push (.blk ⟨cs.length, cs.length, false, true, Tr.ofL cs⟩)) := by
 simp only [eC, bA, H.pushK_eq]; rfl
theorem wR {R : Type} {v : DV} (hv : v.one = true) (h : H) (k : DV -> H -> Option R) : eC v h k = k (.ptr h.size 0) (h.push (.blk ⟨1, 1, false, true, Tr.ofL [v]⟩)) := by
 simp only [eC, bA, H.pushK_eq, xD hv]; rfl
theorem bB.pushed {L : List DV} {es : Nat} : bB (h.push (.blk ⟨L.length, es, false, true, Tr.ofL L⟩)) h.size L :=
 ⟨by rw [H.size_push]; omega, es, _, by rw [H.get_push, if_pos rfl], λ j x hj => by rw [Tr.at_ofL]; exact hj⟩
end
@[simp] theorem bH (b o : Nat) : aL (.ptr b o) = some (.ptr b o) := id rfl
theorem aM (off b o : Nat) : aF off (.ptr b o) = some (.ptr b (o + off)) := by simp only [aF, bA]
theorem aGC {len es b o j : Nat} (hj : j < len) (k : IntKind) : lO len es (.ptr b o) (.int k (.ofNat j)) = some (.ptr b (o + j * es)) := by
 simp only [lO, rB, bA]; rw [dQ hj]; rfl
end Go.DI
namespace Go.DI
open Go.RowKit
theorem wE (k' : IntKind) {a b : Nat} (hb : b <= 64) : aDK (.int .u64 (.ofNat a)) (.int k' (.ofNat b)) = some (.int .u64 (.ofNat (a * 2 ^ b % 18446744073709551616))) := by
 show pT .shl .u64 (.ofNat a) (.ofNat b) = _; unfold pT; rw [show iLt (.ofNat b) 0 = false from by rw [mZ]; simp]
 simp only [cond_false, jS]; rw [show min (Int.ofNat b).toNat IntKind.u64.bits = b from by show min b 64 = b; omega, aAi]
 congr 2
theorem aRL {a : Nat} (ha : a < 9223372036854775808) (k' : IntKind) : xT (.int .i64 (.negSucc a)) (.int k' (.ofNat 63)) = some (.int .i64 (.negSucc 0)) := by
 show pT .shr .i64 (.negSucc a) (.ofNat 63) = _; unfold pT; rw [show iLt (.ofNat 63) 0 = false from by rw [mZ]; simp]
 simp only [cond_false, oW]; rw [show min (Int.ofNat 63).toNat IntKind.i64.bits = 63 from rfl]
 congr 2
 rw [Int.fdiv_eq_ediv_of_nonneg _ (by omega)]
 omega
theorem aTu {u : Nat} (h : u < 18446744073709551616) : aDO (.int .u64 (.ofNat u)) (.int .u64 (.ofNat 127)) = some (.int .u64 (.ofNat (u % 128))) := by
 have e : u &&& 127 = u % 128 := Nat.and_two_pow_sub_one_eq_mod u 7; rw [aRS .u64 u 127 (by show u < 2 ^ 64; omega) (by decide), e, uE (by omega)]
theorem aTq (k : IntKind) (a b : Nat) (ha : a < 2 ^ k.bits) (hb : b < 2 ^ k.bits) : aRO (.int k (.ofNat a)) (.int k (.ofNat b)) = some (.int k (k.wrap (.ofNat (a ||| b)))) := by
 show (bif kEq k k then bBO k (.ofNat a) (.ofNat b) else none) = _; rw [jG]; show (bif Nat.blt a (2 ^ k.bits) && Nat.blt b (2 ^ k.bits) then jI k (.ofNat (Nat.lor a b)) else _) = _; rw [dQ ha, dQ hb]; exact jS _ _
set_option maxRecDepth 100000 in
theorem bIh : ∀ x, x < 256 -> x ||| 128 = x % 128 + 128 := by decide
theorem aPs {x : Nat} (h : x < 256) : aRO (.int .u8 (.ofNat x)) (.int .u8 (.ofNat 128)) = some (eM (x % 128 + 128)) := by
 rw [aTq .u8 x 128 (by show x < 2 ^ 8; omega) (by decide), bIh x h]
 unfold eM; rw [wrap_u8 (by omega)]
theorem qT (u : Nat) (k : IntKind) : fB .u8 (.int k (.ofNat u)) = some (.int .u8 (.ofNat (u % 256))) := by
 rw [pF, IntKind.wrap_u8]
 congr 2
theorem rD {b : Nat} (h : b < 18446744073709551616) (k : IntKind) : fB .u64 (.int k (.ofNat b)) = some (.int .u64 (.ofNat b)) := by
 rw [pF, uE h]
theorem aHT {a b : Nat} (k k' : IntKind) (hb : b <= k.bits) : xT (.int k (.ofNat a)) (.int k' (.ofNat b)) = some (.int k (.ofNat (a / 2 ^ b))) := aRM k k' a b hb
theorem aKk {x : Nat} (h : x < 18446744073709551616) : x ^^^ 18446744073709551615 = 18446744073709551615 - x := by
 apply Nat.eq_of_testBit_eq; intro i; rw [Nat.testBit_xor, show 18446744073709551615 - x = 2 ^ 64 - (x + 1) from by omega, Nat.testBit_two_pow_sub_succ h, show 18446744073709551615 = 2 ^ 64 - 1 from rfl, Nat.testBit_two_pow_sub_one]
 by_cases hi : i < 64
 · simp [hi]
 · have : x.testBit i = false := Nat.testBit_lt_two_pow (Nat.lt_of_lt_of_le h (by
     show 2 ^ 64 <= 2 ^ i; exact Nat.pow_le_pow_right (by omega) (by omega)))
   simp [hi, this]
def zz (n : Int) : Nat := match n with
 | .ofNat a => 2 * a
 | .negSucc a => 2 * a + 1
theorem bHO {n : Int} (h1 : -9223372036854775808 <= n) (h2 : n < 9223372036854775808) : ∃ (x y z : DV), fB .u64 (.int .i64 n) = some x /\ aDK x (.int .u64 (.ofNat 1)) = some y /\ xT (.int .i64 n) (.int .u64 (.ofNat 63)) = some z /\
   ∃ w, fB .u64 z = some w /\ aDJ y w = some (.int .u64 (.ofNat (zz n))) := by
 cases n with
 | ofNat a =>
   simp only [Int.ofNat_eq_natCast] at h2; refine ⟨_, _, _, rD (by omega) _, wE _ (by omega), aHT _ _ (by decide), _, rD (by omega) _, ?_⟩
   have e1 : a * 2 ^ 1 % 18446744073709551616 = 2 * a := by omega
   have e2 : a / 2 ^ 63 = 0 := by omega
   rw [e1, e2, aBj .u64 _ _ (by show 2 * a < 2 ^ 64; omega) (by decide), Nat.xor_zero, uE (by omega)]; rfl
 | negSucc a =>
   have ha : a < 9223372036854775808 := by omega
   have e0 : IntKind.u64.wrap (.negSucc a) = .ofNat (18446744073709551615 - a) := by
     rw [aAi]; simp only [Int.ofNat_eq_natCast]; omega
   have e3 : IntKind.u64.wrap (.negSucc 0) = .ofNat 18446744073709551615 := by rw [aAi]; rfl
   refine ⟨.int .u64 (.ofNat (18446744073709551615 - a)), _, _, by rw [pF, e0], wE _ (by omega), aRL ha _, .int .u64 (.ofNat 18446744073709551615), by rw [pF, e3], ?_⟩
   have e1 : (18446744073709551615 - a) * 2 ^ 1 % 18446744073709551616 = 18446744073709551614 - 2 * a := by omega
   rw [e1, aBj .u64 _ _ (by show 18446744073709551614 - 2 * a < 2 ^ 64; omega) (by decide), aKk (by omega), uE (by omega)]
   have e5 : 18446744073709551615 - (18446744073709551614 - 2 * a) = 2 * a + 1 := by omega
   rw [e5]; rfl
theorem bAN {n : Int} (h1 : -9223372036854775808 <= n) (h2 : n < 9223372036854775808) : ∃ (x y : DV), fB .u64 (.int .i64 n) = some x /\ aDK x (.int .u64 (.ofNat 1)) = some y /\
   (0 <= n -> y = .int .u64 (.ofNat (zz n))) /\ (n < 0 -> aDJ y (.int .u64 (.ofNat 18446744073709551615)) = some (.int .u64 (.ofNat (zz n)))) := by
 cases n with
 | ofNat a =>
   simp only [Int.ofNat_eq_natCast] at h2; refine ⟨_, _, rD (by omega) _, wE _ (by omega), λ _ => ?_, λ h => absurd h (by simp only [Int.ofNat_eq_natCast]; omega)⟩
   have e1 : a * 2 ^ 1 % 18446744073709551616 = 2 * a := by omega
   rw [e1]; rfl
 | negSucc a =>
   have ha : a < 9223372036854775808 := by omega
   have e0 : IntKind.u64.wrap (.negSucc a) = .ofNat (18446744073709551615 - a) := by
     rw [aAi]; simp only [Int.ofNat_eq_natCast]; omega
   refine ⟨.int .u64 (.ofNat (18446744073709551615 - a)), _, by rw [pF, e0], wE _ (by omega), λ h => absurd h (by omega), λ _ => ?_⟩
   have e1 : (18446744073709551615 - a) * 2 ^ 1 % 18446744073709551616 = 18446744073709551614 - 2 * a := by omega
   rw [e1, aBj .u64 _ _ (by show 18446744073709551614 - 2 * a < 2 ^ 64; omega) (by decide), aKk (by omega), uE (by omega)]
   have e5 : 18446744073709551615 - (18446744073709551614 - 2 * a) = 2 * a + 1 := by omega
   rw [e5]; rfl
theorem cB {R : Type} {n es : Nat} (L : List DV) (h : H) (k : DV -> H -> Option R) : eD n es (.list L) h k = k (.ptr h.size 0) (h.push (.blk ⟨n, es, false, true, Tr.ofL L⟩)) := by
 simp only [eD, H.pushK_eq]; rfl
theorem oR (k : IntKind) (n : Int) : rcK (some (.int k n)) (.int k n) = true := by
 show qD (.int k n) (.int k n) = true; simp only [qD, Bool.and_eq_true]
 first | (constructor <;> simp) | simp
theorem aIh (s : Ln) : rcK (some (.str s)) (.str s) = true := by
 show qD (.str s) (.str s) = true; simp [qD]
theorem dH (rd : Rd) (b o : Nat) : dT .ptr false rd (.ptr b o) .nilp = some (.bool false) := rfl
theorem uH (rd : Rd) (b o : Nat) : dT .ptr true rd (.ptr b o) .nilp = some (.bool true) := rfl
def aRH (n0 : Nat) (h : H) (v : DV) (L : List DV) : Prop := cK n0 h v L \/
 ∃ b o B, v = .slc b o L.length L.length false /\ h.get b = some (.blk B) /\ ∀ j x, L[j]? = some x -> rdCell h.get b (o + j) = some x
theorem aRH.push1 {n0 : Nat} {h : H} {v x z : DV} {L : List DV} {bytes : Nat} (o : aRH n0 h v L) (hlt : ∀ b o n c op, v = .slc b o n c op -> b < h.size) (hn0 : n0 <= h.size) (h1 : x.one = true)
   (hs : (L.length + 1) * bytes < aQ) (hs2 : L.length + 1 < aQ) : ∃ v' h', (∀ (R : Type) (k : DV -> H -> Option R), (gO 1 1 [z] [(0, 1, x)] h λ y h' => wK (cA 1 bytes v y h') k) = k v' h') /\ cK n0 h' v' (L ++ [x]) /\ cI n0 h h' := by
 rcases o with o | ⟨b, off, B, rfl, hB, hc⟩
 · exact o.push1 hn0 h1 hs hs2
 · have hb := hlt b off _ _ _ rfl
   let h1' := h.push (.blk ⟨1 * 1, 1, false, true, Tr.ofL [x]⟩)
   have hp : cU h1' h.size [x] := cU.pushed (h := h) (L := [x]) (pl := true); have hB' : h1'.get b = some (.blk B) := by show (h.push _).get b = _; rw [H.get_push, if_neg (by omega)]; exact hB
   have hrow : rdCells h1'.get b off L.length = some L := lJ L off λ j y hj => by rw [lQ (hB'.trans hB.symm)]; exact hc j y hj
   have hf : hY (gL [z] 1) [(0, 1, x)] = some [x] := by simp [hY, gL, xD h1, uN]; rfl
   have hne : ¬ L.length + 1 <= L.length := by omega
   have hap : cA 1 bytes (.slc b off L.length L.length false) (.slc h.size 0 1 1 false) h1' = some (.slc h1'.size 0 (L.length + 1) (L.length + 1) true, h1'.push (.blk ⟨L.length + 1, 1, false, true, Tr.ofL (L ++ [x])⟩)) := by
     rw [eS]; have hx : dO 1 h1'.get (.slc h.size 0 1 1 false) = some [x] := by
       have := hp.cells_all
       simpa [dO] using this
     simp only [fK, srcLen, hx, Option.bind_some, bA, iY hne, cond_false, dQ hs, dQ hs2, Bool.and_self, cond_true, hB', Nat.mul_one, hrow, H.pushK_eq]
   refine ⟨.slc h1'.size 0 (L.length + 1) (L.length + 1) true, h1'.push (.blk ⟨L.length + 1, 1, false, true, Tr.ofL (L ++ [x])⟩), λ R k => ?_, .inr ⟨h1'.size, by show n0 <= h1'.size; rw [show h1'.size = h.size + 1 from rfl]; omega, ?_, ?_⟩, ?_⟩
   · simp only [gO, hf, Option.bind_some, H.pushK_eq]; show wK (cA 1 bytes (.slc b off L.length L.length false) (.slc h.size 0 1 1 false) h1') k = _; rw [hap]; rfl
   · simp
   · have := cU.pushed (h := h1') (L := L ++ [x]) (pl := true); rw [List.length_append] at this; exact this
   · exact (cI.push hn0 _).trans (cI.push (by show n0 <= h1'.size; rw [show h1'.size = h.size + 1 from rfl]; omega) _)
theorem cK.lt_size {n0 : Nat} {h : H} {v : DV} {L : List DV} (o : cK n0 h v L) : ∀ b o n c op, v = .slc b o n c op -> b < h.size := by
 intro b off n c op e; rcases o with ⟨rfl, _⟩ | ⟨b', _, rfl, hb⟩
 · cases e
 · cases e; exact hb.1
def aKc (h : H) (v : DV) (L : List DV) : Prop := aRH h.size h v L /\ ∀ b o n c op, v = .slc b o n c op -> b < h.size
theorem cK.appendStr {n0 : Nat} {h : H} {v : DV} {s : Ln} (o : cK n0 h v (bT s)) (hn0 : n0 <= h.size) (t : Ln) (hs : s.length + t.length <= 1000000) :
   ∃ v' h', cA 1 1 v (.str t) h = some (v', h') /\ cK n0 h' v' (bT (s ++ t)) /\ cI n0 h h' := by
 have e1 : (t.map λ b => DV.int .u8 (.ofNat b)) = bT t := rfl
 by_cases ht : t = []
 · subst ht; refine ⟨v, h, ?_, by simpa using o, cI.refl _ _⟩
   rw [eS]; rcases o with ⟨rfl, e⟩ | ⟨b, _, rfl, hb⟩
   · simp only [fK, srcLen, dO, bA, List.length_nil, Option.bind_some, Nat.beq_refl, cond_true]
   · simp only [fK, srcLen, dO, bA, List.length_nil, Option.bind_some, Nat.beq_refl, cond_true, Nat.add_zero, Nat.ble_eq_true_of_le (Nat.le_refl _)]; rfl
 · have := o.append (x := .str t) (new := bT t) (bytes := 1) hn0 (by simp only [srcLen, bA, bQ]) (by simp only [dO, Nat.beq_refl, cond_true, e1]) (rE t) (by intro e; exact ht (by simpa [bT] using e)) (by simp only [bQ]; unfold aQ; omega) (by simp only [bQ]; unfold aQ; omega)
   rw [eB]; exact this
theorem dL.text {h : H} {v : DV} {s : Ln} (r : dL h v (bT s)) (hok : bF s = true) : mO h.get v = some (.str s) := by
 have hs := r.src; rcases r with ⟨e, hv⟩ | ⟨b, o, c, op, rfl, _⟩
 · have : s = [] := by
     cases s with
     | nil => rfl
     | cons _ _ => cases e
   subst this; rcases hv with rfl | ⟨b, o, o2, rfl⟩ <;> rfl
 · simp only [dO, Nat.mul_one] at hs; rw [bQ] at hs ⊢; simp only [mO, cC, hs, Option.bind_some, vM hok, hU]
theorem aSw {R : Type} {z x : DV} (hx : x.one = true) (h : H) (k : DV -> H -> Option R) : gO 1 1 [z] [(0, 1, x)] h k = k (.slc h.size 0 1 1 false) (h.push (.blk ⟨1, 1, false, true, Tr.ofL [x]⟩)) := by
 have hf : hY (gL [z] 1) [(0, 1, x)] = some [x] := by simp [hY, gL, xD hx, uN]; rfl
 simp only [gO, hf, Option.bind_some, H.pushK_eq, Nat.mul_one]
theorem dL.one {h : H} {x : DV} : dL (h.push (.blk ⟨1, 1, false, true, Tr.ofL [x]⟩)) (.slc h.size 0 1 1 false) [x] := (cU.pushed (h := h) (L := [x]) (pl := true)).row false
theorem bB.all {h : H} {b n : Nat} {L : List DV} (hb : bB h b L) (hn : L.length = n) : aK n h.get (.ptr b 0) = some (.agg L) := by
 rw [hb.readN (by omega), List.drop_zero, List.take_of_length_le (by omega)]
theorem bB.setAll {h : H} {b n : Nat} {L cs : List DV} (hb : bB h b L) (hL : L.length = n) (hn : cs.length = n) (hv : cs.all DV.one = true) :
   ∃ h', bU n (.ptr b 0) (.agg cs) h = some (.tup [], h') /\ bB h' b cs /\ But b h h' := by
 obtain ⟨h', f1, f2, f3⟩ := hb.setN (o := 0) hn hv (by omega)
 refine ⟨h', f1, ?_, f3⟩; rw [List.take_zero, List.nil_append, Nat.zero_add, List.drop_of_length_le (by omega), List.append_nil] at f2
 exact f2
end Go.DI
end
