/- D once more, its registers a function; plain functions that are D's; functions told by what they compute; deferred closures that recover. No condition beyond the theorems' own. -/
import Derived.Recover
import Derived.SliceStrings
import Derived.SizedLaws
import Derived.WideShapes
import Derived.Lib.Join
import Derived.Test.YthpciaidbgjoeaaGreatDb
set_option linter.unusedVariables false
set_option linter.unusedSimpArgs false
noncomputable section
namespace Go.DI
open Go.RowKit
theorem eN.mono {P : Program} {f : FuncId} {F G : bB} (hF : eN P f F) (h : ∀ args h r, G args h = some r -> F args h = some r) : eN P f G :=
 λ N0 w0 m hh w args args' v h' hr ht hw => hF N0 w0 m hh w args args' v h' (h _ _ _ hr) ht hw
structure bX (h h' : H) : Prop where
 size : h.size <= h'.size
 get : ∀ b, b < h.size -> h'.get b = h.get b
theorem bX.refl (h : H) : bX h h := ⟨Nat.le_refl _, λ _ _ => rfl⟩
theorem bX.trans {a b c : H} (x : bX a b) (y : bX b c) : bX a c :=
 ⟨Nat.le_trans x.size y.size, λ i hi => (y.get i (Nat.lt_of_lt_of_le hi x.size)).trans (x.get i hi)⟩
theorem bX.push (h : H) (o : eH) : bX h (h.push o) := ⟨by simp, λ b hb => by rw [H.get_push, if_neg (by omega)]⟩
def rR (v : DV) : Prop := ∀ m m' : Mp, tr m v = tr m' v
theorem bC.forget {N0 : Nat} {w0 : World} {m m' : Mp} {h h' : H} {w w' : World} (hw : bC N0 w0 m h w) (hw' : bC N0 w0 m' h' w') (he : fE m h m' h') (hg : bX h h') : bC N0 w0 m h w' := by
 have hgb : ∀ b i, m b = some i -> h'.get b = h.get b := λ b i e => hg.get b (hw.lt b i e).1
 refine ⟨λ b i e => ⟨(hw.lt b i e).1, (hw'.lt b i (he.le b i e)).2⟩, λ b i e => ?_, hw.inj, hw'.below, hw'.base, hw.wf, hw.good⟩
 obtain ⟨o, g, r, n⟩ := hw.has b i e; obtain ⟨o', g', r', n'⟩ := hw'.has b i (he.le b i e); rw [hgb b i e, g] at g'; cases g'; refine ⟨o, g, ?_, n⟩; cases o with
 | blk B =>
   obtain ⟨⟨c, el, fr, h1, h2, h3⟩, _, _⟩ := r; obtain ⟨⟨c', el', fr', h1', h2', h3'⟩, hf', hp'⟩ := r'; refine ⟨⟨c', el', fr', h1', h2', λ j hj => ?_⟩, hf', hp'⟩
   rcases h3 j hj with ⟨v, v', a, b', d⟩ | hx
   · rcases h3' j hj with ⟨u, u', a', b'', d'⟩ | ⟨_, hx⟩
     · rw [a] at a'; cases a'; rw [eO he.le _ _ b'] at b''; cases b''; exact .inl ⟨v, v', a, b', d'⟩
     · rw [a] at hx; cases hx
   · exact .inr hx
 | dead => trivial
 | map ds clock =>
   obtain ⟨es, h1, h2⟩ := r; obtain ⟨es', h1', h2'⟩ := r'; refine ⟨es', h1', ?_⟩; have same : ∀ {ds : List dL} {es es' : List MapEntry}, cV m ds es -> cV m' ds es' -> cV m ds es' := by
     intro ds
     induction ds with
     | nil => intro es es' a b; cases es' <;> first | trivial | exact b.elim
     | cons d ds ih =>
       intro es es' a b; cases es with
       | nil => exact a.elim
       | cons e es =>
         cases es' with
         | nil => exact b.elim
         | cons e' es' =>
           refine ⟨⟨?_, ?_, b.1.2.2⟩, ih a.2 b.2⟩
           · have := eO he.le _ _ a.1.1; rw [b.1.1] at this; rw [a.1.1, this]
           · have := eO he.le _ _ a.1.2.1; rw [b.1.2.1] at this; rw [a.1.2.1, this]
   exact same h2 h2'
 | iter b since seen last =>
   obtain ⟨hs, j, h0, h1, h2⟩ := r; obtain ⟨hs', j', h0', h1', h2'⟩ := r'; have := he.le _ _ h0; rw [h0'] at this; cases this; exact ⟨hs, _, h0, h1', h2⟩
theorem eN.forget {P : Program} {f : FuncId} {F G : bB} (hF : eN P f F)
   (hG : ∀ args h v h', G args h = some (v, h') -> h' = h /\ rR v /\ ∃ h1, F args h = some (v, h1) /\ bX h h1) : eN P f G := by
 intro N0 w0 m h w args args' v h' hr ht hw; obtain ⟨rfl, hv, h1, h2, h3⟩ := hG _ _ _ _ hr; refine (hF N0 w0 m h' w args args' v h1 h2 ht hw).mono λ e w' hh => ?_
 obtain ⟨m', v', e1, e2, e3, e4⟩ := hh; exact ⟨m, v', e1, by rw [hv m m']; exact e2, hw.forget e3 e4 h3, fE.refl _ _⟩
theorem rR.int (k : IntKind) (n : Int) : rR (.int k n) := λ _ _ => rfl
theorem rR.str (s : Ln) : rR (.str s) := λ _ _ => rfl
theorem rR.tup2 {a b : DV} (ha : rR a) (hb : rR b) : rR (.tup [a, b]) := λ m m' => by simp only [tr, trs, ha m m', hb m m']
end Go.DI
namespace Go.DI
open Go.RowKit
section
variable {R : Type}
def vK (o : Option DV) (k : DV -> Option R) : Option R := Option.rec (motive := λ _ => Option R) none k o
def wK (o : Option (DV × H)) (k : DV -> H -> Option R) : Option R := Option.rec (motive := λ _ => Option R) none (λ x => Prod.rec (motive := λ _ => Option R) k x) o
def bK (x : DV) (a b : Option R) : Option R := match x with
 | .bool c => Bool.rec b a c
 | _ => none
def gK (x : DV) (t : Bool) (a b : Option R) : Option R := match x with
 | .bool c => Bool.rec (Bool.rec a b t) (Bool.rec b a t) c
 | _ => b
def zS (o : Option DV) (v : DV) : Bool := Option.rec (motive := λ _ => Bool) false (λ u => iB u v) o
theorem aWS (o : Option DV) (k : DV -> Option R) : vK o k = o.bind k := by cases o <;> rfl
theorem aWQ (o : Option (DV × H)) (k : DV -> H -> Option R) : wK o k = o.bind λ x => k x.1 x.2 := by cases o <;> rfl
end
theorem mK (n a : Nat) (ha : a < 2 ^ n) : (BitVec.ofInt n (Int.ofNat a)).toNat = a := by
 rw [BitVec.toNat_ofInt]; have h2 : (Int.ofNat a) % ((2 ^ n : Nat) : Int) = (a : Int) := by
   rw [Int.ofNat_eq_natCast, <- Int.natCast_emod, Nat.mod_eq_of_lt ha]
 have h3 : ∀ z : Int, z = ((2 ^ n : Nat) : Int) -> ((Int.ofNat a) % z).toNat = a := by
   intro z hz; rw [hz, h2]; rfl
 exact h3 _ (by simp)
def fb (f : Nat -> Nat -> Nat) (s : IntKind -> Int -> Int -> Option DV) (k : IntKind) (x y : Int) : Option DV :=
 Int.rec (motive := λ _ => Option DV) (λ a => Int.rec (motive := λ _ => Option DV) (λ b => bif Nat.blt a (2 ^ k.bits) && Nat.blt b (2 ^ k.bits) then gJ k (.ofNat (f a b)) else s k x y) (λ _ => s k x y) y) (λ _ => s k x y) x
theorem aOr {f : Nat -> Nat -> Nat} {s : IntKind -> Int -> Int -> Option DV} {k : IntKind} (h : ∀ a b, a < 2 ^ k.bits -> b < 2 ^ k.bits -> s k (.ofNat a) (.ofNat b) = gJ k (.ofNat (f a b))) (x y : Int) : fb f s k x y = s k x y := by
 cases x with
 | negSucc a => rfl
 | ofNat a =>
   cases y with
   | negSucc b => rfl
   | ofNat b =>
     show (bif Nat.blt a (2 ^ k.bits) && Nat.blt b (2 ^ k.bits) then gJ k (.ofNat (f a b)) else s k (.ofNat a) (.ofNat b)) = _; cases hb : (Nat.blt a (2 ^ k.bits) && Nat.blt b (2 ^ k.bits)) with
     | false => rfl
     | true =>
       rw [Bool.and_eq_true, Nat.blt_eq, Nat.blt_eq] at hb; exact (h a b hb.1 hb.2).symm
def aJx : IntKind -> Int -> Int -> Option DV := fb Nat.land aKc
def aVd : IntKind -> Int -> Int -> Option DV := fb Nat.lor aWf
def aFo : IntKind -> Int -> Int -> Option DV := fb Nat.xor aJT
theorem aOw (k : IntKind) (x y : Int) : aJx k x y = aKc k x y := aOr (λ a b ha hb => by
 unfold aKc lH; rw [BitVec.toNat_and, mK _ _ ha, mK _ _ hb]; rfl) x y
theorem aVc (k : IntKind) (x y : Int) : aVd k x y = aWf k x y := aOr (λ a b ha hb => by
 unfold aWf lH; rw [BitVec.toNat_or, mK _ _ ha, mK _ _ hb]; rfl) x y
theorem aOv (k : IntKind) (x y : Int) : aFo k x y = aJT k x y := aOr (λ a b ha hb => by
 unfold aJT lH; rw [BitVec.toNat_xor, mK _ _ ha, mK _ _ hb]; rfl) x y
def qI (f : IntKind -> Int -> Int -> Option DV) (g : Ln -> Ln -> Option DV) (a b : DV) : Option DV := match a, b with
 | .int k x, .int k' y => bif kEq k k' then f k x y else none
 | .str s, .str t => g s t
 | _, _ => none
def rM (s t : Ln) : Option DV := none
def aWZ (s t : Ln) : Option DV := bif Nat.blt (s.length + t.length) mW then pI (s ++ t) else none
def aWY (s t : Ln) : Option DV := dM (sEq s t)
def aWT (s t : Ln) : Option DV := dM (!sEq s t)
def aWU (s t : Ln) : Option DV := dM (sLt s t)
def aWV (s t : Ln) : Option DV := dM (sLt s t || sEq s t)
def aWW (s t : Ln) : Option DV := dM (!(sLt s t || sEq s t))
def aWX (s t : Ln) : Option DV := dM (!sLt s t)
def aWd (op : BinOp) (a b : DV) : Option DV := match a, b with
 | .int k x, .int _ y => kK op k x y
 | _, _ => none
def bL : DV -> DV -> Option DV := qI aKd aWZ
def jO : DV -> DV -> Option DV := qI aJU rM
def mR : DV -> DV -> Option DV := qI aJW rM
def aNf : DV -> DV -> Option DV := qI aPA rM
def aNe : DV -> DV -> Option DV := qI aPz rM
def nR : DV -> DV -> Option DV := qI aJx rM
def aBm : DV -> DV -> Option DV := qI aVd rM
def nM : DV -> DV -> Option DV := qI aFo rM
def pM : DV -> DV -> Option DV := aWd .shl
def jP : DV -> DV -> Option DV := aWd .shr
def aNh : DV -> DV -> Option DV := qI aAQ rM
def bV : DV -> DV -> Option DV := qI aKb aWY
def cW : DV -> DV -> Option DV := qI aJV aWT
def bF : DV -> DV -> Option DV := qI aJX aWU
def rT : DV -> DV -> Option DV := qI aJY aWV
def dA : DV -> DV -> Option DV := qI aJZ aWW
def dZ : DV -> DV -> Option DV := qI aKa aWX
def aIP (op : BinOp) : DV -> DV -> Option DV :=
 BinOp.rec (motive := λ _ => DV -> DV -> Option DV) bL jO mR aNf aNe nR aBm nM pM jP aNh bV cW bF rT dA dZ op
theorem gS {op : BinOp} (hs : kR op = false) {f : IntKind -> Int -> Int -> Option DV} {g : Ln -> Ln -> Option DV} (hf : ∀ k x y, f k x y = mZ op k x y) (hg : ∀ s t, g s t = mY op s t) (a b : DV) : qI f g a b = vB op a b := by
 cases a <;> cases b <;> first | rfl | (simp only [qI, vB, aOa, hs, cond_false, hf, hg])
theorem aJQ {op : BinOp} (hs : kR op = true) (hg : ∀ s t, mY op s t = none) (a b : DV) : aWd op a b = vB op a b := by
 cases a <;> cases b <;> first | rfl | (simp only [aWd, vB, hs, cond_true, hg])
theorem aNg (op : BinOp) (a b : DV) : aIP op a b = vB op a b := by
 cases op
 · exact gS (op := .add) (f := aKd) (g := aWZ) rfl (λ k x y => by show gJ k (aOf x y) = gJ k (x + y); rw [aDb]) (λ _ _ => rfl) a b
 · exact gS (op := .sub) (f := aJU) (g := rM) rfl (λ _ _ _ => rfl) (λ _ _ => rfl) a b
 · exact gS (op := .mul) (f := aJW) (g := rM) rfl (λ _ _ _ => rfl) (λ _ _ => rfl) a b
 · exact gS (op := .quo) (f := aPA) (g := rM) rfl (λ _ _ _ => rfl) (λ _ _ => rfl) a b
 · exact gS (op := .rem) (f := aPz) (g := rM) rfl (λ _ _ _ => rfl) (λ _ _ => rfl) a b
 · exact gS (op := .and) (f := aJx) (g := rM) rfl (λ k x y => aOw k x y) (λ _ _ => rfl) a b
 · exact gS (op := .or) (f := aVd) (g := rM) rfl (λ k x y => aVc k x y) (λ _ _ => rfl) a b
 · exact gS (op := .xor) (f := aFo) (g := rM) rfl (λ k x y => aOv k x y) (λ _ _ => rfl) a b
 · exact aJQ (op := .shl) rfl (λ _ _ => rfl) a b
 · exact aJQ (op := .shr) rfl (λ _ _ => rfl) a b
 · exact gS (op := .andNot) (f := aAQ) (g := rM) rfl (λ _ _ _ => rfl) (λ _ _ => rfl) a b
 · exact gS (op := .eql) (f := aKb) (g := aWY) rfl (λ _ _ _ => rfl) (λ _ _ => rfl) a b
 · exact gS (op := .neq) (f := aJV) (g := aWT) rfl (λ _ _ _ => rfl) (λ _ _ => rfl) a b
 · exact gS (op := .lss) (f := aJX) (g := aWU) rfl (λ _ _ _ => rfl) (λ _ _ => rfl) a b
 · exact gS (op := .leq) (f := aJY) (g := aWV) rfl (λ _ _ _ => rfl) (λ _ _ => rfl) a b
 · exact gS (op := .gtr) (f := aJZ) (g := aWW) rfl (λ _ _ _ => rfl) (λ _ _ => rfl) a b
 · exact gS (op := .geq) (f := aKa) (g := aWX) rfl (λ _ _ _ => rfl) (λ _ _ => rfl) a b
def uK (rd : Rd) (b j : Nat) : Option DV := match rd b with
 | some (.blk B) => bif Nat.blt j B.n then B.t.at_ j else none
 | _ => none
theorem bM (rd : Rd) (b j : Nat) : uK rd b j = rdCell rd b j := by
 unfold uK rdCell; cases rd b with
 | none => rfl
 | some o =>
   cases o with
   | blk B =>
     show (bif Nat.blt j B.n then B.t.at_ j else none) = if j < B.n then B.t.at_ j else none
     by_cases h : j < B.n
     · rw [if_pos h, show Nat.blt j B.n = true from by rw [Nat.blt_eq]; exact h]; rfl
     · rw [if_neg h, show Nat.blt j B.n = false from by rw [Bool.eq_false_iff, ne_eq, Nat.blt_eq]; exact h]; rfl
   | dead => rfl
   | map a b => rfl
   | iter a b c d => rfl
def aOg (t : Tr DV) (n : Nat) : Nat -> Option (List DV) :=
 Nat.rec (motive := λ _ => Nat -> Option (List DV)) (λ _ => some []) (λ _ ih j => Option.rec (motive := λ _ => Option (List DV)) none (λ v => cJ (Nat.succ j) λ j => Option.rec (motive := λ _ => Option (List DV)) none (λ vs => some (v :: vs)) (ih j)) (t.at_ j)) n
theorem aFe {rd : Rd} {b : Nat} {B : Blk} (h : rd b = some (.blk B)) : ∀ (n j : Nat), j + n <= B.n -> aOg B.t n j = rdCells rd b j n
 | 0, j, _ => rfl
 | n + 1, j, hl => by
   show Option.rec (motive := λ _ => Option (List DV)) none (λ v => cJ (Nat.succ j) λ j => Option.rec (motive := λ _ => Option (List DV)) none (λ vs => some (v :: vs)) (aOg B.t n j)) (B.t.at_ j) = _
   simp only [aR, rdCells]; rw [aFe h n (j + 1) (by omega)]
   have e : rdCell rd b j = B.t.at_ j := by simp only [rdCell, h]; rw [if_pos (by omega)]
   rw [e]; cases B.t.at_ j with
   | none => rfl
   | some v => cases rdCells rd b (j + 1) n <;> rfl
theorem oS {rd : Rd} {b : Nat} : ∀ (n j : Nat), (∀ B, rd b = some (.blk B) -> B.n < j + n) -> 0 < n -> rdCells rd b j n = none
 | 0, j, _, h => absurd h (by omega)
 | n + 1, j, hb, _ => by
   simp only [rdCells]; cases hc : rdCell rd b j with
   | none => rfl
   | some v =>
     have : 0 < n := by
       unfold rdCell at hc; split at hc
       · rename_i B hB; split at hc
         · have := hb B hB; omega
         · cases hc
       · cases hc
     rw [oS n (j + 1) (λ B hB => by have := hb B hB; omega) this]
def jS (rd : Rd) (b j n : Nat) : Option (List DV) := bif Nat.beq n 0 then some [] else match rd b with
 | some (.blk B) => bif Nat.ble (j + n) B.n then aOg B.t n j else none
 | _ => none
theorem bJ (rd : Rd) (b j n : Nat) : jS rd b j n = rdCells rd b j n := by
 unfold jS; by_cases h0 : n = 0
 · subst h0; rfl
 · rw [show Nat.beq n 0 = false from by cases h : Nat.beq n 0; rfl; exact absurd (Nat.eq_of_beq_eq_true h) h0, cond_false]
   split
   · rename_i B hB; by_cases hl : j + n <= B.n
     · rw [Nat.ble_eq_true_of_le hl, cond_true]; exact aFe hB n j hl
     · rw [show Nat.ble (j + n) B.n = false from by cases h : Nat.ble (j + n) B.n; rfl; exact absurd (Nat.le_of_ble_eq_true h) hl, cond_false]
       exact (oS n j (λ B' hB' => by rw [hB] at hB'; cases hB'; omega) (by omega)).symm
   · rename_i hn; exact (oS n j (λ B' hB' => absurd hB' (hn B')) (by omega)).symm
def aIX {β : Type} (vs : List DV) : Nat -> Tr DV -> (Tr DV -> β) -> β :=
 List.rec (motive := λ _ => Nat -> Tr DV -> (Tr DV -> β) -> β) (λ _ t k => k t) (λ v _ ih o t k => Tr.setK v (Pa.of o) t λ t => cJ (Nat.succ o) λ o => ih o t k) vs
def aED : List DV -> Nat -> Tr DV -> Tr DV
 | [], _, t => t
 | v :: vs, o, t => aED vs (o + 1) (Tr.set v (Pa.of o) t)
theorem zJ {β : Type} : ∀ (vs : List DV) (o : Nat) (t : Tr DV) (k : Tr DV -> β), aIX vs o t k = k (aED vs o t)
 | [], _, _, _ => rfl
 | v :: vs, o, t, k => by
   show (Tr.setK v (Pa.of o) t λ t => cJ (Nat.succ o) λ o => aIX vs o t k) = _
   rw [Tr.setK_eq, aR, zJ vs]; rfl
theorem Tr.set_set {α : Type} (x y : α) : ∀ (p : Pa) (t : Tr α), Tr.set y p (Tr.set x p t) = Tr.set y p t
 | .h, .e => rfl
 | .h, .n _ _ _ => rfl
 | .l p, .e => by show Tr.n (Tr.set y p (Tr.set x p .e)) none .e = Tr.n (Tr.set y p .e) none .e; rw [Tr.set_set x y p]
 | .l p, .n l v r => by show Tr.n (Tr.set y p (Tr.set x p l)) v r = Tr.n (Tr.set y p l) v r; rw [Tr.set_set x y p]
 | .r p, .e => by show Tr.n .e none (Tr.set y p (Tr.set x p .e)) = Tr.n .e none (Tr.set y p .e); rw [Tr.set_set x y p]
 | .r p, .n l v r => by show Tr.n l v (Tr.set y p (Tr.set x p r)) = Tr.n l v (Tr.set y p r); rw [Tr.set_set x y p]
theorem H.put_put (h : H) (b : Nat) (x y : eH) : (h.put b x).put b y = h.put b y := by
 unfold H.put Tr.put; simp only [Tr.set_set]
def uX (vs : List DV) (h : H) (b o : Nat) : Option H := match vs with
 | [] => some h
 | v :: vs => match h.get b with
   | some (.blk B) => bif (!B.ro) && Nat.ble (o + (v :: vs).length) B.n && (v :: vs).all DV.one then
       aIX (v :: vs) o B.t λ t => h.putK b (.blk { B with t := t }) some
     else none
   | _ => none
theorem wI : ∀ (vs : List DV) (h : H) (b o : Nat) (B : Blk), h.get b = some (.blk B) -> vs ≠ [] ->
   eE vs h b o = if (!B.ro) = true /\ o + vs.length <= B.n /\ vs.all DV.one = true then some (h.put b (.blk { B with t := aED vs o B.t })) else none
 | [], _, _, _, _, _, h => absurd rfl h
 | v :: vs, h, b, o, B, hB, _ => by
   simp only [eE, hB]; by_cases hc : ((!B.ro) && Nat.blt o B.n && v.one) = true
   · rw [hc, cond_true, Tr.setK_eq, H.putK_eq, aR]; rw [Bool.and_eq_true, Bool.and_eq_true, Nat.blt_eq] at hc; obtain ⟨⟨h1, h2⟩, h3⟩ := hc; cases vs with
     | nil =>
       rw [if_pos ⟨h1, by simp only [List.length_cons, List.length_nil]; omega, by simp [h3]⟩]; rfl
     | cons u us =>
       rw [wI (u :: us) _ b (o + 1) { B with t := Tr.set v (Pa.of o) B.t } (by rw [H.get_put, if_pos rfl]) (by simp)]
       simp only [H.put_put]; by_cases hd : (!B.ro) = true /\ o + 1 + (u :: us).length <= B.n /\ (u :: us).all DV.one = true
       · rw [if_pos hd, if_pos ⟨h1, by have := hd.2.1; simp only [List.length_cons] at this ⊢; omega, by rw [List.all_cons, h3, hd.2.2]; rfl⟩]; rfl
       · rw [if_neg hd, if_neg]; intro hh; apply hd; refine ⟨h1, by have := hh.2.1; simp only [List.length_cons] at this ⊢; omega, ?_⟩
         have := hh.2.2; rw [List.all_cons, Bool.and_eq_true] at this; exact this.2
   · have hc' : ((!B.ro) && Nat.blt o B.n && v.one) = false := by simpa using hc
     rw [hc', cond_false, if_neg]; intro hh; apply hc; rw [Bool.and_eq_true, Bool.and_eq_true, Nat.blt_eq]; have h3 := hh.2.2; rw [List.all_cons, Bool.and_eq_true] at h3; exact ⟨⟨hh.1, by have := hh.2.1; simp only [List.length_cons] at this; omega⟩, h3.1⟩
theorem tM (vs : List DV) (h : H) (b o : Nat) : uX vs h b o = eE vs h b o := by
 unfold uX; split
 · rfl
 · rename_i v vs; split
   · rename_i B hB; rw [wI (v :: vs) h b o B hB (by simp)]
     by_cases hd : (!B.ro) = true /\ o + (v :: vs).length <= B.n /\ (v :: vs).all DV.one = true
     · rw [if_pos hd, hd.1, Nat.ble_eq_true_of_le hd.2.1, hd.2.2]; simp only [Bool.and_self, cond_true, zJ, H.putK_eq]
     · rw [if_neg hd]; have : ((!B.ro) && Nat.ble (o + (v :: vs).length) B.n && (v :: vs).all DV.one) = false := by
         rw [Bool.eq_false_iff]; intro hh; rw [Bool.and_eq_true, Bool.and_eq_true] at hh; exact hd ⟨hh.1.1, Nat.le_of_ble_eq_true hh.1.2, hh.2⟩
       rw [this, cond_false]
   · rename_i hn; simp only [eE]
def cQ (n : Nat) (a x : DV) (h : H) : Option (DV × H) :=
 match a with
 | .ptr b o => bif Nat.beq x.cells.length n then (uX x.cells h b o).map λ h => (.tup [], h) else none
 | _ => none
theorem yK (n : Nat) (a x : DV) (h : H) : cQ n a x h = dSt n a x h := by unfold cQ dSt; simp only [tM]; cases a <;> rfl
def vX (es : Nat) (rd : Rd) (x : DV) : Option (List DV) :=
 match x with
 | .nils => some []
 | .slE _ _ _ => some []
 | .slc b o n _ _ => jS rd b o (n * es)
 | .str s => bif Nat.beq es 1 then some (s.map λ b => .int .u8 (.ofNat b)) else none
 | _ => none
theorem aCJ (es : Nat) (rd : Rd) (x : DV) : vX es rd x = dO es rd x := by unfold vX dO; simp only [bJ]; cases x <;> rfl
def aHc (o len es : Nat) (B : Blk) (new : List DV) (rd : Rd) (b : Nat) : Option (Tr DV) := bif Nat.beq o 0 then aIX new (len * es) B.t some else (jS rd b o (len * es)).map λ old => Tr.ofL (old ++ new)
def cG (es bytes : Nat) (s x : DV) (h : H) : Option (DV × H) :=
 (eI x).bind λ n => (vX es h.get x).bind λ new =>
 match s with
 | .nils => bif Nat.beq n 0 then some (.nils, h) else
     bif Nat.blt (n * bytes) bU && Nat.blt n bU then h.pushK (.blk ⟨n * es, es, false, true, Tr.ofL new⟩) λ h' => some (.slc h.size 0 n n true, h') else none
 | .slE b o o2 => bif Nat.beq n 0 then some (.slE b o o2, h) else none
 | .slc b o len cap op => cJ (len + n) λ need =>
     bif Nat.ble need cap then (uX new h b (o + len * es)).map λ h => (.slc b o need cap op, h)
     else bif Nat.blt (need * bytes) bU && Nat.blt need bU then
       match h.get b with
       | some (.blk B) =>
         bif op then
           bif Nat.beq (o + cap * es) B.n && Nat.beq B.es es && (!B.ro) && Nat.ble len cap && new.all DV.one then
             (aHc o len es B new h.get b).bind λ t => cJ (need * es) λ n' => h.pushK (.blk ⟨n', es, false, false, t⟩) λ h' => h'.putK b .dead λ h'' => some (.slc h.size 0 need need true, h'')
           else none
         else
           (jS h.get b o (len * es)).bind λ old => cJ (need * es) λ n' => h.pushK (.blk ⟨n', es, false, true, Tr.ofL (old ++ new)⟩) λ h' => some (.slc h.size 0 need need true, h')
       | _ => none
     else none
 | _ => none
theorem vY : ∀ (vs : List DV) (o : Nat) (t : Tr DV), aED vs o t = Tr.ofF vs o t
 | [], _, _ => rfl
 | v :: vs, o, t => vY vs (o + 1) _
theorem aMx (o len es : Nat) (B : Blk) (new : List DV) (rd : Rd) (b : Nat) : aHc o len es B new rd b = uO o len es B new rd b := by
 unfold aHc uO; rw [zJ, vY, bJ]
theorem iK (es bytes : Nat) (s x : DV) (h : H) : cG es bytes s x h = fT es bytes s x h := by
 unfold cG fT; simp only [aCJ, tM, bJ, aMx]; cases eI x with
 | none => rfl
 | some n =>
   simp only [Option.bind_some]; cases dO es h.get x with
   | none => rfl
   | some new =>
     simp only [Option.bind_some]; cases s <;> rfl
def zF (es k : Nat) (rd : Rd) (x : DV) : Option (List DV) :=
 match x with
 | .nils => some []
 | .slE _ _ _ => some []
 | .slc b o _ _ _ => jS rd b o (k * es)
 | .str s => bif Nat.beq es 1 then some ((s.take k).map λ b => .int .u8 (.ofNat b)) else none
 | _ => none
theorem aEy (es k : Nat) (rd : Rd) (x : DV) : zF es k rd x = kN es k rd x := by unfold zF kN; simp only [bJ]; cases x <;> rfl
def jK (es : Nat) (d x : DV) (h : H) : Option (DV × H) :=
 (eI x).bind λ n => match d with
 | .nils => some (.int .i64 0, h)
 | .slE _ _ _ => some (.int .i64 0, h)
 | .slc b o len _ _ => cJ (bif Nat.ble n len then n else len) λ k => (zF es k h.get x).bind λ new => (uX new h b o).map λ h => (.int .i64 (.ofNat k), h)
 | _ => none
theorem aML (es : Nat) (d x : DV) (h : H) : jK es d x h = xU es d x h := by
 unfold jK xU; simp only [aEy, tM]; cases eI x with
 | none => rfl
 | some n => cases d <;> rfl
def aZv (x y : DV) : Option DV := match x, y with
 | .str s, .int .u8 (.ofNat c) => bif Nat.blt c 256 then aFp (aFq c s) λ n => some (.int .i64 n) else none
 | _, _ => none
def aZw (x y : DV) : Option DV := match x, y with
 | .str s, .int .u8 (.ofNat c) => bif Nat.blt c 256 then cJ (aHh c s) λ n => some (.int .i64 (.ofNat n)) else none
 | _, _ => none
def aIM (k : Prm) : DV -> DV -> Option DV := Prm.rec (motive := λ _ => DV -> DV -> Option DV) aZv aZw k
def tY (kt : lI) (z : DV) (ok : Bool) (rd : Rd) (x k : DV) : Option DV := (match x with
   | .nilm => some none
   | .mp b => match rd b with
     | some (.map es _) => qD kt k es
     | _ => none
   | _ => none).map λ r => match r with
     | some v => bif ok then .tup [v, .bool true] else v
     | none => bif ok then .tup [z, .bool false] else z
def yW (es : Nat) (x : DV) (lo : Option DV) (hi mx : DV) : Option DV := match mx with
   | .int _ (.ofNat k) => (match x with
     | .nils => bif Nat.beq k 0 then cU 0 0 lo (some hi) λ l h => some .nils else none
     | .slc b o len cap op => bif Nat.ble k cap then cU len k lo (some hi) λ l h =>
         bif Nat.blt l k then (cJ (o + l * es) λ o => cJ (h - l) λ n => cJ (k - l) λ c => some (.slc b o n c false)) else some (.slc b o 0 0 false) else none
     | _ => none)
   | _ => none
def aK (c a b : DV) : Option DV := match c with
   | .bool t => some (Bool.rec b a t)
   | _ => none
def bY (t : EqT) (neg : Bool) (rd : Rd) (x y : DV) : Option DV := (dEq rd t x y).bind λ b => dM (bif neg then !b else b)
def yY (neg : Bool) (s : yP) (rd : Rd) (x y : DV) : Option DV := match x, y with
   | .agg xs, .agg ys => (jC rd s xs ys).bind λ b => dM (bif neg then !b else b)
   | _, _ => none
def dY (x : DV) : Option DV := match x with
   | .bool b => dM (!b)
   | _ => none
def rS (x : DV) : Option DV := match x with
   | .int k n => gJ k (0 - n)
   | _ => none
def cO (k : IntKind) (x : DV) : Option DV := match x with
   | .int _ n => gJ k n
   | _ => none
def aCD (x : DV) : Option DV := match x with
   | .str s => some (.str s)
   | _ => none
def jY (rd : Rd) (x : DV) : Option DV := match x with
   | .nils => some (.str [])
   | .slE _ _ _ => some (.str [])
   | .slc b o len _ _ => ((jS rd b o len).bind hX).bind pI
   | _ => none
def aF (rd : Rd) (x : DV) : Option DV := match x with
   | .ptr b o => uK rd b o
   | _ => none
def cR (n : Nat) (rd : Rd) (x : DV) : Option DV := match x with
   | .ptr b o => (jS rd b o n).map .agg
   | _ => none
def aA (x : DV) : Option DV := match x with
   | .ptr b o => some (.ptr b o)
   | _ => none
def aG (off : Nat) (x : DV) : Option DV := match x with
   | .ptr b o => cJ (o + off) λ o => some (.ptr b o)
   | _ => none
def aIO (off n : Nat) (agg : Bool) (x : DV) : Option DV := match x with
   | .agg cs => bif agg then (bif Nat.ble (off + n) cs.length then some (.agg ((cs.drop off).take n)) else none) else cs[off]?
   | _ => none
def pN (len es : Nat) (x i : DV) : Option DV := match x with
   | .ptr b o => mQ len i λ n => cJ (o + n * es) λ o => some (.ptr b o)
   | _ => none
def cH (es : Nat) (x i : DV) : Option DV := match x with
   | .slc b o len _ _ => mQ len i λ n => cJ (o + n * es) λ o => some (.ptr b o)
   | _ => none
def aIN (len es : Nat) (agg : Bool) (x i : DV) : Option DV := match x with
   | .agg cs => mQ len i λ n => bif agg then (bif Nat.ble (n * es + es) cs.length then some (.agg ((cs.drop (n * es)).take es)) else none) else cs[n * es]?
   | _ => none
def lU (x i : DV) : Option DV := match x with
   | .str s => mQ s.length i λ n => (s[n]?).map λ b => .int .u8 (.ofNat b)
   | _ => none
def jM (x : DV) (lo hi : Option DV) : Option DV := match x with
   | .str s => cU s.length s.length lo hi λ l h => pI ((s.take h).drop l)
   | _ => none
def eF (es : Nat) (x : DV) (lo hi : Option DV) : Option DV := match x with
   | .nils => cU 0 0 lo hi λ l h => some .nils
   | .slc b o len cap op => cU len cap lo hi λ l h =>
       bif Nat.blt l cap then (cJ (o + l * es) λ o => cJ (h - l) λ n => cJ (cap - l) λ c => some (.slc b o n c op))
       else bif op then (cJ (o + l * es) λ o2 => some (.slE b o o2)) else some (.slc b o 0 0 false)
   | .slE b o o2 => cU 0 0 lo hi λ l h => some (.slE b o o2)
   | _ => none
def aEs (n es : Nat) (x : DV) (lo hi : Option DV) : Option DV := match x with
   | .ptr b o => cU n n lo hi λ l h =>
       bif Nat.blt l n then (cJ (o + l * es) λ o => cJ (h - l) λ m => cJ (n - l) λ c => some (.slc b o m c false))
       else some (.slc b o 0 0 false)
   | _ => none
def aT (i : Nat) (x : DV) : Option DV := match x with
   | .tup vs => vs[i]?
   | _ => none
def dT (x : DV) : Option DV := match x with
   | .str s => cJ s.length λ n => some (.int .i64 (.ofNat n))
   | _ => none
def aW (x : DV) : Option DV := match x with
   | .nils => some (.int .i64 (.ofNat 0))
   | .slc _ _ n _ _ => some (.int .i64 (.ofNat n))
   | .slE _ _ _ => some (.int .i64 (.ofNat 0))
   | _ => none
abbrev yZ (x : DV) : Option DV := aCk x
abbrev aEt (rd : Rd) (x y : DV) : Option DV := aDk rd x y
def aCE (rd : Rd) (x : DV) : Option DV := match x with
   | .nilm => some (.int .i64 (.ofNat 0))
   | .mp b => match rd b with
     | some (.map es _) => cJ es.length λ n => some (.int .i64 (.ofNat n))
     | _ => none
   | _ => none
def vR (a b : DV) : Option DV := match a, b with
   | .int k x, .int k' y => some (.int k (bif iLt y x then y else x))
   | _, _ => none
def rL (a b : DV) : Option DV := match a, b with
   | .int k x, .int k' y => some (.int k (bif iLt x y then y else x))
   | _, _ => none
def dF (zero : List DV) (parts : List (Nat × Nat × DV)) : Option DV := (eM zero parts).map .agg
def aBB (t : Nat) (zero : DV) (ok : Bool) (x : DV) : Option DV := match x with
   | .nili => bif ok then some (.tup [zero, .bool false]) else none
   | .ifc u v => bif Nat.beq u t then some (bif ok then .tup [v, .bool true] else v) else bif ok then some (.tup [zero, .bool false]) else none
   | _ => none
section
variable {R : Type}
def fC (n es : Nat) (z : Zs) (h : H) (k : DV -> H -> Option R) : Option R := h.pushK (.blk ⟨n, es, false, true, z.tr⟩) λ h' => k (.ptr h.size 0) h'
def cL (x : DV) (h : H) (k : DV -> H -> Option R) : Option R := cJ x.cells.length λ n => h.pushK (.blk ⟨n, n, false, true, Tr.ofL x.cells⟩) λ h' => k (.ptr h.size 0) h'
def dB (n es : Nat) (zero : List DV) (parts : List (Nat × Nat × DV)) (h : H) (k : DV -> H -> Option R) : Option R :=
 (eM (gI zero n) parts).bind λ cs => h.pushK (.blk ⟨n * es, es, false, true, Tr.ofL cs⟩) λ h' => k (.slc h.size 0 n n false) h'
def jZ (es bytes : Nat) (zero : DV) (l c : DV) (h : H) (k : DV -> H -> Option R) : Option R := match l, c with
   | .int _ (.ofNat l), .int _ (.ofNat c) =>
     bif Nat.ble l c && Nat.blt (bytes * c) 140737488355328 && Nat.blt c 140737488355328 then
       h.pushK (.blk ⟨c, 1, false, true, Tr.full zero 48⟩) λ h' => k (.slc h.size 0 l c false) h'
     else none
   | _, _ => none
def xL (h : H) (k : DV -> H -> Option R) : Option R := h.pushK (.map [] 0) λ h' => k (.mp h.size) h'
def aNW (x : DV) (h : H) (k : DV -> H -> Option R) : Option R := match x with
   | .str s => cJ s.length λ n => h.pushK (.blk ⟨n, 1, false, false, Tr.ofL (s.map λ b => .int .u8 (.ofNat b))⟩) λ h' => k (.slc h.size 0 n n true) h'
   | _ => none
end
end Go.DI
namespace Go.DI
open Go.RowKit
abbrev Rg := Pa -> DV
def e2 (σ : Rg) (x : aU) : DV := aU.rec (motive := λ _ => DV) (λ p => σ p) (λ v => v) x
def aMz (p : Pa) (v : DV) (σ : Rg) : Rg := λ q => Bool.rec (σ q) v (oV q p)
def reg (ρ : Tr DV) : Rg := λ p => ev ρ (.r p)
theorem aHm (ρ : Tr DV) (x : aU) : e2 (reg ρ) x = ev ρ x := by cases x <;> rfl
theorem bQ (ρ : Tr DV) : e2 (reg ρ) = ev ρ := funext (aHm ρ)
theorem aJk (ρ : Tr DV) (p : Pa) (v : DV) : reg (Tr.set v p ρ) = aMz p v (reg ρ) := by
 funext q
 unfold reg aMz; rw [nD]; by_cases h : q = p
 · subst h; rw [if_pos rfl, nZ]
 · rw [if_neg h]; cases e : oV q p with
   | true => exact absurd (eQ e) h
   | false => rfl
section
variable {R : Type}
abbrev bIf (σ : Rg) (h : H) (k : DV -> H -> Option R) : Option R := none
abbrev bHJ (q : Prm) (x y : aU) (σ : Rg) (h : H) (k : DV -> H -> Option R) : Option R := vK (aIM q (e2 σ x) (e2 σ y)) λ v => k v h
abbrev bHR (kt : lI) (z : DV) (ok : Bool) (x y : aU) (σ : Rg) (h : H) (k : DV -> H -> Option R) : Option R := vK (tY kt z ok h.get (e2 σ x) (e2 σ y)) λ v => k v h
abbrev bHF (es : Nat) (x : aU) (lo : Option aU) (hi mx : aU) (σ : Rg) (h : H) (k : DV -> H -> Option R) : Option R := vK (yW es (e2 σ x) (lo.map (e2 σ)) (e2 σ hi) (e2 σ mx)) λ v => k v h
abbrev aZN (c a b : aU) (σ : Rg) (h : H) (k : DV -> H -> Option R) : Option R := vK (aK (e2 σ c) (e2 σ a) (e2 σ b)) λ v => k v h
abbrev bIe (op : BinOp) (x y : aU) (σ : Rg) (h : H) (k : DV -> H -> Option R) : Option R := vK (aIP op (e2 σ x) (e2 σ y)) λ v => k v h
abbrev bHZ (t : EqT) (neg : Bool) (x y : aU) (σ : Rg) (h : H) (k : DV -> H -> Option R) : Option R := vK (bY t neg h.get (e2 σ x) (e2 σ y)) λ v => k v h
abbrev bIa (neg : Bool) (s : yP) (x y : aU) (σ : Rg) (h : H) (k : DV -> H -> Option R) : Option R := vK (yY neg s h.get (e2 σ x) (e2 σ y)) λ v => k v h
abbrev bHL (x : aU) (σ : Rg) (h : H) (k : DV -> H -> Option R) : Option R := vK (dY (e2 σ x)) λ v => k v h
abbrev bHM (x : aU) (σ : Rg) (h : H) (k : DV -> H -> Option R) : Option R := vK (rS (e2 σ x)) λ v => k v h
abbrev aZS (q : IntKind) (x : aU) (σ : Rg) (h : H) (k : DV -> H -> Option R) : Option R := vK (cO q (e2 σ x)) λ v => k v h
abbrev aZM (x : aU) (σ : Rg) (h : H) (k : DV -> H -> Option R) : Option R := vK (aCD (e2 σ x)) λ v => k v h
abbrev bIg (x : aU) (σ : Rg) (h : H) (k : DV -> H -> Option R) : Option R := vK (jY h.get (e2 σ x)) λ v => k v h
abbrev o_ld (x : aU) (σ : Rg) (h : H) (k : DV -> H -> Option R) : Option R := vK (aF h.get (e2 σ x)) λ v => k v h
abbrev bHS (n : Nat) (x : aU) (σ : Rg) (h : H) (k : DV -> H -> Option R) : Option R := vK (cR n h.get (e2 σ x)) λ v => k v h
abbrev aNR (x : aU) (σ : Rg) (h : H) (k : DV -> H -> Option R) : Option R := vK (aA (e2 σ x)) λ v => k v h
abbrev o_fa (off : Nat) (x : aU) (σ : Rg) (h : H) (k : DV -> H -> Option R) : Option R := vK (aG off (e2 σ x)) λ v => k v h
abbrev bHX (off n : Nat) (agg : Bool) (x : aU) (σ : Rg) (h : H) (k : DV -> H -> Option R) : Option R := vK (aIO off n agg (e2 σ x)) λ v => k v h
abbrev bHW (len es : Nat) (x i : aU) (σ : Rg) (h : H) (k : DV -> H -> Option R) : Option R := vK (pN len es (e2 σ x) (e2 σ i)) λ v => k v h
abbrev bHV (es : Nat) (x i : aU) (σ : Rg) (h : H) (k : DV -> H -> Option R) : Option R := vK (cH es (e2 σ x) (e2 σ i)) λ v => k v h
abbrev bHU (len es : Nat) (agg : Bool) (x i : aU) (σ : Rg) (h : H) (k : DV -> H -> Option R) : Option R := vK (aIN len es agg (e2 σ x) (e2 σ i)) λ v => k v h
abbrev bHT (x i : aU) (σ : Rg) (h : H) (k : DV -> H -> Option R) : Option R := vK (lU (e2 σ x) (e2 σ i)) λ v => k v h
abbrev bHE (x : aU) (lo hi : Option aU) (σ : Rg) (h : H) (k : DV -> H -> Option R) : Option R := vK (jM (e2 σ x) (lo.map (e2 σ)) (hi.map (e2 σ))) λ v => k v h
abbrev bHG (es : Nat) (x : aU) (lo hi : Option aU) (σ : Rg) (h : H) (k : DV -> H -> Option R) : Option R := vK (eF es (e2 σ x) (lo.map (e2 σ)) (hi.map (e2 σ))) λ v => k v h
abbrev bHH (n es : Nat) (x : aU) (lo hi : Option aU) (σ : Rg) (h : H) (k : DV -> H -> Option R) : Option R := vK (aEs n es (e2 σ x) (lo.map (e2 σ)) (hi.map (e2 σ))) λ v => k v h
abbrev bHY (i : Nat) (x : aU) (σ : Rg) (h : H) (k : DV -> H -> Option R) : Option R := vK (aT i (e2 σ x)) λ v => k v h
abbrev aZO (x : aU) (σ : Rg) (h : H) (k : DV -> H -> Option R) : Option R := vK (dT (e2 σ x)) λ v => k v h
abbrev aZQ (x : aU) (σ : Rg) (h : H) (k : DV -> H -> Option R) : Option R := vK (aW (e2 σ x)) λ v => k v h
abbrev aZP (x : aU) (σ : Rg) (h : H) (k : DV -> H -> Option R) : Option R := vK (aCE h.get (e2 σ x)) λ v => k v h
abbrev aZT (x : aU) (σ : Rg) (h : H) (k : DV -> H -> Option R) : Option R := vK (yZ (e2 σ x)) λ v => k v h
abbrev bHK (x y : aU) (σ : Rg) (h : H) (k : DV -> H -> Option R) : Option R := vK (aEt h.get (e2 σ x) (e2 σ y)) λ v => k v h
abbrev o_mn (a b : aU) (σ : Rg) (h : H) (k : DV -> H -> Option R) : Option R := vK (vR (e2 σ a) (e2 σ b)) λ v => k v h
abbrev o_mx (a b : aU) (σ : Rg) (h : H) (k : DV -> H -> Option R) : Option R := vK (rL (e2 σ a) (e2 σ b)) λ v => k v h
abbrev bId (zero : List DV) (parts : List (Nat × Nat × aU)) (σ : Rg) (h : H) (k : DV -> H -> Option R) : Option R := vK (dF zero (parts.map λ p => (p.1, p.2.1, e2 σ p.2.2))) λ v => k v h
abbrev bHD (t : Nat) (zero : DV) (ok : Bool) (x : aU) (σ : Rg) (h : H) (k : DV -> H -> Option R) : Option R := vK (aBB t zero ok (e2 σ x)) λ v => k v h
abbrev o_mv (x : aU) (σ : Rg) (h : H) (k : DV -> H -> Option R) : Option R := k (e2 σ x) h
abbrev bHP (t : Nat) (x : aU) (σ : Rg) (h : H) (k : DV -> H -> Option R) : Option R := k (.ifc t (e2 σ x)) h
abbrev bHQ (f : Fn) (a c : List aU) (σ : Rg) (h : H) (k : DV -> H -> Option R) : Option R := k (.fn f (a.map (e2 σ)) (c.map (e2 σ))) h
abbrev aZR (n : Nat) (σ : Rg) (h : H) (k : DV -> H -> Option R) : Option R := k (.int .i64 (.ofNat n)) h
abbrev bIh (n es : Nat) (z : Zs) (σ : Rg) (h : H) (k : DV -> H -> Option R) : Option R := fC n es z h k
abbrev bIc (x : aU) (σ : Rg) (h : H) (k : DV -> H -> Option R) : Option R := cL (e2 σ x) h k
abbrev bIb (n es : Nat) (zero : List DV) (parts : List (Nat × Nat × aU)) (σ : Rg) (h : H) (k : DV -> H -> Option R) : Option R := dB n es zero (parts.map λ p => (p.1, p.2.1, e2 σ p.2.2)) h k
abbrev bHN (es bytes : Nat) (zero : DV) (l c : aU) (σ : Rg) (h : H) (k : DV -> H -> Option R) : Option R := jZ es bytes zero (e2 σ l) (e2 σ c) h k
abbrev bHO  (σ : Rg) (h : H) (k : DV -> H -> Option R) : Option R := xL h k
abbrev bHI (x : aU) (σ : Rg) (h : H) (k : DV -> H -> Option R) : Option R := aNW (e2 σ x) h k
abbrev aUR (d : tU) : Rg -> H -> (DV -> H -> Option R) -> Option R :=
 tU.rec (motive := λ _ => Rg -> H -> (DV -> H -> Option R) -> Option R) bIf bHJ bHR bHF o_mv aZN bIe bHZ bIa bHL bHM aZS aZM bIg bHP bHQ o_ld bHS aNR o_fa bHX bHW bHV bHU bHT bHE bHG bHH bHY aZO aZQ aZP aZT bHK aZR o_mn o_mx bId bHD bIh bIc bIb bHN bHO bHI d
end
def aXp (q : Prm) (x y : aU) (σ : Rg) (rd : Rd) : Option DV := aIM q (e2 σ x) (e2 σ y)
def aXv (kt : lI) (z : DV) (ok : Bool) (x y : aU) (σ : Rg) (rd : Rd) : Option DV := tY kt z ok rd (e2 σ x) (e2 σ y)
def aXm (es : Nat) (x : aU) (lo : Option aU) (hi mx : aU) (σ : Rg) (rd : Rd) : Option DV := yW es (e2 σ x) (lo.map (e2 σ)) (e2 σ hi) (e2 σ mx)
def aOj (c a b : aU) (σ : Rg) (rd : Rd) : Option DV := aK (e2 σ c) (e2 σ a) (e2 σ b)
def aXG (op : BinOp) (x y : aU) (σ : Rg) (rd : Rd) : Option DV := aIP op (e2 σ x) (e2 σ y)
def aXD (t : EqT) (neg : Bool) (x y : aU) (σ : Rg) (rd : Rd) : Option DV := bY t neg rd (e2 σ x) (e2 σ y)
def aXE (neg : Bool) (s : yP) (x y : aU) (σ : Rg) (rd : Rd) : Option DV := yY neg s rd (e2 σ x) (e2 σ y)
def aXr (x : aU) (σ : Rg) (rd : Rd) : Option DV := dY (e2 σ x)
def aXs (x : aU) (σ : Rg) (rd : Rd) : Option DV := rS (e2 σ x)
def aOo (q : IntKind) (x : aU) (σ : Rg) (rd : Rd) : Option DV := cO q (e2 σ x)
def aOi (x : aU) (σ : Rg) (rd : Rd) : Option DV := aCD (e2 σ x)
def aXH (x : aU) (σ : Rg) (rd : Rd) : Option DV := jY rd (e2 σ x)
def g_ld (x : aU) (σ : Rg) (rd : Rd) : Option DV := aF rd (e2 σ x)
def aXw (n : Nat) (x : aU) (σ : Rg) (rd : Rd) : Option DV := cR n rd (e2 σ x)
def aFf (x : aU) (σ : Rg) (rd : Rd) : Option DV := aA (e2 σ x)
def g_fa (off : Nat) (x : aU) (σ : Rg) (rd : Rd) : Option DV := aG off (e2 σ x)
def aXB (off n : Nat) (agg : Bool) (x : aU) (σ : Rg) (rd : Rd) : Option DV := aIO off n agg (e2 σ x)
def aXA (len es : Nat) (x i : aU) (σ : Rg) (rd : Rd) : Option DV := pN len es (e2 σ x) (e2 σ i)
def aXz (es : Nat) (x i : aU) (σ : Rg) (rd : Rd) : Option DV := cH es (e2 σ x) (e2 σ i)
def aXy (len es : Nat) (agg : Bool) (x i : aU) (σ : Rg) (rd : Rd) : Option DV := aIN len es agg (e2 σ x) (e2 σ i)
def aXx (x i : aU) (σ : Rg) (rd : Rd) : Option DV := lU (e2 σ x) (e2 σ i)
def aXl (x : aU) (lo hi : Option aU) (σ : Rg) (rd : Rd) : Option DV := jM (e2 σ x) (lo.map (e2 σ)) (hi.map (e2 σ))
def aXn (es : Nat) (x : aU) (lo hi : Option aU) (σ : Rg) (rd : Rd) : Option DV := eF es (e2 σ x) (lo.map (e2 σ)) (hi.map (e2 σ))
def aXo (n es : Nat) (x : aU) (lo hi : Option aU) (σ : Rg) (rd : Rd) : Option DV := aEs n es (e2 σ x) (lo.map (e2 σ)) (hi.map (e2 σ))
def aXC (i : Nat) (x : aU) (σ : Rg) (rd : Rd) : Option DV := aT i (e2 σ x)
def aOk (x : aU) (σ : Rg) (rd : Rd) : Option DV := dT (e2 σ x)
def aOm (x : aU) (σ : Rg) (rd : Rd) : Option DV := aW (e2 σ x)
def aOl (x : aU) (σ : Rg) (rd : Rd) : Option DV := aCE rd (e2 σ x)
def aOp (x : aU) (σ : Rg) (rd : Rd) : Option DV := yZ (e2 σ x)
def aXq (x y : aU) (σ : Rg) (rd : Rd) : Option DV := aEt rd (e2 σ x) (e2 σ y)
def g_mn (a b : aU) (σ : Rg) (rd : Rd) : Option DV := vR (e2 σ a) (e2 σ b)
def g_mx (a b : aU) (σ : Rg) (rd : Rd) : Option DV := rL (e2 σ a) (e2 σ b)
def aXF (zero : List DV) (parts : List (Nat × Nat × aU)) (σ : Rg) (rd : Rd) : Option DV := dF zero (parts.map λ p => (p.1, p.2.1, e2 σ p.2.2))
def aXk (t : Nat) (zero : DV) (ok : Bool) (x : aU) (σ : Rg) (rd : Rd) : Option DV := aBB t zero ok (e2 σ x)
def g_mv (x : aU) (σ : Rg) (rd : Rd) : Option DV := some (e2 σ x)
def aXt (t : Nat) (x : aU) (σ : Rg) (rd : Rd) : Option DV := some (.ifc t (e2 σ x))
def aXu (f : Fn) (a c : List aU) (σ : Rg) (rd : Rd) : Option DV := some (.fn f (a.map (e2 σ)) (c.map (e2 σ)))
def aOn (n : Nat) (σ : Rg) (rd : Rd) : Option DV := some (.int .i64 (.ofNat n))
def bIz (n es : Nat) (z : Zs) (σ : Rg) (rd : Rd) : Option DV := none
def bIx (x : aU) (σ : Rg) (rd : Rd) : Option DV := none
def bIw (n es : Nat) (zero : List DV) (parts : List (Nat × Nat × aU)) (σ : Rg) (rd : Rd) : Option DV := none
def bIs (es bytes : Nat) (zero : DV) (l c : aU) (σ : Rg) (rd : Rd) : Option DV := none
def bIt  (σ : Rg) (rd : Rd) : Option DV := none
def bIo (x : aU) (σ : Rg) (rd : Rd) : Option DV := none
def bIy  (σ : Rg) (rd : Rd) : Option DV := none
def dH (d : tU) : Rg -> Rd -> Option DV :=
 tU.rec (motive := λ _ => Rg -> Rd -> Option DV) bIy aXp aXv aXm g_mv aOj aXG aXD aXE aXr aXs aOo aOi aXH aXt aXu g_ld aXw aFf g_fa aXB aXA aXz aXy aXx aXl aXn aXo aXC aOk aOm aOl aOp aXq aOn g_mn g_mx aXF aXk bIz bIx bIw bIs bIt bIo d
def aJt : tU -> Bool
 | .alc _ _ _ | .box _ | .bsl _ _ _ _ | .mks _ _ _ _ _ | .mkm | .s2b _ | .bad => true
 | _ => false
theorem aVw (q : Prm) (x y : aU) (ρ : Tr DV) (rd : Rd) : bZ (.prm q x y) ρ rd = (aIM q (ev ρ x) (ev ρ y)).map .val := by
 simp only [bZ, aIM]; generalize ev ρ x = x'; generalize ev ρ y = y'; cases x' <;> (try (cases q <;> rfl))
 cases y' <;> (try (cases q <;> rfl))
 rename_i s kk n; cases kk <;> (try (cases q <;> rfl))
 cases n <;> (try (cases q <;> rfl))
 rename_i c; cases q
 · show (bif Nat.blt c 256 then _ else none) = (bif Nat.blt c 256 then _ else none : Option DV).map _; cases Nat.blt c 256 <;> simp only [cond_false, cond_true, kS] <;> rfl
 · show (bif Nat.blt c 256 then _ else none) = (bif Nat.blt c 256 then _ else none : Option DV).map _; cases Nat.blt c 256 <;> simp only [cond_false, cond_true, aR] <;> rfl
theorem aVC (kt : lI) (z : DV) (ok : Bool) (x y : aU) (ρ : Tr DV) (rd : Rd) : bZ (.lkp kt z ok x y) ρ rd = (tY kt z ok rd (ev ρ x) (ev ρ y)).map .val := by
 simp only [bZ, tY, Option.map_map]
 congr 1; funext r; cases r <;> rfl
theorem aVs (es : Nat) (x : aU) (lo : Option aU) (hi mx : aU) (ρ : Tr DV) (rd : Rd) : bZ (.slM es x lo hi mx) ρ rd = (yW es (ev ρ x) (lo.map (ev ρ)) (ev ρ hi) (ev ρ mx)).map .val := by
 simp only [bZ, yW]; generalize ev ρ x = x'; generalize ev ρ hi = hi'; generalize ev ρ mx = mx'; cases mx' <;> try rfl
 rename_i k n; cases n <;> try rfl
 rename_i n; cases x' <;> try rfl
 · show (bif Nat.beq n 0 then _ else none) = (bif Nat.beq n 0 then _ else none : Option DV).map _; cases Nat.beq n 0 <;> rfl
 · rename_i a b c d e; show (bif Nat.ble n d then _ else none) = (bif Nat.ble n d then _ else none : Option DV).map _; cases Nat.ble n d <;> rfl
theorem aOP (c a b : aU) (ρ : Tr DV) (rd : Rd) : bZ (.pick c a b) ρ rd = (aK (ev ρ c) (ev ρ a) (ev ρ b)).map .val := by
 simp only [bZ, aK]; generalize ev ρ c = c'; generalize ev ρ a = a'; generalize ev ρ b = b'; cases c' <;> try rfl
 rename_i t; cases t <;> rfl
theorem aVN (op : BinOp) (x y : aU) (ρ : Tr DV) (rd : Rd) : bZ (.bin op x y) ρ rd = (aIP op (ev ρ x) (ev ρ y)).map .val := by
 rw [aNg]; rfl
theorem aVK (t : EqT) (neg : Bool) (x y : aU) (ρ : Tr DV) (rd : Rd) : bZ (.eqv t neg x y) ρ rd = (bY t neg rd (ev ρ x) (ev ρ y)).map .val := by
 rfl
theorem aVL (neg : Bool) (s : yP) (x y : aU) (ρ : Tr DV) (rd : Rd) : bZ (.eqs neg s x y) ρ rd = (yY neg s rd (ev ρ x) (ev ρ y)).map .val := by
 simp only [bZ, yY]; generalize ev ρ x = x'; generalize ev ρ y = y'; cases x' <;> cases y' <;> rfl
theorem aVy (x : aU) (ρ : Tr DV) (rd : Rd) : bZ (.not x) ρ rd = (dY (ev ρ x)).map .val := by
 simp only [bZ, dY, bM, bJ]; generalize ev ρ x = x'; cases x' <;> rfl
theorem aVz (x : aU) (ρ : Tr DV) (rd : Rd) : bZ (.neg x) ρ rd = (rS (ev ρ x)).map .val := by
 simp only [bZ, rS, bM, bJ]; generalize ev ρ x = x'; cases x' <;> rfl
theorem aOU (q : IntKind) (x : aU) (ρ : Tr DV) (rd : Rd) : bZ (.conv q x) ρ rd = (cO q (ev ρ x)).map .val := by
 simp only [bZ, cO, bM, bJ]; generalize ev ρ x = x'; cases x' <;> rfl
theorem aOO (x : aU) (ρ : Tr DV) (rd : Rd) : bZ (.same x) ρ rd = (aCD (ev ρ x)).map .val := by
 simp only [bZ, aCD, bM, bJ]; generalize ev ρ x = x'; cases x' <;> rfl
theorem aVO (x : aU) (ρ : Tr DV) (rd : Rd) : bZ (.b2s x) ρ rd = (jY rd (ev ρ x)).map .val := by
 simp only [bZ, jY, bM, bJ]; generalize ev ρ x = x'; cases x' <;> rfl
theorem bAn (x : aU) (ρ : Tr DV) (rd : Rd) : bZ (.ld x) ρ rd = (aF rd (ev ρ x)).map .val := by
 simp only [bZ, aF, bM, bJ]; generalize ev ρ x = x'; cases x' <;> rfl
theorem aVD (n : Nat) (x : aU) (ρ : Tr DV) (rd : Rd) : bZ (.ldN n x) ρ rd = (cR n rd (ev ρ x)).map .val := by
 simp only [bZ, cR, bM, bJ]; generalize ev ρ x = x'; cases x' <;> rfl
theorem aHl (x : aU) (ρ : Tr DV) (rd : Rd) : bZ (.nilchk x) ρ rd = (aA (ev ρ x)).map .val := by
 simp only [bZ, aA, bM, bJ]; generalize ev ρ x = x'; cases x' <;> rfl
theorem bAo (off : Nat) (x : aU) (ρ : Tr DV) (rd : Rd) : bZ (.fa off x) ρ rd = (aG off (ev ρ x)).map .val := by
 simp only [bZ, aG, aR]; generalize ev ρ x = x'; cases x' <;> rfl
theorem aVI (off n : Nat) (agg : Bool) (x : aU) (ρ : Tr DV) (rd : Rd) : bZ (.fld off n agg x) ρ rd = (aIO off n agg (ev ρ x)).map .val := by
 simp only [bZ, aIO]; generalize ev ρ x = x'; cases x' <;> try rfl
 rename_i cs; cases agg <;> try rfl
 show (bif Nat.ble (off + n) cs.length then _ else none) = (bif Nat.ble (off + n) cs.length then _ else none : Option DV).map _; cases Nat.ble (off + n) cs.length <;> rfl
theorem aVH (len es : Nat) (x i : aU) (ρ : Tr DV) (rd : Rd) : bZ (.iaA len es x i) ρ rd = (pN len es (ev ρ x) (ev ρ i)).map .val := by
 simp only [bZ, pN, bM, bJ]; generalize ev ρ x = x'; generalize ev ρ i = i'; cases x' <;> rfl
theorem aVG (es : Nat) (x i : aU) (ρ : Tr DV) (rd : Rd) : bZ (.iaS es x i) ρ rd = (cH es (ev ρ x) (ev ρ i)).map .val := by
 simp only [bZ, cH, bM, bJ]; generalize ev ρ x = x'; generalize ev ρ i = i'; cases x' <;> rfl
theorem aVF (len es : Nat) (agg : Bool) (x i : aU) (ρ : Tr DV) (rd : Rd) : bZ (.ixA len es agg x i) ρ rd = (aIN len es agg (ev ρ x) (ev ρ i)).map .val := by
 simp only [bZ, aIN, bM, bJ]; generalize ev ρ x = x'; generalize ev ρ i = i'; cases x' <;> rfl
theorem aVE (x i : aU) (ρ : Tr DV) (rd : Rd) : bZ (.ixS x i) ρ rd = (lU (ev ρ x) (ev ρ i)).map .val := by
 simp only [bZ, lU, bM, bJ]; generalize ev ρ x = x'; generalize ev ρ i = i'; cases x' <;> rfl
theorem aVr (x : aU) (lo hi : Option aU) (ρ : Tr DV) (rd : Rd) : bZ (.slS x lo hi) ρ rd = (jM (ev ρ x) (lo.map (ev ρ)) (hi.map (ev ρ))).map .val := by
 simp only [bZ, jM, bM, bJ]; generalize ev ρ x = x'; cases x' <;> rfl
theorem aVt (es : Nat) (x : aU) (lo hi : Option aU) (ρ : Tr DV) (rd : Rd) : bZ (.slL es x lo hi) ρ rd = (eF es (ev ρ x) (lo.map (ev ρ)) (hi.map (ev ρ))).map .val := by
 simp only [bZ, eF, bM, bJ]; generalize ev ρ x = x'; cases x' <;> rfl
theorem aVu (n es : Nat) (x : aU) (lo hi : Option aU) (ρ : Tr DV) (rd : Rd) : bZ (.slA n es x lo hi) ρ rd = (aEs n es (ev ρ x) (lo.map (ev ρ)) (hi.map (ev ρ))).map .val := by
 simp only [bZ, aEs, bM, bJ]; generalize ev ρ x = x'; cases x' <;> rfl
theorem aVJ (i : Nat) (x : aU) (ρ : Tr DV) (rd : Rd) : bZ (.ext i x) ρ rd = (aT i (ev ρ x)).map .val := by
 simp only [bZ, aT, bM, bJ]; generalize ev ρ x = x'; cases x' <;> rfl
theorem aOQ (x : aU) (ρ : Tr DV) (rd : Rd) : bZ (.lenS x) ρ rd = (dT (ev ρ x)).map .val := by
 simp only [bZ, dT, aR]; generalize ev ρ x = x'; cases x' <;> rfl
theorem aOS (x : aU) (ρ : Tr DV) (rd : Rd) : bZ (.lenL x) ρ rd = (aW (ev ρ x)).map .val := by
 simp only [bZ, aW, bM, bJ]; generalize ev ρ x = x'; cases x' <;> rfl
theorem aOR (x : aU) (ρ : Tr DV) (rd : Rd) : bZ (.lenM x) ρ rd = (aCE rd (ev ρ x)).map .val := by
 simp only [bZ, aCE, aR]; generalize ev ρ x = x'; cases x' <;> try rfl
 rename_i b; simp only []; cases rd b with
 | none => rfl
 | some o => cases o <;> rfl
theorem aOV (x : aU) (ρ : Tr DV) (rd : Rd) : bZ (.capL x) ρ rd = (yZ (ev ρ x)).map .val := by
 rfl
theorem aVx (x y : aU) (ρ : Tr DV) (rd : Rd) : bZ (.ovl x y) ρ rd = (aEt rd (ev ρ x) (ev ρ y)).map .val := by
 rfl
theorem bAm (a b : aU) (ρ : Tr DV) (rd : Rd) : bZ (.mn a b) ρ rd = (vR (ev ρ a) (ev ρ b)).map .val := by
 simp only [bZ, vR]; generalize ev ρ a = a'; generalize ev ρ b = b'; cases a' <;> cases b' <;> rfl
theorem bAk (a b : aU) (ρ : Tr DV) (rd : Rd) : bZ (.mx a b) ρ rd = (rL (ev ρ a) (ev ρ b)).map .val := by
 simp only [bZ, rL]; generalize ev ρ a = a'; generalize ev ρ b = b'; cases a' <;> cases b' <;> rfl
theorem aVM (zero : List DV) (parts : List (Nat × Nat × aU)) (ρ : Tr DV) (rd : Rd) : bZ (.bld zero parts) ρ rd = (dF zero (parts.map λ p => (p.1, p.2.1, ev ρ p.2.2))).map .val := by
 rfl
theorem aVq (t : Nat) (zero : DV) (ok : Bool) (x : aU) (ρ : Tr DV) (rd : Rd) : bZ (.tas t zero ok x) ρ rd = (aBB t zero ok (ev ρ x)).map .val := by
 simp only [bZ, aBB]; generalize ev ρ x = x'; cases x' <;> try rfl
 · cases ok <;> rfl
 · rename_i u v; simp only []; cases Nat.beq u t <;> cases ok <;> rfl
theorem bAl (x : aU) (ρ : Tr DV) (rd : Rd) : bZ (.mv x) ρ rd = (some (ev ρ x) : Option DV).map .val := rfl
theorem aVA (t : Nat) (x : aU) (ρ : Tr DV) (rd : Rd) : bZ (.mkI t x) ρ rd = (some (.ifc t (ev ρ x)) : Option DV).map .val := rfl
theorem aVB (f : Fn) (a c : List aU) (ρ : Tr DV) (rd : Rd) : bZ (.mkF f a c) ρ rd = (some (.fn f (a.map (ev ρ)) (c.map (ev ρ))) : Option DV).map .val := rfl
theorem aOT (n : Nat) (ρ : Tr DV) (rd : Rd) : bZ (.lenA n) ρ rd = (some (.int .i64 (.ofNat n)) : Option DV).map .val := rfl
theorem aCf {d : tU} (hd : aJt d = false) (ρ : Tr DV) (rd : Rd) : bZ d ρ rd = (dH d (reg ρ) rd).map .val := by
 cases d
 · cases hd
 · rw [aVw]; simp only [dH, aXp, bQ]
 · rw [aVC]; simp only [dH, aXv, bQ]
 · rw [aVs]; simp only [dH, aXm, bQ]
 · rw [bAl]; simp only [dH, g_mv, bQ]
 · rw [aOP]; simp only [dH, aOj, bQ]
 · rw [aVN]; simp only [dH, aXG, bQ]
 · rw [aVK]; simp only [dH, aXD, bQ]
 · rw [aVL]; simp only [dH, aXE, bQ]
 · rw [aVy]; simp only [dH, aXr, bQ]
 · rw [aVz]; simp only [dH, aXs, bQ]
 · rw [aOU]; simp only [dH, aOo, bQ]
 · rw [aOO]; simp only [dH, aOi, bQ]
 · rw [aVO]; simp only [dH, aXH, bQ]
 · rw [aVA]; simp only [dH, aXt, bQ]
 · rw [aVB]; simp only [dH, aXu, bQ]
 · rw [bAn]; simp only [dH, g_ld, bQ]
 · rw [aVD]; simp only [dH, aXw, bQ]
 · rw [aHl]; simp only [dH, aFf, bQ]
 · rw [bAo]; simp only [dH, g_fa, bQ]
 · rw [aVI]; simp only [dH, aXB, bQ]
 · rw [aVH]; simp only [dH, aXA, bQ]
 · rw [aVG]; simp only [dH, aXz, bQ]
 · rw [aVF]; simp only [dH, aXy, bQ]
 · rw [aVE]; simp only [dH, aXx, bQ]
 · rw [aVr]; simp only [dH, aXl, bQ]
 · rw [aVt]; simp only [dH, aXn, bQ]
 · rw [aVu]; simp only [dH, aXo, bQ]
 · rw [aVJ]; simp only [dH, aXC, bQ]
 · rw [aOQ]; simp only [dH, aOk, bQ]
 · rw [aOS]; simp only [dH, aOm, bQ]
 · rw [aOR]; simp only [dH, aOl, bQ]
 · rw [aOV]; simp only [dH, aOp, bQ]
 · rw [aVx]; simp only [dH, aXq, bQ]
 · rw [aOT]; simp only [dH, aOn, bQ]
 · rw [bAm]; simp only [dH, g_mn, bQ]
 · rw [bAk]; simp only [dH, g_mx, bQ]
 · rw [aVM]; simp only [dH, aXF, bQ]
 · rw [aVq]; simp only [dH, aXk, bQ]
 · cases hd
 · cases hd
 · cases hd
 · cases hd
 · cases hd
 · cases hd
section
variable {R : Type}
theorem aNO {d : tU} (hd : aJt d = false) (σ : Rg) (h : H) (k : DV -> H -> Option R) : aUR d σ h k = vK (dH d σ h.get) λ v => k v h := by
 cases d <;> first | (cases hd; done) | rfl
theorem aUQ (E : aX) (d : tU) (ρ : Tr DV) (h : H) (k : DV -> H -> Option R) : aUR d (reg ρ) h k = (odo E (.e d) ρ h).bind λ x => k x.1 x.2 := by
 cases hd : aJt d with
 | false =>
   rw [aNO hd]; simp only [odo, rC]; rw [aCf hd]; cases dH d (reg ρ) h.get <;> rfl
 | true =>
   simp only [odo, rC]; cases d <;> first | (cases hd; done) | skip
   · rfl
   · rename_i n es z; simp only [bZ, H.pushK_eq, Option.bind_some]; show fC n es z h k = _; simp only [fC, H.pushK_eq]
   · rename_i x; simp only [bZ, H.pushK_eq, aR, Option.bind_some]; show cL (e2 (reg ρ) x) h k = _; simp only [cL, H.pushK_eq, aR, bQ]
   · rename_i n es zero parts; show dB n es zero (parts.map λ p => (p.1, p.2.1, e2 (reg ρ) p.2.2)) h k = _
     simp only [bZ, dB, bQ]; cases eM (gI zero n) (parts.map λ p => (p.1, p.2.1, ev ρ p.2.2)) with
     | none => rfl
     | some cs => simp only [Option.bind_some, Option.map_some, H.pushK_eq]
   · rename_i es bytes zero l c; show jZ es bytes zero (e2 (reg ρ) l) (e2 (reg ρ) c) h k = _; simp only [bZ, jZ, bQ]; generalize ev ρ l = l'; generalize ev ρ c = c'; cases l' <;> try rfl
     rename_i k1 n1; cases n1 <;> try rfl
     rename_i n1; cases c' <;> try rfl
     rename_i k2 n2; cases n2 <;> try rfl
     rename_i n2; simp only []; cases (Nat.ble n1 n2 && Nat.blt (bytes * n2) 140737488355328 && Nat.blt n2 140737488355328) with
     | false => rfl
     | true => simp only [cond_true, H.pushK_eq, Option.bind_some]
   · simp only [bZ, H.pushK_eq, Option.bind_some]; show xL h k = _; simp only [xL, H.pushK_eq]
   · rename_i x; show aNW (e2 (reg ρ) x) h k = _; simp only [bZ, aNW, bQ]; generalize ev ρ x = x'; cases x' <;> try rfl
     simp only [aR, H.pushK_eq, Option.bind_some]
end
end Go.DI
namespace Go.DI
open Go.RowKit
def mJ (E : aX) (f : DV) (args : List DV) (h : H) : Option (DV × H) := match f with
 | .fn (.func g) first captured => aB E g (first ++ args ++ captured) h
 | _ => none
def aFO (E : aX) (tbl : List (Nat × Nat)) (x : DV) (args : List DV) (h : H) : Option (DV × H) := match x with
 | .ifc t v => match aMp t tbl with
   | some f => aB E f (v :: args) h
   | none => none
 | _ => none
def uP (dst : Option Pa) (v : DV) (σ : Rg) : Rg := Option.rec (motive := λ _ => Rg) σ (λ p => aMz p v σ) dst
section
variable {R : Type}
def odoW (d : WOp) : Rg -> H -> (DV -> H -> Option R) -> Option R :=
 WOp.rec (motive := λ _ => Rg -> H -> (DV -> H -> Option R) -> Option R)
   (λ n a x σ h k => wK (cQ n (e2 σ a) (e2 σ x) h) k)
   (λ es bytes x y σ h k => wK (cG es bytes (e2 σ x) (e2 σ y) h) k)
   (λ es x y σ h k => wK (jK es (e2 σ x) (e2 σ y) h) k)
   (λ kt x q y σ h k => wK (aBu kt (e2 σ x) (e2 σ q) (e2 σ y) h) k)
   (λ zs x σ h k => wK (qF zs (e2 σ x) h) k)
   (λ x σ h k => wK (lL (e2 σ x) h) k)
   (λ es bytes zs x y σ h k => wK (aBv es bytes zs (e2 σ x) (e2 σ y) h) k)
   (λ x σ h k => wK (aPc (e2 σ x) h) k)
   (λ x σ h k => wK (aPh (e2 σ x) h) k)
   (λ kt x q σ h k => wK (aFD kt (e2 σ x) (e2 σ q) h) k)
   (λ kt z x q σ h k => wK (rN kt z (e2 σ x) (e2 σ q) h) k)
   (λ x q y σ h k => wK (aFy (e2 σ x) (e2 σ q) (e2 σ y) h) k) d
def odoC (E : aX) (d : COp) : Rg -> H -> (DV -> H -> Option R) -> Option R :=
 COp.rec (motive := λ _ => Rg -> H -> (DV -> H -> Option R) -> Option R)
   (λ f args σ h k => wK (aB E f (args.map (e2 σ)) h) k)
   (λ f args σ h k => wK (mJ E (e2 σ f) (args.map (e2 σ)) h) k)
   (λ tbl x args σ h k => wK (aFO E tbl (e2 σ x) (args.map (e2 σ)) h) k) d
def aNP (E : aX) (d : yQ) : Rg -> H -> (DV -> H -> Option R) -> Option R :=
 yQ.rec (motive := λ _ => Rg -> H -> (DV -> H -> Option R) -> Option R) aUR odoW (odoC E) d
def aP (c : DV) (t : Bool) (op : (DV -> H -> Option R) -> Option R) (h : H) (k : DV -> H -> Option R) : Option R := gK c t (op k) (k (.tup []) h)
def aHj (E : aX) (g : DG) (σ : Rg) (h : H) (k : Rg -> H -> Option R) : Option R :=
 Option.rec (motive := λ _ => Option R) (aNP E g.op σ h λ v h => k (uP g.dst v σ) h)
   (λ x => aP (σ x.1) x.2 (λ kk => aNP E g.op σ h kk) h λ v h => k (uP g.dst v σ) h) g.guard
def uS (E : aX) (l : List DG) : Rg -> H -> (Rg -> H -> Option R) -> Option R :=
 List.rec (motive := λ _ => Rg -> H -> (Rg -> H -> Option R) -> Option R) (λ σ h k => k σ h) (λ g _ ih σ h k => aHj E g σ h λ σ h => ih σ h k) l
def gB (c : DV) (t : Bool) (x : Bool) : Bool := match c with
 | .bool c => Bool.rec (Bool.rec x true t) (Bool.rec true x t) c
 | _ => true
def aUC (d : yQ) (dst : Option Pa) (σ : Rg) (h : H) : Bool :=
 yQ.rec (motive := λ _ => Bool) (λ e => Option.rec (motive := λ _ => Bool) false (λ p => zS (dH e σ h.get) (σ p)) dst) (λ _ => false) (λ _ => false) d
def lS (g : DG) (σ : Rg) (h : H) : Bool :=
 Option.rec (motive := λ _ => Bool) (aUC g.op g.dst σ h) (λ x => gB (σ x.1) x.2 (aUC g.op g.dst σ h)) g.guard
def rK (b : Bool) (x : Option R) : Option R := Bool.rec none x b
def reK (pre : List DR) (σ : Rg) (h : H) (x : Option R) (l : Ln) : Option R :=
 List.rec (motive := λ _ => Option R) x (λ q _ ih => rK (Option.rec (motive := λ _ => Bool) false (λ g => lS g σ h) (pX q pre)) ih) l
def aHi (E : aX) (l : List DR) : List DR -> Rg -> H -> (Rg -> H -> Option R) -> Option R :=
 List.rec (motive := λ _ => List DR -> Rg -> H -> (Rg -> H -> Option R) -> Option R) (λ _ σ h k => k σ h)
   (λ x _ ih pre σ h k => aHj E x.g σ h λ σ h => reK pre σ h (ih (x :: pre) σ h k) x.re) l
abbrev fR (R : Type) := DX -> Rg -> H -> Option R
def vV (k : Rg -> H -> Option R) (K : fR R) : fR R := λ x σ h =>
 DX.rec (motive := λ _ => Option R) (k σ h) (λ id => K (.exit id) σ h) (K .ret σ h) x
def aJR (id : Nat) (K : fR R) : fR R := λ x σ h =>
 DX.rec (motive := λ _ => Option R) (K .normal σ h) (λ i => Bool.rec (K (.exit i) σ h) (K .normal σ h) (Nat.beq i id)) (K .ret σ h) x
def aIY (K : fR R) : fR R := λ x σ h =>
 DX.rec (motive := λ _ => Option R) (K .normal σ h) (λ i => Bool.rec none (K (.exit i) σ h) (Nat.blt i 4294967296)) (K .ret σ h) x
def tI (g : Nat) (k : Rg -> H -> Option R) (K : fR R) : fR R := λ x σ h =>
 DX.rec (motive := λ _ => Option R) (K .normal σ h) (λ i => Bool.rec (Bool.rec none (K (.exit i) σ h) (Nat.blt i 4294967296)) (k σ h) (Nat.beq i g)) (K .ret σ h) x
def nB (body : Rg -> H -> fR R -> Option R) (g : Nat) (K : fR R) (n : Nat) : Rg -> H -> Option R :=
 Nat.rec (motive := λ _ => Rg -> H -> Option R) (λ _ _ => none) (λ _ ih σ h => body σ h (tI g ih K)) n
def pV (body : Rg -> H -> fR R -> Option R) (K : fR R) (n : Nat) : Rg -> H -> Option R :=
 Nat.rec (motive := λ _ => Rg -> H -> Option R) (λ _ _ => none) (λ _ ih σ h => body σ h (vV ih K)) n
def aXJ (p : Pa) (K : fR R) : fR R := λ x σ h => aGW (σ p) h λ h => K x σ h
def iI [Agr R] (E : aX) (c : DC) : Rg -> H -> fR R -> Option R :=
 DC.rec (motive := λ _ => Rg -> H -> fR R -> Option R)
   (λ σ h K => K .normal σ h)
   (λ l σ h K => uS E l σ h λ σ h => K .normal σ h)
   (λ _ _ ia ib σ h K => ia σ h (vV (λ σ h => ib σ h K) K))
   (λ c _ _ ia ib σ h K => bK (e2 σ c) (ia σ h K) (ib σ h K))
   (λ id _ ia σ h K => ia σ h (aJR id K))
   (λ _ ia σ h K => pV ia K aY σ h)
   (λ id σ h K => K (.exit id) σ h)
   (λ σ h K => K .ret σ h)
   (λ _ ia σ h K => ia σ h (aIY K))
   (λ l σ h K => aHi E l [] σ h λ σ h => K .normal σ h)
   (λ _ _ _ => none)
   (λ g _ _ ia ir σ h K => ia σ h (tI g (nB ir g K aY) K))
   (λ p x l σ h K => aMj (e2 σ x) h λ v h => uS E l (aMz p v σ) h λ σ h => K .normal σ h)
   (λ _ p _ ia σ h K => ia σ h (aXJ p K)) c
end
def rv2 (σ : Rg) (h : H) (r : RV) (k : DV -> Option (DV × H)) : Option (DV × H) :=
 RV.rec (motive := λ _ => Option (DV × H)) (λ p => k (σ p)) (λ p => vK (aF h.get (σ p)) k) (λ p n => vK (cR n h.get (σ p)) k) r
def aNy (σ : Rg) (h : H) (l : List RV) : (List DV -> Option (DV × H)) -> Option (DV × H) :=
 List.rec (motive := λ _ => (List DV -> Option (DV × H)) -> Option (DV × H)) (λ k => k []) (λ r _ ih k => rv2 σ h r λ v => ih λ vs => k (v :: vs)) l
def aJi (res : List RV) : fR (DV × H) := λ x σ h =>
 DX.rec (motive := λ _ => Option (DV × H)) (aNy σ h res λ vs => some (iG vs, h)) (λ _ => none) (aNy σ h res λ vs => some (iG vs, h)) x
def aGJ (E : aX) (d : DF) : bB := λ args h => Bool.rec none (iI E d.body (reg (Tr.ofL args)) h (aJi d.res)) (Nat.beq args.length d.np)
section
variable {R : Type} {E : aX} {ρ : Tr DV}
theorem aJo (d : yQ) (ρ : Tr DV) (h : H) (k : DV -> H -> Option R) : aNP E d (reg ρ) h k = (odo E d ρ h).bind λ x => k x.1 x.2 := by
 cases d with
 | e d => exact aUQ E d ρ h k
 | w d =>
   rw [<- aWQ]; cases d <;> (show wK _ k = wK _ k; simp only [odo, wdo, bQ, yK, iK, aML])
 | c d =>
   rw [<- aWQ]; cases d with
   | f f args => show wK (aB E f (args.map (e2 (reg ρ))) h) k = wK (aB E f (args.map (ev ρ)) h) k; rw [bQ]
   | v f args => show wK (mJ E (e2 (reg ρ) f) (args.map (e2 (reg ρ))) h) k = wK (mJ E (ev ρ f) (args.map (ev ρ)) h) k; rw [bQ]
   | m tbl x args => show wK (aFO E tbl (e2 (reg ρ) x) (args.map (e2 (reg ρ))) h) k = wK (aFO E tbl (ev ρ x) (args.map (ev ρ)) h) k; rw [bQ]
theorem aNF (dst : Option Pa) (v : DV) (ρ : Tr DV) : reg (nU dst v ρ) = uP dst v (reg ρ) := by
 cases dst with
 | none => rfl
 | some p => exact aJk ρ p v
theorem bIA (p : Pa) (t : Bool) (a b : Option R) : gK (reg ρ p) t a b = bif cX ρ (some (p, t)) then a else b := by
 show gK (ev ρ (.r p)) t a b = _; unfold cX; simp only []; generalize ev ρ (.r p) = x; cases x <;> try rfl
 rename_i c; cases c <;> cases t <;> rfl
theorem bIB (p : Pa) (t : Bool) (x : Bool) : gB (reg ρ p) t x = bif cX ρ (some (p, t)) then x else true := by
 show gB (ev ρ (.r p)) t x = _; unfold cX; simp only []; generalize ev ρ (.r p) = y; cases y <;> try rfl
 rename_i c; cases c <;> cases t <;> rfl
theorem aCe (g : DG) (h : H) (k : Tr DV -> H -> Option R) (k2 : Rg -> H -> Option R) (hk : ∀ ρ h, k ρ h = k2 (reg ρ) h) : jA E g ρ h k = aHj E g (reg ρ) h k2 := by
 obtain ⟨dst, guard, op⟩ := g; unfold jA; simp only [jE, hk, aNF]; cases guard with
 | none =>
   show (odo E op ρ h).bind (λ x => k2 (uP dst x.1 (reg ρ)) x.2) = aNP E op (reg ρ) h λ v h => k2 (uP dst v (reg ρ)) h
   rw [aJo]
 | some x =>
   obtain ⟨p, t⟩ := x; show _ = gK (reg ρ p) t (aNP E op (reg ρ) h λ v h => k2 (uP dst v (reg ρ)) h) (k2 (uP dst (.tup []) (reg ρ)) h)
   rw [bIA, aJo]
theorem tJ : ∀ (l : List DG) (ρ : Tr DV) (h : H) (k : Tr DV -> H -> Option R) (k2 : Rg -> H -> Option R), (∀ ρ h, k ρ h = k2 (reg ρ) h) -> lE E l ρ h k = uS E l (reg ρ) h k2
 | [], ρ, h, k, k2, hk => hk ρ h
 | g :: l, ρ, h, k, k2, hk => aCe g h _ (λ σ h => uS E l σ h k2) λ ρ h => tJ l ρ h k k2 hk
theorem aUB (g : DG) (h : H) : mB g ρ h = lS g (reg ρ) h := by
 obtain ⟨dst, guard, op⟩ := g; have key : (match op, dst with
     | .e d, some p => match bZ d ρ h.get with
       | some (.val v) => iB v (ev ρ (.r p))
       | _ => false
     | _, _ => false) = aUC op dst (reg ρ) h := by
   cases op with
   | w d => rfl
   | c d => rfl
   | e d =>
     cases dst with
     | none => rfl
     | some p =>
       show _ = zS (dH d (reg ρ) h.get) (reg ρ p); simp only []; cases hd : aJt d with
       | false =>
         rw [aCf hd]; cases dH d (reg ρ) h.get <;> rfl
       | true =>
         have e1 : dH d (reg ρ) h.get = none := by cases d <;> first | (cases hd; done) | rfl
         rw [e1]; show _ = false; split
         · rename_i v hv
           exfalso
           cases d <;> first | (cases hd; done) | skip
           · cases hv
           · cases hv
           · simp only [bZ, aR] at hv; cases hv
           · rename_i a b c d; simp only [bZ] at hv; cases hq : eM (gI c a) (d.map λ p => (p.1, p.2.1, ev ρ p.2.2)) with
             | none => rw [hq] at hv; cases hv
             | some cs => rw [hq] at hv; cases hv
           · simp only [bZ] at hv; split at hv
             · obtain ⟨_, hv⟩ := aL hv; cases hv
             · cases hv
           · cases hv
           · simp only [bZ, aR] at hv; split at hv <;> cases hv
         · rfl
 unfold mB lS; cases guard with
 | none => exact key
 | some x =>
   obtain ⟨p, t⟩ := x; show _ = gB (reg ρ p) t (aUC op dst (reg ρ) h); rw [bIB, <- key]
   rfl
theorem aNG (pre : List DR) (h : H) (x : Option R) : ∀ l : Ln, (bif l.all (eZ pre ρ h) then x else none) = reK pre (reg ρ) h x l
 | [] => rfl
 | q :: l => by
   show _ = rK (Option.rec (motive := λ _ => Bool) false (λ g => lS g (reg ρ) h) (pX q pre)) (reK pre (reg ρ) h x l)
   rw [<- aNG pre h x l]; have e : eZ pre ρ h q = Option.rec (motive := λ _ => Bool) false (λ g => lS g (reg ρ) h) (pX q pre) := by
     unfold eZ; cases pX q pre with
     | none => rfl
     | some g => exact aUB g h
   rw [<- e, List.all_cons]; cases eZ pre ρ h q <;> rfl
theorem aCc : ∀ (l pre : List DR) (ρ : Tr DV) (h : H) (k : Tr DV -> H -> Option R) (k2 : Rg -> H -> Option R), (∀ ρ h, k ρ h = k2 (reg ρ) h) -> gV E l pre ρ h k = aHi E l pre (reg ρ) h k2
 | [], pre, ρ, h, k, k2, hk => hk ρ h
 | x :: l, pre, ρ, h, k, k2, hk => by
   refine aCe x.g h (λ ρ h => bif x.re.all (eZ pre ρ h) then gV E l (x :: pre) ρ h k else none) (λ σ h => reK pre σ h (aHi E l (x :: pre) σ h k2) x.re) λ ρ h => ?_
   rw [<- aCc l (x :: pre) ρ h k k2 hk]; exact aNG pre h _ x.re
theorem aOB [Agr R] : ∀ (d : DC) (ρ : Tr DV) (h : H) (K : KT R) (K2 : fR R), (∀ x ρ h, K x ρ h = K2 x (reg ρ) h) -> lF E d ρ h K = iI E d (reg ρ) h K2 := by
 intro d
 induction d with
 | skip => intro ρ h K K2 hk; exact hk .normal ρ h
 | reg l => intro ρ h K K2 hk; exact tJ l ρ h _ _ λ ρ h => hk .normal ρ h
 | seq a b iha ihb =>
   intro ρ h K K2 hk; refine iha ρ h _ (vV (λ σ h => iI E b σ h K2) K2) λ x ρ h => ?_
   cases x with
   | normal => exact ihb ρ h K K2 hk
   | exit i => exact hk (.exit i) ρ h
   | ret => exact hk .ret ρ h
 | cond c a b iha ihb =>
   intro ρ h K K2 hk; show pL c a b (lF E a) (lF E b) ρ h K = bK (e2 (DI.reg ρ) c) (iI E a (DI.reg ρ) h K2) (iI E b (DI.reg ρ) h K2); rw [<- iha ρ h K K2 hk, <- ihb ρ h K K2 hk, aHm]; unfold pL bK; cases ev ρ c <;> try rfl
   rename_i t; cases t <;> rfl
 | block id a iha =>
   intro ρ h K K2 hk; refine iha ρ h _ (aJR id K2) λ x ρ h => ?_
   cases x with
   | normal => exact hk .normal ρ h
   | exit i =>
     show (bif Nat.beq i id then K .normal ρ h else K (.exit i) ρ h) = Bool.rec (K2 (.exit i) (DI.reg ρ) h) (K2 .normal (DI.reg ρ) h) (Nat.beq i id); cases Nat.beq i id
     · exact hk (.exit i) ρ h
     · exact hk .normal ρ h
   | ret => exact hk .ret ρ h
 | loop a iha =>
   intro ρ h K K2 hk; show aBR (lF E a) K aY ρ h = pV (iI E a) K2 aY (DI.reg ρ) h; generalize aY = n
   induction n generalizing ρ h with
   | zero => rfl
   | succ n ih =>
     refine iha ρ h _ (vV (pV (iI E a) K2 n) K2) λ x ρ h => ?_
     cases x with
     | normal => exact ih ρ h
     | exit i => exact hk (.exit i) ρ h
     | ret => exact hk .ret ρ h
 | exit id => intro ρ h K K2 hk; exact hk (.exit id) ρ h
 | ret => intro ρ h K K2 hk; exact hk .ret ρ h
 | scope a iha =>
   intro ρ h K K2 hk; refine iha ρ h _ (aIY K2) λ x ρ h => ?_
   cases x with
   | normal => exact hk .normal ρ h
   | exit i =>
     show (bif Nat.blt i 4294967296 then K (.exit i) ρ h else none) = Bool.rec none (K2 (.exit i) (DI.reg ρ) h) (Nat.blt i 4294967296); cases Nat.blt i 4294967296
     · rfl
     · exact hk (.exit i) ρ h
   | ret => exact hk .ret ρ h
 | jump g a r iha ihr =>
   intro ρ h K K2 hk; have jk : ∀ (k : Tr DV -> H -> Option R) (k2 : Rg -> H -> Option R), (∀ ρ h, k ρ h = k2 (DI.reg ρ) h) -> ∀ x ρ h, aAd g k K x ρ h = tI g k2 K2 x (DI.reg ρ) h := by
     intro k k2 hkk x ρ h; cases x with
     | normal => exact hk .normal ρ h
     | exit i =>
       show (bif Nat.beq i g then k ρ h else bif Nat.blt i 4294967296 then K (.exit i) ρ h else none) = Bool.rec (Bool.rec none (K2 (.exit i) (DI.reg ρ) h) (Nat.blt i 4294967296)) (k2 (DI.reg ρ) h) (Nat.beq i g); cases Nat.beq i g
       · cases Nat.blt i 4294967296
         · rfl
         · exact hk (.exit i) ρ h
       · exact hkk ρ h
     | ret => exact hk .ret ρ h
   have key : ∀ n ρ h, xO (lF E r) g K n ρ h = nB (iI E r) g K2 n (DI.reg ρ) h := by
     intro n
     induction n with
     | zero => intro ρ h; rfl
     | succ n ih => intro ρ h; exact ihr ρ h _ (tI g (nB (iI E r) g K2 n) K2) (jk _ _ ih)
   exact iha ρ h _ (tI g (nB (iI E r) g K2 aY) K2) (jk _ _ (key aY))
 | drg l => intro ρ h K K2 hk; exact aCc l [] ρ h _ _ λ ρ h => hk .normal ρ h
 | bad => intro ρ h K K2 hk; rfl
 | nxt p x l =>
   intro ρ h K K2 hk; show aEp E p x l ρ h K = aMj (e2 (DI.reg ρ) x) h λ v h => uS E l (aMz p v (DI.reg ρ)) h λ σ h => K2 .normal σ h
   unfold aEp; rw [aHm]
   congr 1
   funext v h
   rw [jE, <- aJk]; exact tJ l _ h _ _ λ ρ h => hk .normal ρ h
 | fin t p a iha =>
   intro ρ h K K2 hk; refine iha ρ h _ (aXJ p K2) λ x ρ h => ?_
   show aGW (ev ρ (.r p)) h (λ h => K x ρ h) = aGW (DI.reg ρ p) h λ h => K2 x (DI.reg ρ) h
   congr 1
   funext h
   exact hk x ρ h
theorem aJa (h : H) : ∀ (l : List RV) (k : List DV -> Option (DV × H)), aNy (reg ρ) h l k = (fQ ρ h l).bind k
 | [], k => rfl
 | r :: l, k => by
   show rv2 (reg ρ) h r (λ v => aNy (reg ρ) h l λ vs => k (v :: vs)) = _
   simp only [aJa h l]; have e : ∀ q : DV -> Option (DV × H), rv2 (reg ρ) h r q = (sP ρ h r).bind q := by
     intro q; cases r with
     | r p => rfl
     | cell p =>
       show vK (aF h.get (ev ρ (.r p))) q = _; rw [aWS]; simp only [sP, aF, bM]; generalize ev ρ (.r p) = y; cases y <;> rfl
     | cells p n =>
       show vK (cR n h.get (ev ρ (.r p))) q = _; rw [aWS]; simp only [sP, cR, bJ]; generalize ev ρ (.r p) = y; cases y <;> rfl
   rw [e]; simp only [fQ]; cases sP ρ h r with
   | none => rfl
   | some v =>
     simp only [Option.bind_some]; cases fQ ρ h l <;> rfl
theorem aMd (E : aX) (d : DF) (args : List DV) (h : H) : gU E d args h = aGJ E d args h := by
 unfold gU aGJ; cases Nat.beq args.length d.np with
 | false => rfl
 | true =>
   show lF E d.body (Tr.ofL args) h (aUA d.res) = iI E d.body (reg (Tr.ofL args)) h (aJi d.res); refine aOB d.body _ h _ _ λ x ρ h => ?_
   have e : ((fQ ρ h d.res).map λ vs => (iG vs, h)) = aNy (reg ρ) h d.res λ vs => some (iG vs, h) := by
     rw [aJa]; cases fQ ρ h d.res <;> rfl
   cases x with
   | normal => exact e
   | exit i => rfl
   | ret => exact e
end
section
variable {R : Type}
abbrev bHA (d : WOp) : Rg -> H -> (DV -> H -> Option R) -> Option R :=
 WOp.rec (motive := λ _ => Rg -> H -> (DV -> H -> Option R) -> Option R)
   (λ n a x σ h k => wK (cQ n (e2 σ a) (e2 σ x) h) k)
   (λ es bytes x y σ h k => wK (cG es bytes (e2 σ x) (e2 σ y) h) k)
   (λ es x y σ h k => wK (jK es (e2 σ x) (e2 σ y) h) k)
   (λ kt x q y σ h k => wK (aBu kt (e2 σ x) (e2 σ q) (e2 σ y) h) k)
   (λ zs x σ h k => wK (qF zs (e2 σ x) h) k)
   (λ x σ h k => wK (lL (e2 σ x) h) k)
   (λ es bytes zs x y σ h k => wK (aBv es bytes zs (e2 σ x) (e2 σ y) h) k)
   (λ x σ h k => wK (aPc (e2 σ x) h) k)
   (λ x σ h k => wK (aPh (e2 σ x) h) k)
   (λ kt x q σ h k => wK (aFD kt (e2 σ x) (e2 σ q) h) k)
   (λ kt z x q σ h k => wK (rN kt z (e2 σ x) (e2 σ q) h) k)
   (λ x q y σ h k => wK (aFy (e2 σ x) (e2 σ q) (e2 σ y) h) k) d
abbrev bHB (E : aX) (d : COp) : Rg -> H -> (DV -> H -> Option R) -> Option R :=
 COp.rec (motive := λ _ => Rg -> H -> (DV -> H -> Option R) -> Option R)
   (λ f args σ h k => wK (aB E f (args.map (e2 σ)) h) k)
   (λ f args σ h k => wK (mJ E (e2 σ f) (args.map (e2 σ)) h) k)
   (λ tbl x args σ h k => wK (aFO E tbl (e2 σ x) (args.map (e2 σ)) h) k) d
abbrev odo3 (E : aX) (d : yQ) : Rg -> H -> (DV -> H -> Option R) -> Option R :=
 yQ.rec (motive := λ _ => Rg -> H -> (DV -> H -> Option R) -> Option R) aUR bHA (bHB E) d
abbrev aOz (E : aX) (g : DG) (σ : Rg) (h : H) (k : Rg -> H -> Option R) : Option R :=
 Option.rec (motive := λ _ => Option R) (odo3 E g.op σ h λ v h => k (uP g.dst v σ) h)
   (λ x => aP (σ x.1) x.2 (λ kk => odo3 E g.op σ h kk) h λ v h => k (uP g.dst v σ) h) g.guard
abbrev aJB (E : aX) (l : List DG) : Rg -> H -> (Rg -> H -> Option R) -> Option R :=
 List.rec (motive := λ _ => Rg -> H -> (Rg -> H -> Option R) -> Option R) (λ σ h k => k σ h) (λ g _ ih σ h k => aOz E g σ h λ σ h => ih σ h k) l
abbrev reK3 (pre : List DR) (σ : Rg) (h : H) (x : Option R) (l : Ln) : Option R :=
 List.rec (motive := λ _ => Option R) x (λ q _ ih => rK (Option.rec (motive := λ _ => Bool) false (λ g => lS g σ h) (pX q pre)) ih) l
abbrev bAg (E : aX) (l : List DR) : List DR -> Rg -> H -> (Rg -> H -> Option R) -> Option R :=
 List.rec (motive := λ _ => List DR -> Rg -> H -> (Rg -> H -> Option R) -> Option R) (λ _ σ h k => k σ h)
   (λ x _ ih pre σ h k => aOz E x.g σ h λ σ h => reK3 pre σ h (ih (x :: pre) σ h k) x.re) l
abbrev bP (k : Rg -> H -> Option R) (K : fR R) : fR R := λ x σ h =>
 DX.rec (motive := λ _ => Option R) (k σ h) (λ id => K (.exit id) σ h) (K .ret σ h) x
abbrev bH (id : Nat) (K : fR R) : fR R := λ x σ h =>
 DX.rec (motive := λ _ => Option R) (K .normal σ h) (λ i => Bool.rec (K (.exit i) σ h) (K .normal σ h) (Nat.beq i id)) (K .ret σ h) x
abbrev uC (K : fR R) : fR R := λ x σ h =>
 DX.rec (motive := λ _ => Option R) (K .normal σ h) (λ i => Bool.rec none (K (.exit i) σ h) (Nat.blt i 4294967296)) (K .ret σ h) x
abbrev tH (g : Nat) (k : Rg -> H -> Option R) (K : fR R) : fR R := λ x σ h =>
 DX.rec (motive := λ _ => Option R) (K .normal σ h) (λ i => Bool.rec (Bool.rec none (K (.exit i) σ h) (Nat.blt i 4294967296)) (k σ h) (Nat.beq i g)) (K .ret σ h) x
abbrev bIK (p : Pa) (K : fR R) : fR R := λ x σ h => aGW (σ p) h λ h => K x σ h
abbrev fW [Agr R] (E : aX) (c : DC) : Rg -> H -> fR R -> Option R :=
 DC.rec (motive := λ _ => Rg -> H -> fR R -> Option R)
   (λ σ h K => K .normal σ h)
   (λ l σ h K => aJB E l σ h λ σ h => K .normal σ h)
   (λ _ _ ia ib σ h K => ia σ h (bP (λ σ h => ib σ h K) K))
   (λ c _ _ ia ib σ h K => bK (e2 σ c) (ia σ h K) (ib σ h K))
   (λ id _ ia σ h K => ia σ h (bH id K))
   (λ _ ia σ h K => pV ia K aY σ h)
   (λ id σ h K => K (.exit id) σ h)
   (λ σ h K => K .ret σ h)
   (λ _ ia σ h K => ia σ h (uC K))
   (λ l σ h K => bAg E l [] σ h λ σ h => K .normal σ h)
   (λ _ _ _ => none)
   (λ g _ _ ia ir σ h K => ia σ h (tH g (nB ir g K aY) K))
   (λ p x l σ h K => aMj (e2 σ x) h λ v h => aJB E l (aMz p v σ) h λ σ h => K .normal σ h)
   (λ _ p _ ia σ h K => ia σ h (bIK p K)) c
end
abbrev rv3 (σ : Rg) (h : H) (r : RV) (k : DV -> Option (DV × H)) : Option (DV × H) :=
 RV.rec (motive := λ _ => Option (DV × H)) (λ p => k (σ p)) (λ p => vK (aF h.get (σ p)) k) (λ p n => vK (cR n h.get (σ p)) k) r
abbrev rvs3 (σ : Rg) (h : H) (l : List RV) : (List DV -> Option (DV × H)) -> Option (DV × H) :=
 List.rec (motive := λ _ => (List DV -> Option (DV × H)) -> Option (DV × H)) (λ k => k []) (λ r _ ih k => rv3 σ h r λ v => ih λ vs => k (v :: vs)) l
abbrev aZ (res : List RV) : fR (DV × H) := λ x σ h =>
 DX.rec (motive := λ _ => Option (DV × H)) (rvs3 σ h res λ vs => some (iG vs, h)) (λ _ => none) (rvs3 σ h res λ vs => some (iG vs, h)) x
theorem aOA {R : Type} [Agr R] (E : aX) (c : DC) (σ : Rg) (h : H) (K : fR R) : fW E c σ h K = iI E c σ h K := by
 induction c generalizing σ h K with
 | skip => rfl
 | reg l => rfl
 | seq a b iha ihb =>
   show fW E a σ h (bP (λ σ h => fW E b σ h K) K) = iI E a σ h (vV (λ σ h => iI E b σ h K) K)
   rw [iha, show (λ σ h => fW E b σ h K) = λ σ h => iI E b σ h K from funext λ σ => funext λ h => ihb σ h K]
   rfl
 | cond c a b iha ihb =>
   show bK (e2 σ c) (fW E a σ h K) (fW E b σ h K) = bK (e2 σ c) (iI E a σ h K) (iI E b σ h K); rw [iha, ihb]
 | block id a iha => exact iha σ h _
 | loop a iha =>
   have e : fW (R := R) E a = iI E a := funext λ σ => funext λ h => funext λ K => iha σ h K
   show pV (fW E a) K aY σ h = pV (iI E a) K aY σ h; rw [e]
 | exit id => rfl
 | ret => rfl
 | scope a iha => exact iha σ h _
 | drg l => rfl
 | bad => rfl
 | nxt p x l => rfl
 | fin t p a iha => exact iha σ h _
 | jump g a r iha ihr =>
   have e : fW (R := R) E r = iI E r := funext λ σ => funext λ h => funext λ K => ihr σ h K
   show fW E a σ h (tH g (nB (fW E r) g K aY) K) = iI E a σ h (tI g (nB (iI E r) g K aY) K); rw [e, iha]; rfl
def Is {R : Type} [Agr R] (E : aX) (c : DC) (K : fR R) (S : Rg -> H -> Option R) : Prop := ∀ σ h, fW E c σ h K = S σ h
section
variable {R : Type} [Agr R] {E : aX} {K : fR R}
theorem Is.leaf (c : DC) : Is E c K λ σ h => fW E c σ h K := λ _ _ => rfl
theorem Is.seq {a b : DC} {Sa Sb : Rg -> H -> Option R} (hb : Is E b K Sb) (ha : Is E a (bP Sb K) Sa) : Is E (.seq a b) K Sa := λ σ h => by
 have e : (λ σ h => fW E b σ h K) = Sb := funext λ σ => funext λ h => hb σ h
 show fW E a σ h (bP (λ σ h => fW E b σ h K) K) = _
 rw [e]; exact ha σ h
theorem Is.cond {c : aU} {a b : DC} {Sa Sb : Rg -> H -> Option R} (ha : Is E a K Sa) (hb : Is E b K Sb) : Is E (.cond c a b) K λ σ h => bK (e2 σ c) (Sa σ h) (Sb σ h) := λ σ h => by
 show bK (e2 σ c) (fW E a σ h K) (fW E b σ h K) = _; rw [ha, hb]
theorem Is.block {id : Nat} {a : DC} {Sa : Rg -> H -> Option R} (ha : Is E a (bH id K) Sa) : Is E (.block id a) K Sa := ha
theorem Is.scope {a : DC} {Sa : Rg -> H -> Option R} (ha : Is E a (uC K) Sa) : Is E (.scope a) K Sa := ha
theorem Is.jump {g : Nat} {a r : DC} {Sa : Rg -> H -> Option R} (S : Nat -> Rg -> H -> Option R) (h0 : S 0 = λ _ _ => none) (hs : ∀ n, Is E r (tH g (S n) K) (S (n + 1))) (ha : Is E a (tH g (S aY) K) Sa) : Is E (.jump g a r) K Sa := by
 have key : ∀ n, nB (fW E r) g K n = S n := by
   intro n
   induction n with
   | zero => exact h0.symm
   | succ n ih =>
     funext σ h
     show fW E r σ h (tI g (nB (fW E r) g K n) K) = _; rw [ih]; exact hs n σ h
 intro σ h; show fW E a σ h (tH g (nB (fW E r) g K aY) K) = _; rw [key aY]; exact ha σ h
theorem Is.loop {a : DC} (S : Nat -> Rg -> H -> Option R) (h0 : S 0 = λ _ _ => none) (hs : ∀ n, Is E a (bP (S n) K) (S (n + 1))) : Is E (.loop a) K (S aY) := by
 have key : ∀ n, pV (fW E a) K n = S n := by
   intro n
   induction n with
   | zero => exact h0.symm
   | succ n ih =>
     funext σ h
     show fW E a σ h (vV (pV (fW E a) K n) K) = _; rw [ih]; exact hs n σ h
 exact λ σ h => congrFun (congrFun (key aY) σ) h
theorem Is.as {c : DC} {S T : Rg -> H -> Option R} (h : Is E c K S) (e : ∀ σ m, S σ m = T σ m) : Is E c K T := λ σ m => (h σ m).trans (e σ m)
end
end Go.DI
namespace Go.DI
open Go.RowKit
def a0 {R : Type} (args : List DV) (x : Option R) : Option R := List.rec (motive := λ _ => Option R) x (λ _ _ _ => none) args
def aS {R : Type} (args : List DV) (k : DV -> List DV -> Option R) : Option R := List.rec (motive := λ _ => Option R) none (λ v vs _ => k v vs) args
abbrev aQ := Option (DV × H)
theorem Is.fn {E : aX} {d : DF} {S : Rg -> H -> aQ} (h : Is E d.body (aZ d.res) S) {np : Nat} (hn : d.np = np) (F : bB) (hF : ∀ args h, args.length = np -> S (reg (Tr.ofL args)) h = F args h) (h0 : ∀ args h, args.length ≠ np -> F args h = none) (args : List DV) (m : H) : gU E d args m = F args m := by
 rw [aMd]; unfold aGJ; have e0 : ∀ σ m, iI E d.body σ m (aJi d.res) = S σ m := λ σ m => (aOA E d.body σ m (aJi d.res)).symm.trans (h σ m)
 subst hn; by_cases e : args.length = d.np
 · rw [e, Nat.beq_refl]; exact (e0 _ m).trans (hF args m e)
 · have : Nat.beq args.length d.np = false := by
     cases hb : Nat.beq args.length d.np
     · rfl
     · exact absurd (Nat.eq_of_beq_eq_true hb) e
   rw [this]; exact (h0 args m e).symm
theorem Is.fn0 {E : aX} {d : DF} {S : Rg -> H -> aQ} (h : Is E d.body (aZ d.res) S) (hn : d.np = 0) (J : H -> aQ) (e : ∀ h, S (reg (Tr.ofL [])) h = J h) (args : List DV) (m : H) : gU E d args m = a0 args (J m) :=
 h.fn hn (λ args h => a0 args (J h)) (λ args h hl => by
   match args, hl with
   | [], _ => exact e h) (λ args h hl => by
   match args, hl with
   | [], hl => exact absurd rfl hl
   | _ :: _, _ => rfl) args m
theorem Is.fn1 {E : aX} {d : DF} {S : Rg -> H -> aQ} (h : Is E d.body (aZ d.res) S) (hn : d.np = 1) (J : DV -> H -> aQ) (e : ∀ r0 h, S (reg (Tr.ofL [r0])) h = J r0 h) (args : List DV) (m : H) : gU E d args m = (λ args h => aS args λ r0 args => a0 args (J r0 h)) args m :=
 h.fn hn (λ args h => aS args λ r0 args => a0 args (J r0 h)) (λ args h hl => by
   match args, hl with
   | [r0], _ => exact e r0 h) (λ args h hl => by
   match args, hl with
   | [], _ => rfl
   | [r0], hl => exact absurd rfl hl
   | _ :: _ :: _, _ => rfl) args m
theorem Is.fn2 {E : aX} {d : DF} {S : Rg -> H -> aQ} (h : Is E d.body (aZ d.res) S) (hn : d.np = 2) (J : DV -> DV -> H -> aQ) (e : ∀ r0 r1 h, S (reg (Tr.ofL [r0, r1])) h = J r0 r1 h) (args : List DV) (m : H) : gU E d args m = (λ args h => aS args λ r0 args => aS args λ r1 args => a0 args (J r0 r1 h)) args m :=
 h.fn hn (λ args h => aS args λ r0 args => aS args λ r1 args => a0 args (J r0 r1 h)) (λ args h hl => by
   match args, hl with
   | [r0, r1], _ => exact e r0 r1 h) (λ args h hl => by
   match args, hl with
   | [], _ => rfl
   | [_], _ => rfl
   | [r0, r1], hl => exact absurd rfl hl
   | _ :: _ :: _ :: _, _ => rfl) args m
theorem Is.fn3 {E : aX} {d : DF} {S : Rg -> H -> aQ} (h : Is E d.body (aZ d.res) S) (hn : d.np = 3) (J : DV -> DV -> DV -> H -> aQ) (e : ∀ r0 r1 r2 h, S (reg (Tr.ofL [r0, r1, r2])) h = J r0 r1 r2 h) (args : List DV) (m : H) : gU E d args m = (λ args h => aS args λ r0 args => aS args λ r1 args => aS args λ r2 args => a0 args (J r0 r1 r2 h)) args m :=
 h.fn hn (λ args h => aS args λ r0 args => aS args λ r1 args => aS args λ r2 args => a0 args (J r0 r1 r2 h)) (λ args h hl => by
   match args, hl with
   | [r0, r1, r2], _ => exact e r0 r1 r2 h) (λ args h hl => by
   match args, hl with
   | [], _ => rfl
   | [_], _ => rfl
   | [_, _], _ => rfl
   | [r0, r1, r2], hl => exact absurd rfl hl
   | _ :: _ :: _ :: _ :: _, _ => rfl) args m
theorem Is.fn4 {E : aX} {d : DF} {S : Rg -> H -> aQ} (h : Is E d.body (aZ d.res) S) (hn : d.np = 4) (J : DV -> DV -> DV -> DV -> H -> aQ) (e : ∀ r0 r1 r2 r3 h, S (reg (Tr.ofL [r0, r1, r2, r3])) h = J r0 r1 r2 r3 h) (args : List DV) (m : H) : gU E d args m = (λ args h => aS args λ r0 args => aS args λ r1 args => aS args λ r2 args => aS args λ r3 args => a0 args (J r0 r1 r2 r3 h)) args m :=
 h.fn hn (λ args h => aS args λ r0 args => aS args λ r1 args => aS args λ r2 args => aS args λ r3 args => a0 args (J r0 r1 r2 r3 h)) (λ args h hl => by
   match args, hl with
   | [r0, r1, r2, r3], _ => exact e r0 r1 r2 r3 h) (λ args h hl => by
   match args, hl with
   | [], _ => rfl
   | [_], _ => rfl
   | [_, _], _ => rfl
   | [_, _, _], _ => rfl
   | [r0, r1, r2, r3], hl => exact absurd rfl hl
   | _ :: _ :: _ :: _ :: _ :: _, _ => rfl) args m
theorem Is.fn5 {E : aX} {d : DF} {S : Rg -> H -> aQ} (h : Is E d.body (aZ d.res) S) (hn : d.np = 5) (J : DV -> DV -> DV -> DV -> DV -> H -> aQ) (e : ∀ r0 r1 r2 r3 r4 h, S (reg (Tr.ofL [r0, r1, r2, r3, r4])) h = J r0 r1 r2 r3 r4 h) (args : List DV) (m : H) : gU E d args m = (λ args h => aS args λ r0 args => aS args λ r1 args => aS args λ r2 args => aS args λ r3 args => aS args λ r4 args => a0 args (J r0 r1 r2 r3 r4 h)) args m :=
 h.fn hn (λ args h => aS args λ r0 args => aS args λ r1 args => aS args λ r2 args => aS args λ r3 args => aS args λ r4 args => a0 args (J r0 r1 r2 r3 r4 h)) (λ args h hl => by
   match args, hl with
   | [r0, r1, r2, r3, r4], _ => exact e r0 r1 r2 r3 r4 h) (λ args h hl => by
   match args, hl with
   | [], _ => rfl
   | [_], _ => rfl
   | [_, _], _ => rfl
   | [_, _, _], _ => rfl
   | [_, _, _, _], _ => rfl
   | [r0, r1, r2, r3, r4], hl => exact absurd rfl hl
   | _ :: _ :: _ :: _ :: _ :: _ :: _, _ => rfl) args m
structure FD where
 f : Nat
 d : DF
 s : aX -> bB
def oK : List FD -> Prop
 | [] => True
 | x :: l => (∀ E args h, gU E x.d args h = x.s E args h) /\ oK l
theorem oK.mem : ∀ {l : List FD}, oK l -> ∀ x ∈ l, ∀ E args h, gU E x.d args h = x.s E args h
 | y :: l, h, x, hx => by
   rcases List.mem_cons.1 hx with rfl | hx
   · exact h.1
   · exact h.2.mem x hx
theorem oK.append : ∀ {l m : List FD}, oK l -> oK m -> oK (l ++ m)
 | [], _, _, h => h
 | _ :: _, _, h, k => ⟨h.1, h.2.append k⟩
def kY (P : Program) (l : List FD) : Bool := l.all λ x => aFM P x.f x.d
theorem vE {P : Program} {l m : List FD} (h : kY P l = true) (k : kY P m = true) : kY P (l ++ m) = true := by
 unfold kY at *; rw [List.all_append, h, k]; rfl
def aBq : List FD -> Tr (aX -> bB) -> Tr (aX -> bB)
 | [], t => t
 | x :: l, t => aBq l (Tr.set x.s (Pa.of x.f) t)
theorem aCQ : ∀ (l : List FD) (t : Tr (aX -> bB)) (f : Nat) (s : aX -> bB), (aBq l t).at_ f = some s -> t.at_ f = some s \/ ∃ x ∈ l, x.f = f /\ x.s = s
 | [], t, f, d, h => .inl h
 | x :: l, t, f, d, h => by
   rcases aCQ l _ f d h with h | ⟨y, hy, h⟩
   · have := Tr.at_put t x.f f x.s; unfold Tr.put at this; rw [this] at h; split at h
     · rename_i hh; cases h; exact .inr ⟨x, by simp, hh.symm, rfl⟩
     · exact .inl h
   · exact .inr ⟨y, List.mem_cons_of_mem _ hy, h⟩
def SE (B : aX) (T : Tr (aX -> bB)) (n : Nat) : aX := Nat.rec (motive := λ _ => aX) (λ _ => none) (λ _ ih f =>
 Option.rec (motive := λ _ => Option bB) (Option.rec (motive := λ _ => Option bB) none (λ s => some (s ih)) (T.at_ f)) some (B f)) n
structure aFY (P : Program) (T : Tr (aX -> bB)) : Prop where
 ok : ∀ f s, T.at_ f = some s -> fJ P f = true /\ ∀ E, fD P E -> eN P f (s E)
theorem bHq {P : Program} {l : List FD} {T : Tr (aX -> bB)} (hT : aBq l .e = T) (hc : kY P l = true) (he : oK l) : aFY P T := by
 refine ⟨λ f s h => ?_⟩
 rw [<- hT] at h; rcases aCQ l _ f s h with h | ⟨x, hx, rfl, rfl⟩
 · rw [Tr.at_e] at h; cases h
 · have hk := List.all_eq_true.1 hc x hx; refine ⟨aFN hk, λ E hE => ?_⟩
   have e : x.s E = gU E x.d := funext λ args => funext λ h => (he.mem x hx E args h).symm
   rw [e]; exact aOq hE hk
theorem aPH {P : Program} {B : aX} {T : Tr (aX -> bB)} (hB : fD P B) (hT : aFY P T) : ∀ n, fD P (SE B T n)
 | 0 => λ f F hF => by cases hF
 | n + 1 => λ f F hF => by
   replace hF : Option.rec (motive := λ _ => Option bB) (Option.rec (motive := λ _ => Option bB) none (λ s => some (s (SE B T n))) (T.at_ f)) some (B f) = some F := hF
   cases hb : B f with
   | some G => rw [hb] at hF; cases hF; exact hB f F hb
   | none =>
     rw [hb] at hF; cases hs : T.at_ f with
     | none => rw [hs] at hF; cases hF
     | some s =>
       rw [hs] at hF; cases hF; exact ⟨(hT.ok f s hs).1, (hT.ok f s hs).2 _ (aPH hB hT n)⟩
theorem calls_true2 {P : Program} {B : aX} {T : Tr (aX -> bB)} {f : FuncId} {s : aX -> bB} (hB : fD P B) (hT : aFY P T) (hf : T.at_ f = some s) {n : Nat} {args : List DV} {args' : List Value} (hargs : trs (λ _ => none) args = some args')
   (hrun : (s (SE B T n) args H0).map (·.1) = some (.bool true)) (w : World) (hg : aTg w := by first | assumption | exact λ _ h => by cases h) :
   Calls P f args'.toArray w λ e w' => e = .returned (.bool true) /\ Below w.heap.size w w' := by
 cases hr : s (SE B T n) args H0 with
 | none => rw [hr] at hrun; cases hrun
 | some r =>
   obtain ⟨v, h'⟩ := r; rw [hr] at hrun; simp only [Option.map_some, Option.some.injEq] at hrun; subst hrun; refine ((hT.ok f s hf).2 _ (aPH hB hT n) w.heap.size w _ H0 w args args' _ h' hr hargs (bC.start w hg)).mono λ e w' hh => ?_
   obtain ⟨m', v', rfl, h2, h3, h4⟩ := hh; rw [gQ h2]; exact ⟨rfl, h3.below⟩
end Go.DI
namespace Go.DI
open Go.RowKit
section
variable {R : Type}
@[simp] theorem aE (v : DV) (k : DV -> Option R) : vK (some v) k = k v := id rfl
@[simp] theorem bPE (k : DV -> Option R) : vK none k = none := id rfl
@[simp] theorem cY (v : DV) (h : H) (k : DV -> H -> Option R) : wK (some (v, h)) k = k v h := id rfl
@[simp] theorem bPD (k : DV -> H -> Option R) : wK none k = none := id rfl
@[simp] theorem fA (a b : Option R) : bK (.bool true) a b = a := id rfl
@[simp] theorem dE (a b : Option R) : bK (.bool false) a b = b := id rfl
@[simp] theorem aUE (a : Option R) : rK true a = a := id rfl
@[simp] theorem bPW (v : DV) (vs : List DV) (k : DV -> List DV -> Option R) : aS (v :: vs) k = k v vs := id rfl
@[simp] theorem aS_nil (k : DV -> List DV -> Option R) : aS [] k = none := id rfl
@[simp] theorem a0_nil (x : Option R) : a0 [] x = x := id rfl
@[simp] theorem bPX (v : DV) (vs : List DV) (x : Option R) : a0 (v :: vs) x = none := id rfl
end
theorem dP {a b : Nat} (h : a < b) : Nat.blt a b = true := by rw [Nat.blt_eq]; exact h
theorem cF {E : aX} {f : Nat} {F : bB} (h : E f = some F) (args : List DV) (m : H) : aB E f args m = F args m := by unfold aB; rw [h]
theorem fV (k : IntKind) : kEq k k = true := by cases k <;> rfl
theorem nS (k : IntKind) (a b : Int) : bL (.int k a) (.int k b) = some (.int k (k.wrap (a + b))) := by
 show (bif kEq k k then aKd k a b else none) = _; rw [fV]; show gJ k (aOf a b) = _; rw [aDb, fI]
theorem qR (k : IntKind) (a b : Int) : jO (.int k a) (.int k b) = some (.int k (k.wrap (a - b))) := by
 show (bif kEq k k then aJU k a b else none) = _; rw [fV]; show gJ k (a - b) = _; rw [fI]
theorem gW (k : IntKind) (a b : Int) : bF (.int k a) (.int k b) = some (.bool (decide (a < b))) := by
 show (bif kEq k k then aJX k a b else none) = _; rw [fV]; show dM (iLt a b) = _; rw [eX, kJ]
theorem nP (k : IntKind) (a b : Int) : dA (.int k a) (.int k b) = some (.bool (decide (b < a))) := by
 show (bif kEq k k then aJZ k a b else none) = _; rw [fV]; show dM (iLt b a) = _; rw [eX, kJ]
theorem vS (k : IntKind) (a b : Nat) (ha : a < 2 ^ k.bits) (hb : b < 2 ^ k.bits) : nR (.int k (.ofNat a)) (.int k (.ofNat b)) = some (.int k (k.wrap (.ofNat (a &&& b)))) := by
 show (bif kEq k k then aJx k (.ofNat a) (.ofNat b) else none) = _; rw [fV]; show (bif Nat.blt a (2 ^ k.bits) && Nat.blt b (2 ^ k.bits) then gJ k (.ofNat (Nat.land a b)) else _) = _; rw [dP ha, dP hb]; exact fI _ _
theorem kD (k : IntKind) (a b : Nat) (ha : a < 2 ^ k.bits) (hb : b < 2 ^ k.bits) : nM (.int k (.ofNat a)) (.int k (.ofNat b)) = some (.int k (k.wrap (.ofNat (a ^^^ b)))) := by
 show (bif kEq k k then aFo k (.ofNat a) (.ofNat b) else none) = _; rw [fV]; show (bif Nat.blt a (2 ^ k.bits) && Nat.blt b (2 ^ k.bits) then gJ k (.ofNat (Nat.xor a b)) else _) = _; rw [dP ha, dP hb]; exact fI _ _
theorem nN (k k' : IntKind) (a b : Nat) (hb : b <= k.bits) : jP (.int k (.ofNat a)) (.int k' (.ofNat b)) = some (.int k (.ofNat (a / 2 ^ b))) := by
 show kK .shr k (.ofNat a) (.ofNat b) = _; unfold kK; rw [show iLt (.ofNat b) 0 = false from by rw [kJ]; simp]
 simp only [cond_false, kS]; rw [show min (Int.ofNat b).toNat k.bits = b from by simp [Nat.min_eq_left hb]]
 congr 2
 show Int.fdiv (a : Int) (2 ^ b) = ((a / 2 ^ b : Nat) : Int); rw [Int.fdiv_eq_ediv_of_nonneg _ (by exact_mod_cast Nat.zero_le _)]
 simp
theorem gO (k k' : IntKind) (a : Int) : cO k (.int k' a) = some (.int k (k.wrap a)) := fI _ _
theorem kE (s : Ln) : dT (.str s) = some (.int .i64 (.ofNat s.length)) := by
 simp only [dT, aR]
theorem lQ {s : Ln} {i b : Nat} (h : s[i]? = some b) (k : IntKind) : lU (.str s) (.int k (.ofNat i)) = some (.int .u8 (.ofNat b)) := by
 have hi : i < s.length := by
   rcases Nat.lt_or_ge i s.length with h1 | h1
   · exact h1
   · rw [List.getElem?_eq_none h1] at h; cases h
 simp only [lU, mQ]; rw [dP hi, h]; rfl
theorem wrap_u32 {n : Nat} (h : n < 4294967296) : IntKind.u32.wrap (.ofNat n) = .ofNat n := by
 rw [IntKind.wrap_u32]; simp only [Int.ofNat_eq_natCast]; omega
theorem wrap_i64 {n : Nat} (h : n < 9223372036854775808) : IntKind.i64.wrap (.ofNat n) = .ofNat n := by
 rw [kU] <;> simp only [Int.ofNat_eq_natCast] <;> omega
def gR (c : Nat) : Nat := Nat.xor (Nat.div c 2) (bif Nat.beq (Nat.mod c 2) 0 then 0 else 3988292384)
def iX : Nat -> Nat -> Nat
 | 0, c => c
 | k + 1, c => iX k (gR c)
def aUx (c : Nat) : Nat := cJ (gR c) λ c => cJ (gR c) λ c => cJ (gR c) λ c => cJ (gR c) λ c => cJ (gR c) λ c => cJ (gR c) λ c => cJ (gR c) λ c => gR c
theorem aUw (c : Nat) : aUx c = iX 8 c := by
 unfold aUx; simp only [aR]
 rfl
theorem oN {c : Nat} (h : c < 4294967296) : gR c < 4294967296 := by
 show (c / 2) ^^^ (bif Nat.beq (c % 2) 0 then 0 else 3988292384) < 4294967296; have h1 : c / 2 < 2 ^ 32 := by omega
 have h2 : (bif Nat.beq (c % 2) 0 then 0 else 3988292384) < 2 ^ 32 := by cases Nat.beq (c % 2) 0 <;> decide
 exact Nat.xor_lt_two_pow h1 h2
theorem xB : ∀ (k c : Nat), c < 4294967296 -> iX k c < 4294967296
 | 0, c, h => h
 | k + 1, c, h => xB k _ (oN h)
@[simp] theorem nC {R : Type} (op : (DV -> H -> Option R) -> Option R) (h : H) (k : DV -> H -> Option R) : aP (.bool false) false op h k = op k := id rfl
@[simp] theorem aAi {R : Type} (op : (DV -> H -> Option R) -> Option R) (h : H) (k : DV -> H -> Option R) : aP (.bool true) true op h k = op k := id rfl
@[simp] theorem aAj {R : Type} (op : (DV -> H -> Option R) -> Option R) (h : H) (k : DV -> H -> Option R) : aP (.bool true) false op h k = k (.tup []) h := id rfl
@[simp] theorem aOh {R : Type} (op : (DV -> H -> Option R) -> Option R) (h : H) (k : DV -> H -> Option R) : aP (.bool false) true op h k = k (.tup []) h := id rfl
@[simp] theorem jQ (a b : DV) : aK (.bool true) a b = some a := id rfl
@[simp] theorem iC (a b : DV) : aK (.bool false) a b = some b := id rfl
theorem aGA (b : Bool) : dY (.bool b) = some (.bool (!b)) := eX _
theorem nO (k : IntKind) (a b : Int) : cW (.int k a) (.int k b) = some (.bool (a != b)) := by
 show (bif kEq k k then aJV k a b else none) = _; rw [fV]; show dM (!iEq a b) = _; rw [eX, pW]; rfl
theorem jN (k : IntKind) (a b : Int) : bV (.int k a) (.int k b) = some (.bool (a == b)) := by
 show (bif kEq k k then aKb k a b else none) = _; rw [fV]; show dM (iEq a b) = _; rw [eX, pW]
theorem vQ (k : IntKind) (a b : Int) : mR (.int k a) (.int k b) = some (.int k (k.wrap (a * b))) := by
 show (bif kEq k k then aJW k a b else none) = _; rw [fV]; show gJ k (a * b) = _; rw [fI]
def kZ (b : Nat) : DV := .int .u8 (.ofNat b)
def cT (s : Ln) : List DV := s.map kZ
theorem qJ : ∀ {s : Ln}, bO s = true -> hX (cT s) = some s
 | [], _ => rfl
 | b :: s, h => by
   simp only [bO, Bool.and_eq_true, Nat.blt_eq] at h; have hb : tO (kZ b) = some b := by
     show (bif Nat.blt b 256 then some b else none) = some b; rw [dP h.1]; rfl
   show (match tO (kZ b), hX (cT s) with
     | some b, some bs => some (b :: bs)
     | _, _ => none) = _
   rw [hb, qJ h.2]
theorem aBx (s : Ln) : (cT s).all DV.one = true := by
 rw [List.all_eq_true]; intro x hx; obtain ⟨b, _, rfl⟩ := List.mem_map.1 hx
 rfl
theorem mC {rd : Rd} {b : Nat} : ∀ (vs : List DV) (j : Nat), (∀ i v, vs[i]? = some v -> rdCell rd b (j + i) = some v) -> rdCells rd b j vs.length = some vs
 | [], j, _ => rfl
 | v :: vs, j, h => by
   simp only [List.length_cons, rdCells]; have h0 := h 0 v rfl; rw [Nat.add_zero] at h0; rw [h0, mC vs (j + 1) (λ i u hi => by rw [show j + 1 + i = j + (i + 1) from by omega]; exact h (i + 1) u hi)]
theorem pR {rd : Rd} {b : Nat} : ∀ {n j : Nat} {vs : List DV}, rdCells rd b j n = some vs -> vs.length = n /\ ∀ i v, vs[i]? = some v -> rdCell rd b (j + i) = some v
 | 0, j, vs, h => by
   simp only [rdCells, Option.some.injEq] at h; subst h; exact ⟨rfl, λ i v hi => by simp at hi⟩
 | n + 1, j, vs, h => by
   simp only [rdCells] at h; split at h
   · rename_i v us h1 h2; cases h; obtain ⟨hl, hg⟩ := pR h2; refine ⟨by simp [hl], λ i u hi => ?_⟩
     cases i with
     | zero => simp at hi; subst hi; exact h1
     | succ i => simp at hi; rw [show j + (i + 1) = j + 1 + i from by omega]; exact hg i u hi
   · cases h
theorem qC {h : H} {b o : Nat} {B : Blk} {vs : List DV} (hg : h.get b = some (.blk B)) (hr : B.ro = false) (hl : o + vs.length <= B.n) (h1 : vs.all DV.one = true) :
   ∃ h' t', eE vs h b o = some h' /\ h'.size = h.size /\ (∀ c, c ≠ b -> h'.get c = h.get c) /\ h'.get b = some (.blk { B with t := t' }) /\ ∀ j, t'.at_ j = if o <= j /\ j < o + vs.length then vs[j - o]? else B.t.at_ j := by
 cases vs with
 | nil => exact ⟨h, B.t, rfl, rfl, λ _ _ => rfl, hg, λ j => by rw [if_neg (by simp only [List.length_nil]; omega)]⟩
 | cons v vs =>
   refine ⟨_, aED (v :: vs) o B.t, by rw [wI (v :: vs) h b o B hg (by simp), if_pos ⟨by simp [hr], hl, h1⟩], by simp, λ c hc => by rw [H.get_put, if_neg hc], by rw [H.get_put, if_pos rfl], λ j => ?_⟩
   rw [vY, Tr.at_ofF]
theorem tD {rd : Rd} {b j : Nat} {B : Blk} (h : rd b = some (.blk B)) (hj : j < B.n) : rdCell rd b j = B.t.at_ j := by
 unfold rdCell; rw [h]; simp only []; rw [if_pos hj]
theorem pS {rd rd' : Rd} {b j : Nat} (h : rd' b = rd b) : rdCell rd' b j = rdCell rd b j := by unfold rdCell; rw [h]
theorem eN.or {P : Program} {f : FuncId} {F G : bB} (hF : eN P f F) (hG : eN P f G) : eN P f λ args h => Option.rec (motive := λ _ => Option (DV × H)) (G args h) some (F args h) := by
 intro N0 w0 m h w args args' v h' hr ht hw; cases hf : F args h with
 | some r =>
   have hr' : some r = some (v, h') := by rw [<- hr]; show _ = Option.rec (motive := λ _ => Option (DV × H)) (G args h) some (F args h); rw [hf]
   cases hr'; exact hF N0 w0 m h w args args' v h' hf ht hw
 | none =>
   have hr' : G args h = some (v, h') := by rw [<- hr]; show _ = Option.rec (motive := λ _ => Option (DV × H)) (G args h) some (F args h); rw [hf]
   exact hG N0 w0 m h w args args' v h' hr' ht hw
def aCT (s : Ln) : Bool := List.rec (motive := λ _ => Bool) true (λ b _ ih => bif Nat.blt b 256 then ih else false) s
theorem wD : ∀ s, aCT s = bO s
 | [] => rfl
 | b :: s => by
   show (bif Nat.blt b 256 then aCT s else false) = (Nat.blt b 256 && bO s); rw [wD s]; cases Nat.blt b 256 <;> rfl
def aMQ {α : Type} (a b : List α) : List α := List.rec (motive := λ _ => List α) b (λ x _ ih => x :: ih) a
theorem aDt {α : Type} : ∀ a b : List α, aMQ a b = a ++ b
 | [], b => rfl
 | x :: a, b => congrArg (x :: ·) (aDt a b)
def aHs (vs : List DV) : Option (Ln) := List.rec (motive := λ _ => Option (Ln)) (some []) (λ v _ ih => match v with
 | .str s => Option.rec (motive := λ _ => Option (Ln)) none (λ t => some (aMQ s t)) ih
 | _ => none) vs
end Go.DI
namespace Go.DI
open Go.RowKit
def aDw (P : Program) (f : FuncId) (G : bB) : Prop :=
 ∀ (N0 : Nat) (w0 : World) (m : Mp) (h : H) (w : World) (args : List DV) (args' : List Value) (v : DV) (h' : H), G args h = some (v, h') -> trs m args = some args' -> bC N0 w0 m h w ->
   Calls P f args'.toArray w λ e w' => ∃ m' v', e = .panicked [{ v := v', recovered := false }] /\ tr m' v = some v' /\ bC N0 w0 m' h' w' /\ fE m h m' h'
section
variable {P : Program} {N0 : Nat} {w0 : World} {E : aX}
theorem yT {R : Type} {ops : Array Oper} {Q : Exit -> Act -> World -> Prop} {n : Nat} {ds : List Deferred} {res : R} (hE : fD P E) (tl : Ln) :
   ∀ (os : List Oper) (gs : List DG) (k : Nat), (∀ j, j < os.length -> os[j]? = ops[k + j]?) -> qH P n ops os gs = true ->
   ∀ (m : Mp) (ρ : Tr DV) (h : H) (a : Act) (w : World) (K : Tr DV -> H -> Option R), lE E gs ρ h K = some res -> dS m n ρ a -> bC N0 w0 m h w -> a.defers = ds ->
   (∀ ρ' h' m' a' w', fE m h m' h' -> dS m' n ρ' a' -> bC N0 w0 m' h' w' -> a'.defers = ds -> K ρ' h' = some res -> wpOps P ops Q tl a' w') ->
   wpOps P ops Q (List.range' k os.length ++ tl) a w := by
 intro os
 induction os with
 | nil =>
   intro gs k _ hc m ρ h a w K he hr hw hd hQ; cases gs with
   | nil => exact hQ ρ h m a w (fE.refl _ _) hr hw hd he
   | cons g gs => cases hc
 | cons o os ih =>
   intro gs k hk hc m ρ h a w K he hr hw hd hQ; cases gs with
   | nil => cases hc
   | cons g gs =>
     simp only [qH, Bool.and_eq_true] at hc; obtain ⟨hg, hc⟩ := hc; unfold xY at hg; rw [Bool.and_eq_true, Bool.and_eq_true] at hg; obtain ⟨⟨hdst, hgd⟩, hop⟩ := hg; have ho : ops[k]? = some o := by have := hk 0 (by simp); simpa using this.symm
     have hk' : ∀ j, j < os.length -> os[j]? = ops[k + 1 + j]? := λ j hj => by
       have := hk (j + 1) (by simp only [List.length_cons]; omega)
       rw [show k + 1 + j = k + (j + 1) from by omega]
       simpa using this
     simp only [List.length_cons, List.range'_succ, List.cons_append, wpOps, ho]
     replace he : jA E g ρ h (λ ρ h => lE E gs ρ h K) = some res := he
     unfold jA at he; rw [vO hr hgd]; cases hwt : cX ρ g.guard with
     | true =>
       rw [hwt] at he; simp only [cond_true] at he; simp only [if_true]; cases hod : odo E g.op ρ h with
       | none => rw [hod] at he; cases he
       | some x =>
         obtain ⟨v, h1⟩ := x; rw [hod] at he; simp only [Option.bind_some, jE] at he; refine .inl (aGR hE hop (hr.on _) hw hod λ m' w' v' e1 e2 e3 => ?_)
         exact ih gs (k + 1) hk' hc m' _ h1 _ w' K he ((hr.mono e3.le).put hdst e1) e2 (by rw [Act.put_defers']; exact hd)
           λ ρ' h' m'' a' w'' x1 x2 x3 x4 x5 => hQ ρ' h' m'' a' w'' (e3.trans x1) x2 x3 x4 x5
     | false =>
       rw [hwt] at he; simp only [cond_false, jE] at he; simp only [Bool.false_eq_true, if_false]; exact ih gs (k + 1) hk' hc m _ h _ w K he (hr.put hdst rfl) hw (by rw [Act.put_defers']; exact hd) hQ
inductive DP where
 | no
 | sl (p : DP)
 | sr (d : DC) (p : DP)
 | cd (c : aU) (p q : DP)
 | pan (l : List DG) (x : aU)
 | or (p q : DP)
def goN (E : aX) (d : DC) (ρ : Tr DV) (h : H) : Option (Tr DV × H) := lF E d ρ h λ x ρ h => DX.rec (motive := λ _ => Option (Tr DV × H)) (some (ρ, h)) (λ _ => none) none x
def uL (E : aX) (p : DP) : Tr DV -> H -> Option (DV × H) :=
 DP.rec (motive := λ _ => Tr DV -> H -> Option (DV × H)) (λ _ _ => none) (λ _ ih => ih) (λ d _ ih ρ h => (goN E d ρ h).bind λ x => ih x.1 x.2)
   (λ c _ _ ip iq ρ h => bK (ev ρ c) (ip ρ h) (iq ρ h)) (λ l x ρ h => lE E l ρ h λ ρ h => some (ev ρ x, h)) (λ _ _ ip iq ρ h => Option.rec (motive := λ _ => Option (DV × H)) (iq ρ h) some (ip ρ h)) p
def vD (P : Program) (n : Nat) (ops : Array Oper) : List Oper -> List DG -> aU -> Bool
 | [o], [], x => (match o.op with
   | .panic y => aC y x
   | _ => false) && o.guard.isNone
 | o :: os, g :: gs, x => xY P n ops o g && vD P n ops os gs x
 | _, _, _ => false
def wL (P : Program) (n : Nat) : Code -> DP -> Bool
 | _, .no => true
 | .seq a b, .sl p => wL P n a p
 | .seq a b, .sr d p => dK P n a d && wL P n b p
 | .cond c a b, .cd x p q => aC c x && wL P n a p && wL P n b q
 | c, .or p q => wL P n c p && wL P n c q
 | .region _ ops draw, .pan l x => !draw && vD P n ops ops.toList l x
 | _, _ => false
theorem rZ {n : Nat} {ops : Array Oper} {x : aU} : ∀ {os : List Oper} {gs : List DG}, vD P n ops os gs x = true -> ∃ os' o y, os = os' ++ [o] /\ qH P n ops os' gs = true /\ o.op = .panic y /\ aC y x = true /\ o.guard = none
 | [], gs, h => by cases gs <;> cases h
 | [o], [], h => by
   simp only [vD, Bool.and_eq_true] at h; obtain ⟨h1, h2⟩ := h; split at h1
   · rename_i y hy; exact ⟨[], o, y, rfl, rfl, hy, h1, by simpa using h2⟩
   · cases h1
 | o :: o2 :: os, [], h => by cases h
 | o :: os, g :: gs, h => by
   have h' : (xY P n ops o g && vD P n ops os gs x) = true := by cases os <;> exact h
   rw [Bool.and_eq_true] at h'; obtain ⟨os', o', y, h1, h2, h3⟩ := rZ h'.2; exact ⟨o :: os', o', y, by rw [h1]; rfl, by simp only [qH, h'.1, h2, Bool.and_self], h3⟩
theorem aEO {n : Nat} {ds : List Deferred} {pv : DV} {hf : H} (hE : fD P E) : ∀ (p : DP) (c : Code), wL P n c p = true ->
   ∀ (m : Mp) (ρ : Tr DV) (h : H) (a : Act) (w : World) (Q : Exit -> Act -> World -> Prop), uL E p ρ h = some (pv, hf) -> dS m n ρ a -> bC N0 w0 m h w -> a.defers = ds ->
   (∀ m' pv' a' w', fE m h m' hf -> tr m' pv = some pv' -> bC N0 w0 m' hf w' -> a'.defers = ds -> Q (.panic [{ v := pv', recovered := false }]) a' w') ->
   (∃ t v, pv = .ifc t v) -> c.wp P Q a w := by
 intro p
 induction p with
 | no => intro c hc m ρ h a w Q he; cases he
 | sl p ih =>
   intro c hc m ρ h a w Q he hr hw hd hQ hi; cases c <;> first | (cases hc; done) | skip
   rename_i c1 c2; exact wp_seq (ih c1 hc m ρ h a w _ he hr hw hd hQ hi)
 | sr d p ih =>
   intro c hc m ρ h a w Q he hr hw hd hQ hi; cases c <;> first | (cases hc; done) | skip
   rename_i c1 c2; simp only [wL, Bool.and_eq_true] at hc
   replace he : (goN E d ρ h).bind (λ x => uL E p x.1 x.2) = some (pv, hf) := he
   cases hg : goN E d ρ h with
   | none => rw [hg] at he; cases he
   | some r =>
     obtain ⟨ρ1, h1⟩ := r; rw [hg] at he; simp only [Option.bind_some] at he; refine wp_seq (oY hE d c1 hc.1 m ρ h a w _ _ hg hr hw hd λ x ρ' h' m' a' w' x1 x2 x3 x4 x5 => ?_)
     cases x with
     | normal =>
       have x5 : some (ρ', h') = some (ρ1, h1) := x5; cases x5; exact ih c2 hc.2 m' ρ1 h1 a' w' Q he x2 x3 x4 (λ m'' pv' a'' w'' y1 y2 y3 y4 => hQ m'' pv' a'' w'' (x1.trans y1) y2 y3 y4) hi
     | exit i => cases x5
     | ret => cases x5
 | cd x p q ihp ihq =>
   intro c hc m ρ h a w Q he hr hw hd hQ hi; cases c <;> first | (cases hc; done) | skip
   rename_i c0 c1 c2; simp only [wL, Bool.and_eq_true] at hc
   replace he : bK (ev ρ x) (uL E p ρ h) (uL E q ρ h) = some (pv, hf) := he
   have hg := hr.on #[c0] c0 (by simp) x hc.1.1
   unfold bK at he; split at he
   · rename_i b hb; rw [hb] at hg; cases b
     · exact wp_cond_false (gQ hg) (ihq c2 hc.2 m ρ h a w Q he hr hw hd hQ hi)
     · exact wp_cond_true (gQ hg) (ihp c1 hc.1.2 m ρ h a w Q he hr hw hd hQ hi)
   · cases he
 | or p q ihp ihq =>
   intro c hc m ρ h a w Q he hr hw hd hQ hi; have hc' : (wL P n c p && wL P n c q) = true := by cases c <;> exact hc
   rw [Bool.and_eq_true] at hc'
   replace he : Option.rec (motive := λ _ => Option (DV × H)) (uL E q ρ h) some (uL E p ρ h) = some (pv, hf) := he
   cases hp : uL E p ρ h with
   | some r =>
     rw [hp] at he; have he : some r = some (pv, hf) := he; cases he; exact ihp c hc'.1 m ρ h a w Q hp hr hw hd hQ hi
   | none =>
     rw [hp] at he; exact ihq c hc'.2 m ρ h a w Q he hr hw hd hQ hi
 | pan l x =>
   intro c hc m ρ h a w Q he hr hw hd hQ hi; cases c <;> first | (cases hc; done) | skip
   rename_i id ops draw; simp only [wL, Bool.and_eq_true, Bool.not_eq_true'] at hc; obtain ⟨rfl, hc⟩ := hc; obtain ⟨os, o, y, e1, e2, e3, e4, e5⟩ := rZ hc; refine wp_region ?_; have hsz : ops.size = os.length + 1 := by rw [<- Array.length_toList, e1]; simp
   rw [hsz, List.range_eq_range', List.range'_concat]; have hget : ∀ j, ops[j]? = (os ++ [o])[j]? := λ j => by rw [<- e1, Array.getElem?_toList]
   have hlast : ops[os.length]? = some o := by rw [hget, List.getElem?_append_right (Nat.le_refl _)]; simp
   rw [show 0 + 1 * os.length = os.length from by omega]
   replace he : lE E l ρ h (λ ρ h => some (ev ρ x, h)) = some (pv, hf) := he
   refine yT hE [os.length] os l 0 (λ j hj => by rw [Nat.zero_add, hget, List.getElem?_append_left (by simpa using hj)]) e2 m ρ h a w _ he hr hw hd λ ρ' h' m' a' w' x1 x2 x3 x4 x5 => ?_
   simp only [Option.some.injEq, Prod.mk.injEq] at x5; obtain ⟨x5, rfl⟩ := x5; have hv := x2.on #[y] y (by simp) x e4
   rw [x5] at hv; obtain ⟨t, v, rfl⟩ := hi; simp only [wpOps, hlast]; have hwant : Region.wanted o (yielded ops a'.tmps) = true := by unfold Region.wanted; rw [e5]
   rw [hwant]; simp only [if_true]; refine .inl ?_; simp only [tr] at hv; cases hvv : tr m' v with
   | none => rw [hvv] at hv; cases hv
   | some v' =>
     rw [hvv] at hv; have hy : a'.eval y = .iface t v' := (Option.some.inj hv).symm; have hrun : (execOp a'.eval o).run P w' = .halt (.panic (.iface t v')) w' := by
       unfold execOp; rw [e3]; simp only [hy]
       rfl
     unfold Oper.wp; rw [hrun]; exact hQ m' _ a' w' x1 (by simp only [tr, hvv]) x3 x4
end
end Go.DI
namespace Go.DI
open Go.RowKit
section
variable {P : Program} {N0 : Nat} {w0 : World} {E : aX}
structure PF where
 np : Nat
 n : Nat
 p : DP
def bIn : DV -> Bool
 | .ifc _ _ => true
 | _ => false
def aZC (E : aX) (d : PF) : bB := λ args h => bif Nat.beq args.length d.np then (uL E d.p (Tr.ofL args) h).bind λ x => bif bIn x.1 then some x else none else none
def aPq (P : Program) (f : FuncId) (d : PF) : Bool := match P.funcs[f]? with
 | some fn => Nat.beq fn.ntmps d.n && Nat.ble d.np d.n && (match fn.body with
   | some c => wL P d.n c d.p
   | none => false)
 | none => false
theorem sZ {m : Mp} {args : List DV} {args' : List Value} {n nt : Nat} (hargs : trs m args = some args') (hl : args.length <= n) (hn : nt = n) :
   dS m n (Tr.ofL args) { tmps := args'.toArray ++ Array.replicate (nt - args'.toArray.size) undef, defers := [] } := by
 have hlen := cK hargs; refine ⟨by simp; omega, λ t => ?_⟩
 show tr m (Option.rec (.tup []) (λ v => v) (Tr.get (Pa.of t) (Tr.ofL args))) = _
 rw [show Tr.get (Pa.of t) (Tr.ofL args) = (Tr.ofL args).at_ t from rfl, Tr.at_ofL]
 rw [Array.getD_eq_getD_getElem?]; by_cases ht : t < args.length
 · obtain ⟨u, h1, h2⟩ := gP hargs t _ (List.getElem?_eq_getElem ht); rw [List.getElem?_eq_getElem ht]; rw [Array.getElem?_append_left (by simp; omega)]
   simp only [List.getElem?_toArray, h1, Option.getD_some]; exact h2
 · rw [List.getElem?_eq_none (by omega)]
   rw [Array.getElem?_append_right (by simp; omega)]
   rw [Array.getElem?_replicate]; split <;> rfl
theorem aMA {f : FuncId} {d : PF} (hE : fD P E) (hc : aPq P f d = true) : aDw P f (aZC E d) := by
 intro N0 w0 m h w args args' v0 h' hrun hargs hw; unfold aPq at hc; cases hf : P.funcs[f]? with
 | none => rw [hf] at hc; cases hc
 | some fn =>
   rw [hf] at hc; simp only [Bool.and_eq_true] at hc; obtain ⟨⟨hn, hnp⟩, hbody⟩ := hc; cases hb : fn.body with
   | none => rw [hb] at hbody; cases hbody
   | some c =>
     rw [hb] at hbody; have hn := Nat.eq_of_beq_eq_true hn; have hnp := Nat.le_of_ble_eq_true hnp; unfold aZC at hrun; obtain ⟨hlen, hrun⟩ := aL hrun; have hlen := Nat.eq_of_beq_eq_true hlen; cases hp : uL E d.p (Tr.ofL args) h with
     | none => rw [hp] at hrun; cases hrun
     | some r =>
       rw [hp] at hrun; simp only [Option.bind_some] at hrun; obtain ⟨hi, hrun⟩ := aL hrun; cases hrun; refine calls_of_wp hf hb ?_; refine aEO (ds := []) hE d.p c hbody m _ h _ w _ hp (sZ hargs (by omega) hn) hw rfl (λ m' pv' a' w' x1 x2 x3 x4 => ?_) ?_
       · exact ⟨x4, m', pv', rfl, x2, x3, x1⟩
       · cases v0 <;> first | (cases hi; done) | exact ⟨_, _, rfl⟩
section
variable {n : Nat} {ds : List Deferred} {ops : Array Oper} {m0 : Mp} {h0 : H} {σ pfx rest0 : List DR} {x : DR} {res : Tr DV × H} {Q : Exit -> Act -> World -> Prop}
theorem zU (hσ0 : σ = pfx ++ x :: rest0) (S : rQ P n ops σ) {pre rest : List DR} (hp : pfx = pre ++ rest) {kf : Nat -> Nat} {nw : Nat -> Bool} {listed : Array Bool} {m : Mp} {ρ : Tr DV} {h : H} {a : Act} {w : World}
   (I : vJ N0 w0 n ds ops m0 h0 pre kf nw listed m ρ h a w) : listed.getD x.i false = false := by
 cases hl : listed.getD x.i false with
 | false => rfl
 | true =>
   obtain ⟨y, hy, he⟩ := I.lp _ hl; exact absurd he (S.pair pfx (x :: rest0) hσ0 y (by rw [hp]; exact List.mem_append_left _ hy) x (by simp)).1
theorem aNK (hσ0 : σ = pfx ++ x :: rest0) (hpe : ∀ y ∈ pfx, y.isW = false) (hxw : x.isW = true) (S : rQ P n ops σ) (hre : ∀ x ∈ σ, x.isW = false -> x.re = [])
   (hP : ∀ kf nw listed m' ρ' h' a' w', vJ N0 w0 n ds ops m0 h0 pfx kf nw listed m' ρ' h' a' w' -> (ρ', h') = res -> (∀ o, ops[x.i]? = some o -> ∀ d ∈ mP o, listed.getD d false = true) -> ∀ C, wpOp P ops Q x.i C a' w')
   {z : DR} (hz : z ∈ σ) {o : Oper} (ho : ops[z.i]? = some o) {listed : Array Bool} {a : Act} {w : World} (hun : listed.getD z.i false = false) (hr : ∀ d ∈ mP o, listed.getD d false = true) {C : Act -> World -> Prop}
   (hK : ∀ pre' rest' kf' nw' m' ρ' h' a' w', pfx = pre' ++ rest' -> vJ N0 w0 n ds ops m0 h0 pre' kf' nw' (listed.setIfInBounds z.i true) m' ρ' h' a' w' -> gV E rest' pre'.reverse ρ' h' (λ ρ h => some (ρ, h)) = some res -> C a' w') :
   ∀ (rest pre : List DR) (kf : Nat -> Nat) (nw : Nat -> Bool) (m : Mp) (ρ : Tr DV) (h : H), pfx = pre ++ rest -> vJ N0 w0 n ds ops m0 h0 pre kf nw listed m ρ h a w -> gV E rest pre.reverse ρ h (λ ρ h => some (ρ, h)) = some res -> wpOp P ops Q z.i C a w := by
 intro rest
 induction rest with
 | nil =>
   intro pre kf nw m ρ h hp I he; have hp' : pfx = pre := by rw [hp]; simp
   rw [hσ0] at hz; rcases List.mem_append.1 hz with hzp | hzr
   · rw [hp'] at hzp; exact I.ahead (rest := x :: rest0) (by rw [hσ0, hp']) S hzp ho hun hr λ m' a' w' I' => hK pre [] kf nw m' ρ h a' w' hp I' he
   · rcases List.mem_cons.1 hzr with rfl | hzr
     · have he : some (ρ, h) = some res := he; rw [<- hp'] at I; exact hP kf nw listed m ρ h a w I (Option.some.inj he) (λ o' ho' => by rw [ho] at ho'; cases ho'; exact hr) C
     · have hanc := (S.pair (pfx ++ [x]) rest0 (by rw [hσ0]; simp) x (by simp) z hzr).2.2.2.2.2.1 hxw
       have := mM I.cl hanc (λ o' ho' => by rw [ho] at ho'; cases ho'; exact hr)
       rw [zU hσ0 S hp I] at this; cases this
 | cons y rest ih =>
   intro pre kf nw m ρ h hp I he; have hσ : σ = pre ++ y :: (rest ++ x :: rest0) := by rw [hσ0, hp]; simp
   have hyw : y.isW = false := hpe y (by rw [hp]; simp)
   have adv : wpOp P ops Q z.i C a w := by
     have he' : jA E y.g ρ h (λ ρ h => bif y.re.all (eZ pre.reverse ρ h) then gV E rest (y :: pre.reverse) ρ h (λ ρ h => some (ρ, h)) else none) = some res := he
     obtain ⟨ρ', h', kf', nw', I', _, he'⟩ := I.eager hσ S hyw he'; rw [hre y (by rw [hσ]; simp) hyw] at he'
     refine ih (pre ++ [y]) kf' nw' m ρ' h' (by rw [hp]; simp) I' ?_
     rw [show (pre ++ [y]).reverse = y :: pre.reverse from by simp]
     simpa using he'
   have hz' := hz; rw [hσ] at hz'; rcases List.mem_append.1 hz' with hzp | _
   · exact I.ahead (rest := y :: (rest ++ x :: rest0)) hσ S hzp ho hun hr λ m' a' w' I' => hK pre (y :: rest) kf nw m' ρ h a' w' hp I' he
   · exact adv
theorem aZF (hσ0 : σ = pfx ++ x :: rest0) (hpe : ∀ y ∈ pfx, y.isW = false) (hxw : x.isW = true) (S : rQ P n ops σ) (hre : ∀ x ∈ σ, x.isW = false -> x.re = [])
   (hP : ∀ kf nw listed m' ρ' h' a' w', vJ N0 w0 n ds ops m0 h0 pfx kf nw listed m' ρ' h' a' w' -> (ρ', h') = res -> (∀ o, ops[x.i]? = some o -> ∀ d ∈ mP o, listed.getD d false = true) -> ∀ C, wpOp P ops Q x.i C a' w') :
   ∀ (fuel : Nat) (listed : Array Bool) (pre rest : List DR) (kf : Nat -> Nat) (nw : Nat -> Bool) (m : Mp) (ρ : Tr DV) (h : H) (a : Act) (w : World), left listed <= fuel -> pfx = pre ++ rest -> vJ N0 w0 n ds ops m0 h0 pre kf nw listed m ρ h a w ->
   gV E rest pre.reverse ρ h (λ ρ h => some (ρ, h)) = some res -> wpAny P .any ops Q fuel listed a w := by
 have hxs : x.i < ops.size := by
   obtain ⟨o, ho, _⟩ := S.chk x (by rw [hσ0]; simp)
   exact (Array.getElem?_eq_some_iff.1 ho).1
 have no : ∀ (listed : Array Bool) (pre rest : List DR) (kf : Nat -> Nat) (nw : Nat -> Bool) (m : Mp) (ρ : Tr DV) (h : H) (a : Act) (w : World), (∀ i, i < ops.size -> listed.getD i false = true) -> pfx = pre ++ rest -> vJ N0 w0 n ds ops m0 h0 pre kf nw listed m ρ h a w -> False := by
   intro listed pre rest kf nw m ρ h a w hall hp I; have := hall x.i hxs; rw [zU hσ0 S hp I] at this; cases this
 intro fuel
 induction fuel with
 | zero =>
   intro listed pre rest kf nw m ρ h a w hf hp I he; exact (no listed pre rest kf nw m ρ h a w (λ i hi => aBT (by omega) i (by rw [I.size]; exact hi)) hp I).elim
 | succ fuel ih =>
   intro listed pre rest kf nw m ρ h a w hf hp I he; refine ⟨λ hnil => (no listed pre rest kf nw m ρ h a w (aBK S I.size hnil) hp I).elim, λ i hi => ?_⟩
   rw [oR I.size] at hi; obtain ⟨hi, hun, hr⟩ := hi; obtain ⟨z, hz, rfl⟩ := S.cover i hi; have ho := Array.getElem?_eq_getElem hi; have hlt : z.i < listed.size := by rw [I.size]; exact hi
   have := aEW hlt hun; exact aNK hσ0 hpe hxw S hre hP hz ho hun (hr _ ho) (λ pre' rest' kf' nw' m' ρ' h' a' w' hp' I' he' => ih _ pre' rest' kf' nw' m' ρ' h' a' w' (by omega) hp' I' he') rest pre kf nw m ρ h hp I he
theorem aGN {id f : Nat} {args : List aU} {G : bB} {pv : DV} {hf : H} (hG : aDw P f G) (hcl : fJ P f = true) (hc : aAL P n ops σ = true) (hσ0 : σ = pfx ++ x :: rest0) (hpe : ∀ y ∈ pfx, y.isW = false)
   (hx : x.g.guard = none) (hxo : x.g.op = .c (.f f args)) {m : Mp} {ρ : Tr DV} {h : H} {a : Act} {w : World} (he : gV E pfx [] ρ h (λ ρ h => some (ρ, h)) = some res) (hg : G (args.map (ev res.1)) res.2 = some (pv, hf))
   (hr : dS m n ρ a) (hw : bC N0 w0 m h w) (hd : a.defers = ds)
   (hQ : ∀ m' pv' a' w', fE m h m' hf -> tr m' pv = some pv' -> (∀ t, (∀ y ∈ pfx, y.g.dst ≠ some (Pa.of t)) -> tr m' (ev res.1 (.r (Pa.of t))) = some (a'.tmps.getD t undef)) -> a'.tmps.size = n -> bC N0 w0 m' hf w' -> a'.defers = ds -> Q (.panic [{ v := pv', recovered := false }]) a' w') :
   (Code.region id ops true).wp P Q a w := by
 obtain ⟨hm, S, hre⟩ := aIU hc; have hxw : x.isW = true := by unfold DR.isW; rw [hxo]; simp [yQ.isW]
 refine wp_region_any hm ?_; have hz : ∀ i, (Array.replicate ops.size false).getD i false = false := λ i => by
   rw [Array.getD_eq_getD_getElem?, Array.getElem?_replicate]; split <;> rfl
 refine aZF (N0 := N0) (w0 := w0) (ds := ds) (m0 := m) (h0 := h) (res := res) hσ0 hpe hxw S hre ?_ ops.size _ [] pfx (λ _ => 0) (λ _ => false) m ρ h a _ ?_ rfl ?_ he
 · intro kf nw listed m' ρ' h' a' w' I hres hdeps C; have hxσ : x ∈ σ := by rw [hσ0]; simp
   obtain ⟨o, ho, hg'⟩ := S.chk x hxσ; unfold xY at hg'; rw [Bool.and_eq_true, Bool.and_eq_true] at hg'; obtain ⟨⟨hd', hgd⟩, hop⟩ := hg'; have hlook := I.looks hσ0 S hxσ ho (hdeps o ho) (.inr ⟨rest0, rfl⟩); have hwt := sJ hgd hlook; have hρ := wA hlook; unfold wpOp; rw [ho]; simp only []; rw [hwt, hx]; simp only [cX, if_true]; rw [hxo] at hop
   replace hop : aPt P o (.f f args) = true := hop
   unfold aPt at hop; split at hop
   · rename_i c f' args2 hoc heq; cases heq; rw [Bool.and_eq_true] at hop; obtain ⟨h1, h2⟩ := hop; split at h1
     · rename_i g hce; have h3 := Nat.eq_of_beq_eq_true h1; subst h3; have hta := pA hρ (λ x hx => by simp only [hoc, Op.operands, Call.operands]; simp only [Array.mem_append]; exact .inr (by simpa using hx)) h2
       cases hres; refine .inl ?_; unfold Oper.wp; rw [aDr hoc hce (first := #[]) (captured := #[]) rfl hcl w']
       simp only [Oper.upon_enter]; have hcall := hG N0 w0 m' h' w' _ _ pv hf hg hta I.rel; have hargs : (#[] ++ c.args.map a'.eval ++ #[] : Array Value) = (c.args.toList.map a'.eval).toArray := by apply Array.ext'; simp
       rw [hargs]; refine hcall.mono λ e w'' hh => ?_
       obtain ⟨m'', v', rfl, e2, e3, e4⟩ := hh; exact hQ m'' v' a' w'' (I.ext.trans e4) e2 (λ t ht => eO e4.le _ _ (I.regs t λ y hy _ => ht y hy)) I.tm e3 I.dsr
     · cases h1
   all_goals
     first
       | (rename_i heq; cases heq; done)
       | cases hop
 · unfold left; refine Nat.le_trans List.countP_le_length ?_; simp
 · refine ⟨by simp, λ i hi => ?_, λ i o hi => ?_, λ x hx => ?_, hw.drewN, hd, hr.size, λ t _ => hr.regs t, λ x hx => ?_, λ x hx => ?_, fE.refl _ _, λ x hx => ?_⟩
   · rw [hz] at hi; cases hi
   · rw [hz] at hi; cases hi
   all_goals simp at hx
end
end
end Go.DI
namespace Go.DI
open Go.RowKit
structure CF where
 f : Nat
 n : Nat
 nc : Nat
 rt : Pa
 at_ : Pa
 c : DC
def aMM (E : aX) (C : CF) (capt : List DV) (rv : DV) (h : H) : Option H := bif Nat.beq capt.length C.nc then
 lF E C.c (Tr.set rv C.at_ (Tr.set rv C.rt (Tr.ofL capt))) h (λ x ρ h => DX.rec (motive := λ _ => Option H) (some h) (λ _ => none) (some h) x) else none
def aOc (o : Oper) : Bool := match o.op with
 | .call c => (match c.callee with
   | .builtin .recover => true
   | _ => false)
 | _ => false
def aXg (o : Oper) (d : Option Tmp) : Bool := match o.op, d with
 | .assign (.tmp t), some u => Nat.beq t u
 | _, _ => false
def xV (P : Program) (C : CF) : Bool := fJ P C.f && (match P.funcs[C.f]? with
 | some fn => Nat.beq fn.ntmps C.n && Nat.ble C.nc C.n && fn.results.toList.isEmpty && (match fn.body with
   | some (.seq (.region _ ops draw) rest) => !draw && (match ops.toList with
     | [o1, o2] => aOc o1 && kL C.n o1.dst (some C.rt) && o1.guard.isNone && aXg o2 o1.dst && kL C.n o2.dst (some C.at_) && o2.guard.isNone
     | _ => false) && dK P C.n rest C.c
   | _ => false)
 | none => false)
section
variable {P : Program} {N0 : Nat} {w0 : World} {E : aX}
theorem xE {o : Oper} (h : aOc o = true) (ρ : Operand -> Value) (w : World) : (execOp ρ o).run P w = .ok .recover w := by
 unfold aOc at h; split at h
 · rename_i c hc; split at h
   · rename_i hb; unfold execOp; rw [hc]; simp only [Sem.run_bind, resolve, hb, Sem.run_pure, Result.andThen_ok, invoke, builtin]
   · cases h
 · cases h
def aRn (m : Mp) (u u' : FrameMode) (rv : DV) : Prop :=
 (u = .returning /\ u' = u /\ rv = .nili) \/ (∃ v, tr m rv = some v /\ u = .panicking [{ v := v, recovered := false }] /\ u' = .panicking [{ v := v, recovered := true }])
theorem aPp (hE : fD P E) {C : CF} (hc : xV P C = true) {m : Mp} {capt : List DV} {capt' : List Value} {rv : DV} {h h' : H} {w : World} {u u' : FrameMode} (hrun : aMM E C capt rv h = some h') (hcap : trs m capt = some capt') (hw : bC N0 w0 m h w)
   (hu : aRn m u u' rv) : CallsD P C.f capt'.toArray u w λ e u2 w' => ∃ m' v, e = .returned v /\ u2 = u' /\ bC N0 w0 m' h' w' /\ fE m h m' h' := by
 unfold xV at hc; rw [Bool.and_eq_true] at hc; obtain ⟨hcl, hc⟩ := hc; cases hf : P.funcs[C.f]? with
 | none => rw [hf] at hc; cases hc
 | some fn =>
   rw [hf] at hc; simp only [Bool.and_eq_true] at hc; obtain ⟨⟨⟨hn, hnc⟩, hres⟩, hbody⟩ := hc; have hn := Nat.eq_of_beq_eq_true hn; have hnc := Nat.le_of_ble_eq_true hnc; split at hbody
   rotate_left
   · cases hbody
   rename_i id ops draw rest hb; simp only [Bool.and_eq_true, Bool.not_eq_true'] at hbody; obtain ⟨⟨rfl, hops⟩, hrest⟩ := hbody; split at hops
   rotate_left
   · cases hops
   rename_i o1 o2 hl; simp only [Bool.and_eq_true] at hops; obtain ⟨⟨⟨⟨⟨h1, h2⟩, h3⟩, h4⟩, h5⟩, h6⟩ := hops; unfold aMM at hrun; obtain ⟨hcl2, hrun⟩ := aL hrun; have hcl2 := Nat.eq_of_beq_eq_true hcl2; refine callsD_of_wpS hf hb λ c₀ cs hmode => wpS_seq (wpS_region ?_)
   have hsz : ops.size = 2 := by rw [<- Array.length_toList, hl]; rfl
   have g0 : ops[0]? = some o1 := by rw [<- Array.getElem?_toList, hl]; rfl
   have g1 : ops[1]? = some o2 := by rw [<- Array.getElem?_toList, hl]; rfl
   have hreg := sZ hcap (show capt.length <= C.n by omega) hn
   obtain ⟨rv', hrv, hrec⟩ : ∃ rv', tr m rv = some rv' /\ wpOpsS P ops (Exit.thenS (rest.wpS P (bodyPostS P fn c₀ cs λ e u2 w' => ∃ m' v, e = .returned v /\ u2 = u' /\ bC N0 w0 m' h' w' /\ fE m h m' h')) (bodyPostS P fn c₀ cs λ e u2 w' => ∃ m' v, e = .returned v /\ u2 = u' /\ bC N0 w0 m' h' w' /\ fE m h m' h')) (List.range ops.size)
       { tmps := capt'.toArray ++ Array.replicate (fn.ntmps - capt'.toArray.size) undef, defers := [] } (c₀ :: cs) w = wpOpsS P ops (Exit.thenS (rest.wpS P (bodyPostS P fn c₀ cs λ e u2 w' => ∃ m' v, e = .returned v /\ u2 = u' /\ bC N0 w0 m' h' w' /\ fE m h m' h')) (bodyPostS P fn c₀ cs λ e u2 w' => ∃ m' v, e = .returned v /\ u2 = u' /\ bC N0 w0 m' h' w' /\ fE m h m' h')) [1]
       (Act.put { tmps := capt'.toArray ++ Array.replicate (fn.ntmps - capt'.toArray.size) undef, defers := [] } o1.dst rv') ({ c₀ with mode := u' } :: cs) w := by
     have hwant : ∀ y, Region.wanted o1 y = true := λ y => by unfold Region.wanted; rw [show o1.guard = none from by simpa using h3]
     rcases hu with ⟨rfl, rfl, rfl⟩ | ⟨v, hv, rfl, rfl⟩
     · refine ⟨.nilIface, rfl, ?_⟩; rw [hsz, show List.range 2 = [0, 1] from rfl, wpOpsS, g0]
       simp only [hwant, if_true, xE h1]; have hr0 : recoverD (c₀ :: cs) = none := by simp only [recoverD, hmode]
       simp only [hr0]; have : ({ c₀ with mode := FrameMode.returning } : Frame) = c₀ := by rw [<- hmode]
       rw [this]
     · refine ⟨v, hv, ?_⟩; rw [hsz, show List.range 2 = [0, 1] from rfl, wpOpsS, g0]
       simp only [hwant, if_true, xE h1]; have hr0 : recoverD (c₀ :: cs) = some (v, { c₀ with mode := .panicking [{ v := v, recovered := true }] } :: cs) := by simp only [recoverD, hmode]
       simp only [hr0]
   rw [hrec]; have hreg1 := hreg.put (dst := o1.dst) (dst' := some C.rt) h2 hrv; have hwant2 : ∀ y, Region.wanted o2 y = true := λ y => by unfold Region.wanted; rw [show o2.guard = none from by simpa using h6]
   unfold aXg at h4; split at h4
   rotate_left
   · cases h4
   rename_i t u0 hop hd1; have h4 := Nat.eq_of_beq_eq_true h4; subst h4; have hev : (Act.put { tmps := capt'.toArray ++ Array.replicate (fn.ntmps - capt'.toArray.size) undef, defers := [] } o1.dst rv').eval (.tmp t) = rv' := by
     have hq : kL C.n (some t) (some C.rt) = true := by rw [<- hd1]; exact h2
     unfold kL at hq; rw [Bool.and_eq_true] at hq; have hp := eQ hq.2; have := hreg1.regs t; simp only [nU] at this; rw [nD, if_pos hp, hrv] at this; exact (Option.some.inj this).symm
   rw [wpOpsS, g1]; simp only [hwant2, if_true]; have hex : (execOp (Act.put { tmps := capt'.toArray ++ Array.replicate (fn.ntmps - capt'.toArray.size) undef, defers := [] } o1.dst rv').eval o2).run P w = .ok (.value rv') w := by
     unfold execOp; rw [hop]; simp only [hev]; rfl
   simp only [hex, Oper.upon_value, wpOpsS]; show rest.wpS P _ _ _ _; have hreg2 := hreg1.put (dst := o2.dst) (dst' := some C.at_) h5 hrv; refine wpS_of_wp (oY (ds := []) hE C.c rest hrest m _ h _ w _ _ hrun hreg2 hw ?_ λ x ρ' h1 m' a' w' x1 x2 x3 x4 x5 => ?_)
   · rw [Act.put_defers', Act.put_defers']
   · have fin : some h1 = some h' -> bodyPostS P fn c₀ cs (λ e u2 w' => ∃ m' v, e = .returned v /\ u2 = u' /\ bC N0 w0 m' h' w' /\ fE m h m' h') .normal a' ({ c₀ with mode := u' } :: cs) w' := by
       intro hh; cases hh; have hr0 : fn.results = #[] := by
         have : fn.results.toList = [] := by simpa using hres
         apply Array.ext'; simpa using this
       exact ⟨x4, u', rfl, .tuple #[], by rw [sY, hr0]; simp, m', _, rfl, rfl, x3, x1⟩
     cases x with
     | normal => exact fin x5
     | exit i => cases x5
     | ret => exact fin x5
end
structure GF where
 np : Nat
 n : Nat
 lA : List DG
 gB : DG
 clo : Pa
 pfx : List DR
 xi : Nat
 xd : Option Pa
 fs : Nat
 as : List aU
 xre : Ln
 xsy : Bool
 rest : List DR
 res : List RV
def GF.x (G : GF) : DR := ⟨G.xi, ⟨G.xd, none, .c (.f G.fs G.as)⟩, G.xre, G.xsy⟩
def GF.σ (G : GF) : List DR := G.pfx ++ G.x :: G.rest
def wF (E : aX) (G : GF) (args : List DV) (h : H) : Option (Tr DV × H) := bif Nat.beq args.length G.np then
 lE E G.lA (Tr.ofL args) h λ ρ h => jA E G.gB ρ h λ ρ h => some (ρ, h) else none
def yA (C : CF) (v : DV) (k : List DV -> Option (DV × H)) : Option (DV × H) := match v with
 | .fn (.func g) [] cap => bif Nat.beq g C.f then k cap else none
 | _ => none
def aJv (E : aX) (G : GF) (C : CF) : bB := λ args h => (wF E G args h).bind λ s => (gV E G.σ [] s.1 s.2 λ ρ h => some (ρ, h)).bind λ t =>
 yA C (ev s.1 (.r G.clo)) λ cap => (aMM E C cap .nili t.2).bind λ h' => (fQ t.1 h' G.res).map λ vs => (iG vs, h')
def aVb (E : aX) (St : bB) (G : GF) (C : CF) : bB := λ args h => (wF E G args h).bind λ s => (gV E G.pfx [] s.1 s.2 λ ρ h => some (ρ, h)).bind λ t =>
 (St (G.as.map (ev t.1)) t.2).bind λ r => yA C (ev s.1 (.r G.clo)) λ cap => (aMM E C cap r.1 r.2).bind λ h' => (fQ t.1 h' G.res).map λ vs => (iG vs, h')
def aNE (G : GF) : ResultVar -> Bool
 | .cell a _ => G.pfx.all λ y => !rD y.g.dst (some (Pa.of a))
 | _ => false
def aJu (o : Oper) (p : Pa) : Bool := match o.op with
 | .defer c => (match c.callee with
   | .value (.tmp t) => oV (Pa.of t) p && c.args.toList.isEmpty
   | _ => false)
 | _ => false
def aAJ (P : Program) (f : FuncId) (G : GF) : Bool := fJ P G.fs && (match P.funcs[f]? with
 | some fn => Nat.beq fn.ntmps G.n && Nat.ble G.np G.n && lN (aBw P) fn.results.toList G.res && fn.results.toList.all (aNE G) && (match fn.body with
   | some (.seq (.region _ opsA drawA) (.seq (.region _ opsB drawB) (.seq (.region _ opsD drawD) .ret))) =>
     !drawA && !drawB && drawD && qH P G.n opsA opsA.toList G.lA && (match opsB.toList with
       | [o1, o2] => xY P G.n opsB o1 G.gB && aJu o2 G.clo && o2.dst.isNone && o2.guard.isNone
       | _ => false) && aAL P G.n opsD G.σ && G.pfx.all (λ y => !y.isW)
   | _ => false)
 | none => false)
section
variable {P : Program} {N0 : Nat} {w0 : World} {E : aX}
theorem aEH {m : Mp} {h : H} {w : World} {ρ : Tr DV} {a : Act} {n : Nat} (hw : bC N0 w0 m h w) : ∀ {xs : List ResultVar} {rs : List RV} {vs : List DV}, (∀ x ∈ xs, ∃ c t, x = .cell c t /\ tr m (ev ρ (.r (Pa.of c))) = some (a.tmps.getD c undef)) ->
   lN (aBw P) xs rs = true -> fQ ρ h rs = some vs -> ∃ vs', (xs.mapM (uD a.tmps)).run P w = .ok vs' w /\ trs m vs = some vs'
 | [], [], vs, _, _, hv => by
   simp only [fQ, Option.some.injEq] at hv; subst hv; exact ⟨[], rfl, rfl⟩
 | x :: xs, r :: rs, vs, hx, hc, hv => by
   simp only [lN, Bool.and_eq_true] at hc; simp only [fQ] at hv; split at hv
   · rename_i v us h1 h2; cases hv; obtain ⟨us', r2, t2⟩ := aEH (n := n) hw (λ x hx' => hx x (List.mem_cons_of_mem _ hx')) hc.2 h2
     obtain ⟨c, t, rfl, hreg⟩ := hx x (by simp)
     have key : ∃ v', (uD a.tmps (.cell c t)).run P w = .ok v' w /\ tr m v = some v' := by
       have hc1 := hc.1; unfold aBw at hc1; split at hc1
       · rename_i he; cases he
       · rename_i a1 t1 p1 he; cases he; rw [Bool.and_eq_true] at hc1; have := eQ hc1.1; subst this; simp only [sP] at h1; split at h1
         · rename_i b o e1; rw [e1] at hreg; obtain ⟨i, hi, e2⟩ := eL hreg; obtain ⟨v', hc', ht⟩ := hw.rdCell hi h1; refine ⟨v', ?_, ht⟩; simp [uD, e2, asAddr, loadVar, cZ hc1.2, hc']
         · cases h1
       · rename_i a1 t1 p1 n' he; cases he; rw [Bool.and_eq_true, Bool.and_eq_true] at hc1; have := eQ hc1.1.1; subst this; simp only [sP] at h1; split at h1
         · rename_i b o e1; rw [e1] at hreg; obtain ⟨i, hi, e2⟩ := eL hreg; cases hvs : rdCells h.get b o n' with
           | none => rw [hvs] at h1; cases h1
           | some vs =>
             rw [hvs] at h1; cases h1; obtain ⟨vs', ht, hl, hc'⟩ := hw.rdCells hi hvs; refine ⟨.agg vs'.toArray, ?_, by simp only [tr, ht]⟩
             simp [uD, e2, asAddr, loadVar, cZ hc1.1.2, bT hc1.2, dW hl hc']
         · cases h1
       · cases hc1
     obtain ⟨v', r1, t1⟩ := key; exact ⟨v' :: us', by simp only [List.mapM_cons, Sem.run_bind, r1, r2, Result.andThen_ok, Sem.run_pure], cN.2 ⟨_, _, t1, t2, rfl⟩⟩
   · cases hv
 | [], _ :: _, _, _, hc, _ => by cases hc
 | _ :: _, [], _, _, hc, _ => by cases hc
theorem aCN {m : Mp} {h : H} {w : World} {ρ : Tr DV} {a : Act} {fn : Func} {rs : List RV} {vs : List DV} (hw : bC N0 w0 m h w) (hx : ∀ x ∈ fn.results.toList, ∃ c t, x = .cell c t /\ tr m (ev ρ (.r (Pa.of c))) = some (a.tmps.getD c undef))
   (hc : lN (aBw P) fn.results.toList rs = true) (hv : fQ ρ h rs = some vs) : ∃ v', (results fn a.tmps).run P w = .ok v' w /\ tr m (iG vs) = some v' := by
 obtain ⟨vs', r1, t1⟩ := aEH (n := 0) hw hx hc hv; rw [sY, Array.mapM_eq_mapM_toList]; simp only [Sem.run_bind, Sem.run_map, r1, Result.andThen_ok, Sem.run_pure]; refine ⟨_, rfl, ?_⟩; have hl := cK t1
 match vs, vs', t1 with
 | [], vs', t1 =>
   simp only [trs, Option.some.injEq] at t1; subst t1; simp [iG, tr, trs]
 | [v], vs', t1 =>
   obtain ⟨u, us, h1, h2, rfl⟩ := cN.1 t1; simp only [trs, Option.some.injEq] at h2; subst h2
   simpa [iG] using h1
 | v :: v2 :: vs, vs', t1 =>
   have hl := cK t1; simp only [iG, tr, t1]; rw [dif_neg (by simp [hl])]
theorem tX {C : CF} {v : DV} {k : List DV -> Option (DV × H)} {r : DV × H} (h : yA C v k = some r) : ∃ cap, v = .fn (.func C.f) [] cap /\ k cap = some r := by
 unfold yA at h; split at h
 · obtain ⟨h1, h2⟩ := aL h; rw [Nat.eq_of_beq_eq_true h1]; exact ⟨_, rfl, h2⟩
 · cases h
theorem aFa (hE : fD P E) {f : FuncId} {G : GF} (hc : aAJ P f G = true) {m : Mp} {h : H} {w : World} {args : List DV} {args' : List Value} {s : Tr DV × H} {R : Ending -> World -> Prop}
   (hs : wF E G args h = some s) {C : CF} {cap : List DV} (hclo : ev s.1 (.r G.clo) = .fn (.func C.f) [] cap) (hargs : trs m args = some args') (hw : bC N0 w0 m h w)
   (hD : ∀ fn id ops m' a' w' cap' d, P.funcs[f]? = some fn -> aAL P G.n ops G.σ = true -> fE m h m' s.2 -> dS m' G.n s.1 a' -> bC N0 w0 m' s.2 w' -> trs m' cap = some cap' -> d = ({ target := .fn (.func C.f) cap'.toArray, args := #[] } : Deferred) -> a'.defers = [d] ->
     lN (aBw P) fn.results.toList G.res = true -> (∀ x ∈ fn.results.toList, aNE G x = true) -> (∀ y ∈ G.pfx, y.isW = false) ->
     (Code.region id ops true).wp P (Exit.then (λ a w => Code.ret.wp P (bodyPostD P fn R) a w) (bodyPostD P fn R)) a' w') :
   Calls P f args'.toArray w R := by
 unfold aAJ at hc; rw [Bool.and_eq_true] at hc; obtain ⟨hcal, hc⟩ := hc; cases hf : P.funcs[f]? with
 | none => rw [hf] at hc; cases hc
 | some fn =>
   rw [hf] at hc; simp only [Bool.and_eq_true] at hc; obtain ⟨⟨⟨⟨hn, hnp⟩, hres⟩, hrok⟩, hbody⟩ := hc; have hn := Nat.eq_of_beq_eq_true hn; have hnp := Nat.le_of_ble_eq_true hnp; split at hbody
   rotate_left
   · cases hbody
   rename_i ia opsA drawA ib opsB drawB id opsD drawD hb; simp only [Bool.and_eq_true, Bool.not_eq_true'] at hbody; obtain ⟨⟨⟨⟨⟨⟨rfl, rfl⟩, rfl⟩, hA⟩, hB⟩, hDr⟩, hpfx⟩ := hbody; split at hB
   rotate_left
   · cases hB
   rename_i o1 o2 hl; simp only [Bool.and_eq_true] at hB; obtain ⟨⟨⟨hg, hdf⟩, hd0⟩, hgd⟩ := hB; have hd0 : o2.dst = none := by simpa using hd0
   have hgd : o2.guard = none := by simpa using hgd
   unfold wF at hs; obtain ⟨hlen, hs⟩ := aL hs; have hlen := Nat.eq_of_beq_eq_true hlen; refine calls_of_wp_defers hf hb (wp_seq ?_); have hcA : dK P G.n (.region ia opsA false) (.reg G.lA) = true := by simp only [dK, hA]; rfl
   refine oY (ds := []) (R := Tr DV × H) hE (.reg G.lA) _ hcA m _ h _ w (λ x ρ h => DX.rec (motive := λ _ => Option (Tr DV × H)) (jA E G.gB ρ h λ ρ h => some (ρ, h)) (λ _ => none) none x) _ hs (sZ hargs (by omega) hn) hw rfl λ x ρ1 h1 m1 a1 w1 x1 x2 x3 x4 x5 => ?_
   cases x with
   | exit i => cases x5
   | ret => cases x5
   | normal =>
     refine wp_seq (wp_region ?_); have hsz : opsB.size = 2 := by rw [<- Array.length_toList, hl]; rfl
     have g0 : opsB[0]? = some o1 := by rw [<- Array.getElem?_toList, hl]; rfl
     have g1 : opsB[1]? = some o2 := by rw [<- Array.getElem?_toList, hl]; rfl
     rw [hsz, show List.range 2 = List.range' 0 [o1].length ++ [1] from rfl]
     refine yT hE [1] [o1] [G.gB] 0 (λ j hj => by
       have : j = 0 := by simp only [List.length_cons, List.length_nil] at hj; omega
       subst this; exact g0.symm) (by simp only [qH, hg, Bool.and_self]) m1 ρ1 h1 a1 w1 (λ ρ h => some (ρ, h)) x5 x2 x3 x4 λ ρ2 h2 m2 a2 w2 y1 y2 y3 y4 y5 => ?_
     cases y5; simp only [wpOps, g1]; have hwant : Region.wanted o2 (yielded opsB a2.tmps) = true := by unfold Region.wanted; rw [hgd]
     rw [hwant]; simp only [if_true]; refine .inl ?_; unfold aJu at hdf; split at hdf
     rotate_left
     · cases hdf
     rename_i c hop; split at hdf
     rotate_left
     · cases hdf
     rename_i t hce; rw [Bool.and_eq_true] at hdf; have hp := eQ hdf.1; have hca : c.args = #[] := by
       have : c.args.toList = [] := by simpa using hdf.2
       apply Array.ext'; simpa using this
     have hreg := y2.regs t; rw [hp, hclo] at hreg; simp only [tr, trs] at hreg; cases hcp : trs m2 cap with
     | none => rw [hcp] at hreg; cases hreg
     | some cap' =>
       rw [hcp] at hreg; have hev : a2.eval (.tmp t) = .func (.func C.f) #[] cap'.toArray := (Option.some.inj hreg).symm; have hex : (execOp a2.eval o2).run P w2 = .ok (.defer { target := .fn (.func C.f) cap'.toArray, args := #[] }) w2 := by
         unfold execOp; rw [hop]; simp only [Sem.run_bind, resolve, hce, hca, hev, Sem.run_pure]; rw [show (#[] : Array Operand).map a2.eval = #[] from by simp, nW]
         simp only [Result.andThen_ok, Sem.run_pure]
         congr 3
       unfold Oper.wp; rw [hex, Oper.upon_defer, hd0]; refine wp_seq (hD fn id opsD m2 _ w2 cap' _ hf hDr (x1.trans y1) ⟨y2.size, y2.regs⟩ y3 hcp rfl ?_ hres (List.all_eq_true.1 hrok) λ y hy => ?_)
       · show _ :: a2.defers = _; rw [y4]
       · have := List.all_eq_true.1 hpfx y hy; simpa using this
theorem aAH {C : CF} (hC : xV P C = true) (cap' : Array Value) (w : World) : (invoke (.fn (.func C.f) cap') #[]).run P w = .ok (.enter C.f cap') w := by
 unfold xV at hC; rw [Bool.and_eq_true] at hC; simp only [invoke, oO hC.1]
 congr 2
 apply Array.ext'; simp
theorem xQ (hE : fD P E) {f : FuncId} {G : GF} {C : CF} (hc : aAJ P f G = true) (hC : xV P C = true) : eN P f (aJv E G C) := by
 intro N0 w0 m h w args args' v h' hrun hargs hw; unfold aJv at hrun; cases hs : wF E G args h with
 | none => rw [hs] at hrun; cases hrun
 | some s =>
   rw [hs] at hrun; simp only [Option.bind_some] at hrun; cases ht : gV E G.σ [] s.1 s.2 (λ ρ h => some (ρ, h)) with
   | none => rw [ht] at hrun; cases hrun
   | some t =>
     rw [ht] at hrun; simp only [Option.bind_some] at hrun; obtain ⟨cap, hclo, hrun⟩ := tX hrun; cases hcr : aMM E C cap .nili t.2 with
     | none => rw [hcr] at hrun; cases hrun
     | some h4 =>
       rw [hcr] at hrun; simp only [Option.bind_some] at hrun; cases hvs : fQ t.1 h4 G.res with
       | none => rw [hvs] at hrun; cases hrun
       | some vs =>
         rw [hvs] at hrun; simp only [Option.map_some, Option.some.injEq, Prod.mk.injEq] at hrun; obtain ⟨rfl, rfl⟩ := hrun; refine aFa hE hc hs hclo hargs hw λ fn id ops m1 a1 w1 cap' d hf hDr x1 x2 x3 hcap hd hds hres hrok hpfx => ?_
         refine uU hE hDr ht x2 x3 hds λ ρ2 h2 m2 a2 w2 y1 y2 y3 y4 y5 => ?_
         cases y5; refine wp_ret ?_; show Leaves P fn a2.tmps _ a2.defers .returning w2; rw [y4, hd]; refine leaves_cons (by simp) (aAH hC _ w2) ((aPp hE hC hcr (jR y1.le _ _ hcap) y3 (.inl ⟨rfl, rfl, rfl⟩)).mono λ e u' w3 hh => ?_)
         obtain ⟨m3, v, rfl, rfl, z1, z2⟩ := hh; obtain ⟨v', r1, r2⟩ := xF (P := P) (y2.mono z2.le) z1 hres hvs; exact ⟨v', r1, m3, v', rfl, r2, z1, (x1.trans y1).trans z2⟩
theorem aAg (hE : fD P E) {f : FuncId} {G : GF} {C : CF} {St : bB} (hSt : aDw P G.fs St) (hc : aAJ P f G = true) (hC : xV P C = true) : eN P f (aVb E St G C) := by
 intro N0 w0 m h w args args' v h' hrun hargs hw; unfold aVb at hrun; cases hs : wF E G args h with
 | none => rw [hs] at hrun; cases hrun
 | some s =>
   rw [hs] at hrun; simp only [Option.bind_some] at hrun; cases ht : gV E G.pfx [] s.1 s.2 (λ ρ h => some (ρ, h)) with
   | none => rw [ht] at hrun; cases hrun
   | some t =>
     rw [ht] at hrun; simp only [Option.bind_some] at hrun; cases hst : St (G.as.map (ev t.1)) t.2 with
     | none => rw [hst] at hrun; cases hrun
     | some r =>
       obtain ⟨pv, h3⟩ := r; rw [hst] at hrun; simp only [Option.bind_some] at hrun; obtain ⟨cap, hclo, hrun⟩ := tX hrun; cases hcr : aMM E C cap pv h3 with
       | none => rw [hcr] at hrun; cases hrun
       | some h4 =>
         rw [hcr] at hrun; simp only [Option.bind_some] at hrun; cases hvs : fQ t.1 h4 G.res with
         | none => rw [hvs] at hrun; cases hrun
         | some vs =>
           rw [hvs] at hrun; simp only [Option.map_some, Option.some.injEq, Prod.mk.injEq] at hrun; obtain ⟨rfl, rfl⟩ := hrun; have hcal : fJ P G.fs = true := by
             unfold aAJ at hc; rw [Bool.and_eq_true] at hc; exact hc.1
           refine aFa hE hc hs hclo hargs hw λ fn id ops m1 a1 w1 cap' d hf hDr x1 x2 x3 hcap hd hds hres hrok hpfx => ?_
           refine aGN (E := E) (x := G.x) hSt hcal hDr rfl hpfx rfl rfl ht hst x2 x3 hds λ m2 pv' a2 w2 y1 y2 y3 y4 y5 y6 => ?_
           show Leaves P fn a2.tmps _ a2.defers (.panicking [{ v := pv', recovered := false }]) w2; rw [y6, hd]; refine leaves_cons (by simp) (aAH hC _ w2) ((aPp hE hC hcr (jR y1.le _ _ hcap) y5 (.inr ⟨pv', y2, rfl, rfl⟩)).mono λ e u' w3 hh => ?_)
           obtain ⟨m3, v, rfl, rfl, z1, z2⟩ := hh; obtain ⟨v', r1, r2⟩ := aCN (P := P) (a := a2) z1 (λ x hx => by
             have := hrok x hx; unfold aNE at this; split at this
             · rename_i c ty; refine ⟨c, ty, rfl, eO z2.le _ _ (y3 c λ y hy hyd => ?_)⟩
               have h1 := List.all_eq_true.1 this y hy; rw [hyd] at h1; unfold rD at h1; simp only [nZ] at h1; cases h1
             · cases this) hres hvs
           show ∃ v, _ /\ _; exact ⟨v', r1, m3, v', rfl, r2, z1, (x1.trans y1).trans z2⟩
end
end Go.DI
namespace Go.DI
open Go.RowKit
theorem xK (n : Nat) : bO (List.replicate n 0) = true := by
 rw [iR]; intro b hb; have := List.eq_of_mem_replicate hb; omega
structure yR (b : Nat) (h h' : H) : Prop where
 size : h'.size = h.size
 get : ∀ c, c ≠ b -> h'.get c = h.get c
theorem yR.trans {b : Nat} {x y z : H} (h : yR b x y) (k : yR b y z) : yR b x z := ⟨k.size.trans h.size, λ c hc => (k.get c hc).trans (h.get c hc)⟩
theorem wrap_u8 {n : Nat} (h : n < 256) : IntKind.u8.wrap (.ofNat n) = .ofNat n := by
 rw [IntKind.wrap_u8]; simp only [Int.ofNat_eq_natCast]; omega
theorem aO (k k' : IntKind) (a b : Nat) : rL (.int k (.ofNat a)) (.int k' (.ofNat b)) = some (.int k (.ofNat (max a b))) := by
 simp only [rL, kJ]
 congr 2
 by_cases h : a < b
 · rw [show decide (Int.ofNat a < Int.ofNat b) = true from by simp only [Int.ofNat_eq_natCast, decide_eq_true_iff]; omega]
   show Int.ofNat b = _; congr 1; omega
 · rw [show decide (Int.ofNat a < Int.ofNat b) = false from by simp only [Int.ofNat_eq_natCast, decide_eq_false_iff_not]; omega]
   show Int.ofNat a = _; congr 1; omega
theorem aI {b n c j : Nat} {op : Bool} (hj : j < n) (k : IntKind) : cH 1 (.slc b 0 n c op) (.int k (.ofNat j)) = some (.ptr b j) := by
 simp only [cH, mQ, aR]; rw [dP hj]; simp
theorem aNY (a b : Nat) : decide (Int.ofNat a < Int.ofNat b) = decide (a < b) := by
 rw [decide_eq_decide]; simp only [Int.ofNat_eq_natCast]; omega
theorem qS {i : Nat} (h : i + 1 < 9223372036854775808) : bL (.int .i64 (.ofNat i)) (.int .i64 (.ofNat 1)) = some (.int .i64 (.ofNat (i + 1))) := by
 rw [nS, show Int.ofNat i + Int.ofNat 1 = Int.ofNat (i + 1) from rfl, wrap_i64 h]
theorem yU {s : Ln} {j : Nat} (h : j <= s.length) (k : IntKind) : jM (.str s) none (some (.int k (.ofNat j))) = some (.str (s.take j)) := by
 simp only [jM, cU, dHi, dLo]; rw [Nat.ble_eq_true_of_le h, cond_true, Nat.ble_eq_true_of_le (Nat.zero_le _), cond_true, fH]; rfl
theorem yV {s : Ln} {j : Nat} (h : j <= s.length) (k : IntKind) : jM (.str s) (some (.int k (.ofNat j))) none = some (.str (s.drop j)) := by
 simp only [jM, cU, dHi, dLo]; rw [Nat.ble_eq_true_of_le (Nat.le_refl _), cond_true, Nat.ble_eq_true_of_le h, cond_true, fH, List.take_length]
theorem kF (k : IntKind) (a b : Nat) : bV (.int k (.ofNat a)) (.int k (.ofNat b)) = some (.bool (decide (a = b))) := by
 rw [jN]; congr 2; rw [Bool.eq_iff_iff, beq_iff_eq, decide_eq_true_iff]; simp only [Int.ofNat_eq_natCast]; omega
end Go.DI
namespace Go.DI
open Go.RowKit
theorem aZU {a b : Nat} (h : a ≠ b) : Nat.beq a b = false := by
 cases hb : Nat.beq a b
 · rfl
 · exact absurd (Nat.eq_of_beq_eq_true hb) h
theorem oX {a b : Nat} (h : ¬ a <= b) : Nat.ble a b = false := by
 cases hb : Nat.ble a b
 · rfl
 · exact absurd (Nat.le_of_ble_eq_true hb) h
def bW (h : H) (b : Nat) (L : List DV) : Prop := b < h.size /\ ∃ pl t, h.get b = some (.blk ⟨L.length, 1, false, pl, t⟩) /\ ∀ j x, L[j]? = some x -> t.at_ j = some x
section
variable {h h' : H} {b : Nat} {L : List DV}
theorem bW.rd (hb : bW h b L) {j : Nat} {x : DV} (hj : L[j]? = some x) : rdCell h.get b j = some x := by
 obtain ⟨hlt, pl, t, h1, h2⟩ := hb; have hjl : j < L.length := by
   rcases Nat.lt_or_ge j L.length with h3 | h3
   · exact h3
   · rw [List.getElem?_eq_none h3] at hj; cases hj
 rw [tD h1 hjl]; exact h2 j x hj
theorem bW.read (hb : bW h b L) {j : Nat} {x : DV} (hj : L[j]? = some x) : aF h.get (.ptr b j) = some x := by
 simp only [aF, bM]; exact hb.rd hj
theorem bW.cells (hb : bW h b L) {o k : Nat} (hk : o + k <= L.length) : rdCells h.get b o k = some ((L.drop o).take k) := by
 have hl : ((L.drop o).take k).length = k := by simp; omega
 have := mC (rd := h.get) (b := b) ((L.drop o).take k) o λ i v hi => hb.rd (by
   rw [List.getElem?_take] at hi; split at hi
   · rw [List.getElem?_drop] at hi; exact hi
   · cases hi)
 rw [hl] at this; exact this
theorem bW.cells_all (hb : bW h b L) : rdCells h.get b 0 L.length = some L := by
 have := hb.cells (o := 0) (k := L.length) (by omega)
 simpa using this
theorem bW.but (hb : bW h b L) {c : Nat} (hc : b ≠ c) (k : yR c h h') : bW h' b L := by
 obtain ⟨hlt, pl, t, h1, h2⟩ := hb; exact ⟨by rw [k.size]; exact hlt, pl, t, by rw [k.get b hc]; exact h1, h2⟩
theorem bW.store (hb : bW h b L) {vs : List DV} {o : Nat} (hv : vs.all DV.one = true) (ho : o + vs.length <= L.length) :
   ∃ h', eE vs h b o = some h' /\ bW h' b (L.take o ++ vs ++ L.drop (o + vs.length)) /\ yR b h h' := by
 obtain ⟨hlt, pl, t, h1, h2⟩ := hb; obtain ⟨h', t', f1, f2, f3, f4, f5⟩ := qC (h := h) (b := b) (o := o) (vs := vs) h1 rfl ho hv; have hlen : (L.take o ++ vs ++ L.drop (o + vs.length)).length = L.length := by simp; omega
 refine ⟨h', f1, ⟨by rw [f2]; exact hlt, pl, t', by rw [f4, hlen], λ j x hj => ?_⟩, ⟨f2, f3⟩⟩
 rw [f5]; have ht : (L.take o).length = o := by simp; omega
 by_cases hjo : o <= j /\ j < o + vs.length
 · rw [if_pos hjo]; rw [List.append_assoc, List.getElem?_append_right (by omega), ht, List.getElem?_append_left (by omega)] at hj
   exact hj
 · rw [if_neg hjo]; apply h2; rcases Nat.lt_or_ge j o with hlt | hge
   · rw [List.append_assoc, List.getElem?_append_left (by omega), List.getElem?_take, if_pos hlt] at hj
     exact hj
   · have hge2 : o + vs.length <= j := by
       rcases Nat.lt_or_ge j (o + vs.length) with h3 | h3
       · exact absurd ⟨hge, h3⟩ hjo
       · exact h3
     rw [List.getElem?_append_right (by simp only [List.length_append, ht]; omega), List.length_append, ht, List.getElem?_drop] at hj
     rw [show j = o + vs.length + (j - (o + vs.length)) from by omega]; exact hj
theorem bW.set (hb : bW h b L) {j : Nat} {v : DV} (hv : v.one = true) (hj : j < L.length) :
   ∃ h', cQ 1 (.ptr b j) v h = some (.tup [], h') /\ bW h' b (L.set j v) /\ yR b h h' := by
 obtain ⟨h', f1, f2, f3⟩ := hb.store (vs := [v]) (o := j) (by simp [hv]) (by simp; omega)
 refine ⟨h', ?_, ?_, f3⟩
 · rw [yK]; have hc : v.cells = [v] := by cases v <;> first | rfl | cases hv
   simp only [dSt, hc, List.length_singleton, Nat.beq_refl, cond_true, f1, Option.map_some]
 · have : L.take j ++ [v] ++ L.drop (j + [v].length) = L.set j v := by
     rw [List.set_eq_take_append_cons_drop, if_pos hj]; simp
   rw [<- this]; exact f2
theorem bW.text {s : Ln} (hb : bW h b (cT s)) (hok : bO s = true) (c : Nat) (op : Bool) : jY h.get (.slc b 0 s.length c op) = some (.str s) := by
 have hr := hb.cells_all; have hlen : (cT s).length = s.length := by simp [cT]
 rw [hlen] at hr; simp only [jY, bJ, hr, Option.bind_some, qJ hok, fH]
end
theorem bW.pushed {h : H} {L : List DV} {pl : Bool} : bW (h.push (.blk ⟨L.length, 1, false, pl, Tr.ofL L⟩)) h.size L :=
 ⟨by rw [H.size_push]; omega, pl, _, by rw [H.get_push, if_pos rfl], λ j x hj => by rw [Tr.at_ofL]; exact hj⟩
theorem bW.push {h : H} {b : Nat} {L : List DV} (hb : bW h b L) (o : eH) : bW (h.push o) b L := by
 obtain ⟨hlt, pl, t, h1, h2⟩ := hb; exact ⟨by rw [H.size_push]; omega, pl, t, by rw [H.get_push, if_neg (by omega)]; exact h1, h2⟩
theorem bW.made {h : H} {z : DV} {n : Nat} (hn : n < 140737488355328) : bW (h.push (.blk ⟨n, 1, false, true, Tr.full z 48⟩)) h.size (List.replicate n z) := by
 refine ⟨by rw [H.size_push]; omega, true, _, by rw [H.get_push, if_pos rfl, List.length_replicate], λ j x hj => ?_⟩
 have hlt : j < n := by
   rcases Nat.lt_or_ge j n with h3 | h3
   · exact h3
   · rw [List.getElem?_eq_none (by simpa using h3)] at hj; cases hj
 have hx : x = z := by
   rw [List.getElem?_replicate, if_pos hlt] at hj; exact (Option.some.inj hj).symm
 subst hx; exact Tr.at_full _ (by omega)
structure dQ (n0 : Nat) (h h' : H) : Prop where
 size : h.size <= h'.size
 get : ∀ c, c < n0 -> h'.get c = h.get c
theorem dQ.refl (n0 : Nat) (h : H) : dQ n0 h h := ⟨Nat.le_refl _, λ _ _ => rfl⟩
theorem dQ.trans {n0 : Nat} {x y z : H} (a : dQ n0 x y) (c : dQ n0 y z) : dQ n0 x z := ⟨Nat.le_trans a.size c.size, λ i hi => (c.get i hi).trans (a.get i hi)⟩
theorem dQ.grown {h h' : H} (a : dQ h.size h h') : bX h h' := ⟨a.size, a.get⟩
theorem yR.keeps {n0 b : Nat} {h h' : H} (k : yR b h h') (hb : n0 <= b) : dQ n0 h h' := ⟨by rw [k.size]; exact Nat.le_refl _, λ c hc => k.get c (by omega)⟩
theorem dQ.push {n0 : Nat} {h : H} (hn : n0 <= h.size) (o : eH) : dQ n0 h (h.push o) := ⟨by rw [H.size_push]; omega, λ c hc => by rw [H.get_push, if_neg (by omega)]⟩
def dI (n0 : Nat) (h : H) (v : DV) (L : List DV) : Prop := (v = .nils /\ L = []) \/ ∃ b, n0 <= b /\ v = .slc b 0 L.length L.length true /\ bW h b L
theorem dI.nil (n0 : Nat) (h : H) : dI n0 h .nils [] := .inl ⟨rfl, rfl⟩
theorem dI.len {n0 : Nat} {h : H} {v : DV} {L : List DV} (o : dI n0 h v L) : aW v = some (.int .i64 (.ofNat L.length)) := by
 rcases o with ⟨rfl, rfl⟩ | ⟨b, _, rfl, _⟩ <;> rfl
theorem dI.append {n0 : Nat} {h : H} {v x : DV} {L new : List DV} {bytes : Nat} (o : dI n0 h v L) (hn0 : n0 <= h.size) (hl : eI x = some new.length) (hc : dO 1 h.get x = some new) (h1 : new.all DV.one = true) (hne : new ≠ [])
   (hs : (L.length + new.length) * bytes < bU) (hs2 : L.length + new.length < bU) : ∃ v' h', cG 1 bytes v x h = some (v', h') /\ dI n0 h' v' (L ++ new) /\ dQ n0 h h' := by
 have hpos : 0 < new.length := List.length_pos_iff.2 hne; rcases o with ⟨rfl, rfl⟩ | ⟨b, hb0, rfl, hb⟩
 · refine ⟨.slc h.size 0 new.length new.length true, h.push (.blk ⟨new.length, 1, false, true, Tr.ofL new⟩), ?_, .inr ⟨h.size, hn0, ?_, ?_⟩, dQ.push hn0 _⟩
   · rw [iK]; simp only [fT, hl, hc, Option.bind_some]; simp only [List.length_nil, Nat.zero_add] at hs hs2; rw [aZU (show new.length ≠ 0 by omega), dP hs, dP hs2]
     simp only [cond_false, Bool.and_self, cond_true, H.pushK_eq, Nat.mul_one]
   · simp
   · simpa using bW.pushed
 · obtain ⟨hlt, pl, t, g1, g2⟩ := hb; refine ⟨.slc h.size 0 (L.length + new.length) (L.length + new.length) true, (h.push (.blk ⟨(L.length + new.length) * 1, 1, false, false, Tr.ofF new (L.length * 1) t⟩)).put b .dead, ?_, .inr ⟨h.size, hn0, ?_, ?_⟩, ?_⟩
   · rw [iK]; simp only [fT, hl, hc, Option.bind_some, aR]; rw [oX (show ¬ L.length + new.length <= L.length by omega), dP hs, dP hs2]
     simp only [cond_false, Bool.and_self, cond_true, g1, h1, Nat.zero_add, Nat.mul_one, Nat.beq_refl, Bool.not_false, Nat.ble_eq_true_of_le (Nat.le_refl _), uO, Option.bind_some, H.pushK_eq, H.putK_eq]
   · simp
   · refine ⟨by rw [H.size_put, H.size_push]; omega, false, Tr.ofF new (L.length * 1) t, ?_, λ j x hj => ?_⟩
     · rw [H.get_put, if_neg (by omega), H.get_push, if_pos rfl, List.length_append, Nat.mul_one]
     · rw [Tr.at_ofF, Nat.mul_one]; rcases Nat.lt_or_ge j L.length with hj1 | hj1
       · rw [if_neg (by omega)]
         rw [List.getElem?_append_left hj1] at hj; exact g2 j x hj
       · rw [List.getElem?_append_right hj1] at hj; have : j - L.length < new.length := by
           rcases Nat.lt_or_ge (j - L.length) new.length with h3 | h3
           · exact h3
           · rw [List.getElem?_eq_none h3] at hj; cases hj
         rw [if_pos ⟨hj1, by omega⟩]; exact hj
   · refine ⟨by rw [H.size_put, H.size_push]; omega, λ c hc' => ?_⟩
     rw [H.get_put, if_neg (by omega), H.get_push, if_neg (by omega)]
theorem dI.push1 {n0 : Nat} {h : H} {v x z : DV} {L : List DV} {bytes : Nat} (o : dI n0 h v L) (hn0 : n0 <= h.size) (h1 : x.one = true)
   (hs : (L.length + 1) * bytes < bU) (hs2 : L.length + 1 < bU) : ∃ v' h', (∀ (R : Type) (k : DV -> H -> Option R), (dB 1 1 [z] [(0, 1, x)] h λ y h' => wK (cG 1 bytes v y h') k) = k v' h') /\ dI n0 h' v' (L ++ [x]) /\ dQ n0 h h' := by
 let h1' := h.push (.blk ⟨1 * 1, 1, false, true, Tr.ofL [x]⟩)
 have hp : bW h1' h.size [x] := bW.pushed (h := h) (L := [x]) (pl := true); have o' : dI n0 h1' v L := by
   rcases o with ⟨rfl, rfl⟩ | ⟨b, hb0, rfl, hb⟩
   · exact .inl ⟨rfl, rfl⟩
   · exact .inr ⟨b, hb0, rfl, hb.push _⟩
 obtain ⟨v', h', f1, f2, f3⟩ := o'.append (x := .slc h.size 0 1 1 false) (new := [x]) (bytes := bytes) (by show n0 <= (h.push _).size; rw [H.size_push]; omega) rfl
   (by simpa [dO] using hp.cells_all) (by simp [h1]) (by simp) hs hs2
 refine ⟨v', h', λ R k => ?_, f2, (dQ.push hn0 _).trans f3⟩
 have hf : eM (gI [z] 1) [(0, 1, x)] = some [x] := by
   have hc : x.cells = [x] := by cases x <;> first | rfl | cases h1
   simp [eM, gI, hc, nV]; rfl
 simp only [dB, hf, Option.bind_some, H.pushK_eq]; show wK (cG 1 bytes v (.slc h.size 0 1 1 false) h1') k = _; rw [f1]; rfl
theorem dI.text {n0 : Nat} {h : H} {v : DV} {s : Ln} (o : dI n0 h v (cT s)) (hok : bO s = true) : jY h.get v = some (.str s) := by
 have hl : (cT s).length = s.length := by simp [cT]
 rcases o with ⟨rfl, e⟩ | ⟨b, _, rfl, hb⟩
 · have : s = [] := by
     cases s with
     | nil => rfl
     | cons _ _ => cases e
   subst this; rfl
 · rw [hl]; exact hb.text hok _ _
def aBN (s : Ln) (n : Nat) : Ln := s ++ List.replicate (n - s.length) 0
theorem nH (s t : Ln) : cT (s ++ t) = cT s ++ cT t := by simp [cT]
theorem fO (s : Ln) : (cT s).length = s.length := by simp [cT]
theorem lR (k : IntKind) (a b : Nat) : dA (.int k (.ofNat a)) (.int k (.ofNat b)) = some (.bool (decide (b < a))) := by rw [nP, aNY]
theorem iP (k : IntKind) (a b : Nat) : bF (.int k (.ofNat a)) (.int k (.ofNat b)) = some (.bool (decide (a < b))) := by rw [gW, aNY]
theorem aH {a b : Nat} (h : b <= a) (ha : a < 9223372036854775808) : jO (.int .i64 (.ofNat a)) (.int .i64 (.ofNat b)) = some (.int .i64 (.ofNat (a - b))) := by
 rw [qR, show Int.ofNat a - Int.ofNat b = Int.ofNat (a - b) from by simp only [Int.ofNat_eq_natCast]; omega, wrap_i64 (by omega)]
theorem aJ {a b : Nat} (h : a + b < 9223372036854775808) : bL (.int .i64 (.ofNat a)) (.int .i64 (.ofNat b)) = some (.int .i64 (.ofNat (a + b))) := by
 rw [nS, show Int.ofNat a + Int.ofNat b = Int.ofNat (a + b) from rfl, wrap_i64 h]
theorem aLS (k : IntKind) {a : Int} (h : a < 0) : bF (.int k a) (.int k (.ofNat 0)) = some (.bool true) := by
 rw [gW]; simp [h]
def tR : bB := λ args h => match args with
 | [] => some (.bool true, h)
 | _ => none
theorem bC.goodW {N0 : Nat} {w0 : World} {m : Mp} {h : H} {w : World} (hw : bC N0 w0 m h w) : aTg w := λ x hx => by
 obtain ⟨g1, g2⟩ := hw.good x hx; have := hw.below.block x.1 g1; simp only [World.cell?] at g2 ⊢; rw [this]; exact g2
theorem aGC {P : Program} {B : aX} {T : Tr (aX -> bB)} {f : FuncId} {s : aX -> bB} (hB : fD P B) (hT : aFY P T) (hf : T.at_ f = some s) {n : Nat} (hrun : (s (SE B T n) [] H0).map (·.1) = some (.bool true)) : eN P f tR := by
 intro N0 w0 m h w args args' v h' hr ht hw; unfold tR at hr; split at hr
 · cases hr; simp only [trs, Option.some.injEq] at ht; subst ht; exact (calls_true2 hB hT hf (args := []) (args' := []) rfl hrun w hw.goodW).mono λ e w' hh => ⟨m, .bool true, hh.1, rfl, hw.after hh.2, fE.refl _ _⟩
 · cases hr
theorem dI.keep {n0 n1 : Nat} {h h' : H} {v : DV} {L : List DV} (o : dI n0 h v L) (k : dQ n1 h h') (hn : h.size <= n1) : dI n0 h' v L := by
 rcases o with o | ⟨b, hb, e, hlt, pl, t, g1, g2⟩
 · exact .inl o
 · exact .inr ⟨b, hb, e, Nat.lt_of_lt_of_le hlt k.size, pl, t, by rw [k.get b (by omega)]; exact g1, g2⟩
theorem dI.mono {n0 n1 : Nat} {h : H} {v : DV} {L : List DV} (o : dI n0 h v L) (hn : n1 <= n0) : dI n1 h v L := by
 rcases o with o | ⟨b, hb, e⟩
 · exact .inl o
 · exact .inr ⟨b, by omega, e⟩
theorem vT {s t : Ln} (h : s.length + t.length < mW) : bL (.str s) (.str t) = some (.str (s ++ t)) := by
 show (bif Nat.blt (s.length + t.length) mW then pI (s ++ t) else none) = _; rw [dP h, fH]; rfl
theorem aGL (n : Nat) : gI [0] n = List.replicate n 0 := by
 induction n with
 | zero => rfl
 | succ n ih => rw [List.replicate_succ, <- ih]; rfl
theorem aDV (n : Nat) (hn : n <= 140737488355328) (h : H) : oJ [.str [0], .int .i64 (.ofNat n)] h = some (.str (List.replicate n 0), h) := by
 show (bif Nat.ble n 9223372036854775807 && Nat.ble (([0] : Ln).length * n) 140737488355328 then (pI (gI [0] n)).map λ v => (v, h) else none) = _
 rw [Nat.ble_eq_true_of_le (by omega), Nat.ble_eq_true_of_le (by simp; omega), fH, aGL]; rfl
end Go.DI
namespace Go.DI
open Go.RowKit
theorem qX {α : Type} {l : List α} {j : Nat} {x : α} (h : l[j]? = some x) : j < l.length := by
 rcases Nat.lt_or_ge j l.length with h1 | h1
 · exact h1
 · rw [List.getElem?_eq_none h1] at h; cases h
section
variable {h h' : H} {v : DV} {L : List DV}
end
theorem aLV (k : IntKind) (a b : Int) : dZ (.int k a) (.int k b) = some (.bool (decide (b <= a))) := by
 show (bif kEq k k then aKa k a b else none) = _; rw [fV]; show dM (iLe b a) = _; rw [eX, aGZ]
theorem aLU (k : IntKind) (a b : Int) : rT (.int k a) (.int k b) = some (.bool (decide (a <= b))) := by
 show (bif kEq k k then aJY k a b else none) = _; rw [fV]; show dM (iLe a b) = _; rw [eX, aGZ]
theorem aNZ (a b : Nat) : decide (Int.ofNat a <= Int.ofNat b) = decide (a <= b) := by
 rw [decide_eq_decide]; simp only [Int.ofNat_eq_natCast]; omega
theorem nQ (k : IntKind) (a b : Nat) : dZ (.int k (.ofNat a)) (.int k (.ofNat b)) = some (.bool (decide (b <= a))) := by rw [aLV, aNZ]
theorem aLT (k : IntKind) (a b : Nat) : rT (.int k (.ofNat a)) (.int k (.ofNat b)) = some (.bool (decide (a <= b))) := by rw [aLU, aNZ]
theorem yD (n : Int) : IntKind.u64.wrap n = n % 18446744073709551616 := by simp [IntKind.wrap, IntKind.bits, IntKind.signed]
theorem nL {n : Nat} (h : n < 18446744073709551616) : IntKind.u64.wrap (.ofNat n) = .ofNat n := by
 rw [yD]; simp only [Int.ofNat_eq_natCast]; omega
end Go.DI
namespace Go.DI
open Go.RowKit
theorem Trod_lt {H : Type} {enc : TypeId × Value -> H} {P : Program} {W : World} {base : Nat} {sp : Nat -> Bool} {held : Bool} {t : TypeId} {v : Value} {d : DataW H} {ps : List MemPlace} (h : DataW.Trod enc P W base sp held t v d ps) : ∀ x ∈ ps, x.block < W.heap.size := λ x hx => by
 obtain ⟨n, e⟩ := h; exact DataW.trod_lt n _ _ _ e x hx
end Go.DI
namespace Go.DI
open Go.RowKit
section
variable {n0 : Nat} {h h' : H} {v : DV} {L : List DV}
end
end Go.DI
namespace Go.DI
open Go.RowKit
theorem qZ {R : Type} (l : List DV) (t : Bool) (op : (DV -> H -> Option R) -> Option R) (h : H) (k : DV -> H -> Option R) : aP (.tup l) t op h k = k (.tup []) h := id rfl
theorem yC (a : DV) (l : List DV) : aT 0 (.tup (a :: l)) = some a := id rfl
theorem yB (a b : DV) (l : List DV) : aT 1 (.tup (a :: b :: l)) = some b := id rfl
theorem aN (k k' : IntKind) (a b : Nat) : vR (.int k (.ofNat a)) (.int k' (.ofNat b)) = some (.int k (.ofNat (min a b))) := by
 simp only [vR, kJ]
 congr 2
 by_cases h : b < a
 · rw [show decide (Int.ofNat b < Int.ofNat a) = true from by simp only [Int.ofNat_eq_natCast, decide_eq_true_iff]; omega]
   show Int.ofNat b = _; congr 1; omega
 · rw [show decide (Int.ofNat b < Int.ofNat a) = false from by simp only [Int.ofNat_eq_natCast, decide_eq_false_iff_not]; omega]
   show Int.ofNat a = _; congr 1; omega
theorem aBD (k : IntKind) (a b : Nat) : cW (.int k (.ofNat a)) (.int k (.ofNat b)) = some (.bool (!decide (a = b))) := by
 rw [nO]; congr 2; rw [Bool.eq_iff_iff]; simp only [bne_iff_ne, ne_eq, Int.ofNat_eq_natCast, Bool.not_eq_true', decide_eq_false_iff_not]; omega
theorem aBC (s t : Ln) : cW (.str s) (.str t) = some (.bool (s != t)) := by
 show dM (!sEq s t) = _; rw [eX, sO]; rfl
end Go.DI
namespace Go.DI
open Go.RowKit
def aD (h : H) (b : Nat) (L : List DV) : Prop := b < h.size /\ ∃ es t, h.get b = some (.blk ⟨L.length, es, false, true, t⟩) /\ ∀ j x, L[j]? = some x -> t.at_ j = some x
section
variable {h h' : H} {b : Nat} {L : List DV}
theorem aD.rd (hb : aD h b L) {j : Nat} {x : DV} (hj : L[j]? = some x) : rdCell h.get b j = some x := by
 obtain ⟨hlt, es, t, h1, h2⟩ := hb; rw [tD h1 (qX hj)]; exact h2 j x hj
theorem aD.read (hb : aD h b L) {j : Nat} {x : DV} (hj : L[j]? = some x) : aF h.get (.ptr b j) = some x := by
 simp only [aF, bM]; exact hb.rd hj
theorem aD.cells (hb : aD h b L) {o k : Nat} (hk : o + k <= L.length) : rdCells h.get b o k = some ((L.drop o).take k) := by
 have hl : ((L.drop o).take k).length = k := by simp; omega
 have := mC (rd := h.get) (b := b) ((L.drop o).take k) o λ i v hi => hb.rd (by
   rw [List.getElem?_take] at hi; split at hi
   · rw [List.getElem?_drop] at hi; exact hi
   · cases hi)
 rw [hl] at this; exact this
theorem aD.readN (hb : aD h b L) {o k : Nat} (hk : o + k <= L.length) : cR k h.get (.ptr b o) = some (.agg ((L.drop o).take k)) := by
 simp only [cR, bJ, hb.cells hk]; rfl
theorem aD.but (hb : aD h b L) {c : Nat} (hc : b ≠ c) (k : yR c h h') : aD h' b L := by
 obtain ⟨hlt, es, t, h1, h2⟩ := hb; exact ⟨by rw [k.size]; exact hlt, es, t, by rw [k.get b hc]; exact h1, h2⟩
theorem aD.grown (hb : aD h b L) (g : bX h h') : aD h' b L := by
 obtain ⟨hlt, es, t, h1, h2⟩ := hb; exact ⟨Nat.lt_of_lt_of_le hlt g.size, es, t, by rw [g.get b hlt]; exact h1, h2⟩
theorem aD.keep {n : Nat} (hb : aD h b L) (k : dQ n h h') (hn : b < n) : aD h' b L := by
 obtain ⟨hlt, es, t, h1, h2⟩ := hb; exact ⟨Nat.lt_of_lt_of_le hlt k.size, es, t, by rw [k.get b hn]; exact h1, h2⟩
theorem aD.store (hb : aD h b L) {vs : List DV} {o : Nat} (hv : vs.all DV.one = true) (ho : o + vs.length <= L.length) :
   ∃ h', eE vs h b o = some h' /\ aD h' b (L.take o ++ vs ++ L.drop (o + vs.length)) /\ yR b h h' := by
 obtain ⟨hlt, es, t, h1, h2⟩ := hb; obtain ⟨h', t', f1, f2, f3, f4, f5⟩ := qC (h := h) (b := b) (o := o) (vs := vs) h1 rfl ho hv; have hlen : (L.take o ++ vs ++ L.drop (o + vs.length)).length = L.length := by simp; omega
 refine ⟨h', f1, ⟨by rw [f2]; exact hlt, es, t', by rw [f4, hlen], λ j x hj => ?_⟩, ⟨f2, f3⟩⟩
 rw [f5]; have ht : (L.take o).length = o := by simp; omega
 by_cases hjo : o <= j /\ j < o + vs.length
 · rw [if_pos hjo]; rw [List.append_assoc, List.getElem?_append_right (by omega), ht, List.getElem?_append_left (by omega)] at hj
   exact hj
 · rw [if_neg hjo]; apply h2; rcases Nat.lt_or_ge j o with hlt | hge
   · rw [List.append_assoc, List.getElem?_append_left (by omega), List.getElem?_take, if_pos hlt] at hj
     exact hj
   · have hge2 : o + vs.length <= j := by
       rcases Nat.lt_or_ge j (o + vs.length) with h3 | h3
       · exact absurd ⟨hge, h3⟩ hjo
       · exact h3
     rw [List.getElem?_append_right (by simp only [List.length_append, ht]; omega), List.length_append, ht, List.getElem?_drop] at hj
     rw [show j = o + vs.length + (j - (o + vs.length)) from by omega]; exact hj
theorem wM {v : DV} (hv : v.one = true) : v.cells = [v] := by cases v <;> first | rfl | cases hv
theorem aD.set (hb : aD h b L) {j : Nat} {v : DV} (hv : v.one = true) (hj : j < L.length) :
   ∃ h', cQ 1 (.ptr b j) v h = some (.tup [], h') /\ aD h' b (L.set j v) /\ yR b h h' := by
 obtain ⟨h', f1, f2, f3⟩ := hb.store (vs := [v]) (o := j) (by simp [hv]) (by simp; omega)
 refine ⟨h', ?_, ?_, f3⟩
 · rw [yK]; simp only [dSt, wM hv, List.length_singleton, Nat.beq_refl, cond_true, f1, Option.map_some]
 · have : L.take j ++ [v] ++ L.drop (j + [v].length) = L.set j v := by
     rw [List.set_eq_take_append_cons_drop, if_pos hj]; simp
   rw [<- this]; exact f2
theorem aD.setN (hb : aD h b L) {o n : Nat} {cs : List DV} (hn : cs.length = n) (hv : cs.all DV.one = true) (ho : o + n <= L.length) :
   ∃ h', cQ n (.ptr b o) (.agg cs) h = some (.tup [], h') /\ aD h' b (L.take o ++ cs ++ L.drop (o + n)) /\ yR b h h' := by
 subst hn; obtain ⟨h', f1, f2, f3⟩ := hb.store (vs := cs) (o := o) hv ho; refine ⟨h', ?_, f2, f3⟩; rw [yK]; have : (DV.agg cs).cells = cs := rfl; simp only [dSt, this, Nat.beq_refl, cond_true, f1, Option.map_some]
theorem wE {R : Type} (cs : List DV) (h : H) (k : DV -> H -> Option R) : cL (.agg cs) h k = k (.ptr h.size 0) (h.push (.blk ⟨cs.length, cs.length, false, true, Tr.ofL cs⟩)) := by
 simp only [cL, aR, H.pushK_eq]; rfl
theorem aMl {R : Type} {v : DV} (hv : v.one = true) (h : H) (k : DV -> H -> Option R) : cL v h k = k (.ptr h.size 0) (h.push (.blk ⟨1, 1, false, true, Tr.ofL [v]⟩)) := by
 simp only [cL, aR, H.pushK_eq, wM hv]; rfl
theorem aD.pushed {L : List DV} {es : Nat} : aD (h.push (.blk ⟨L.length, es, false, true, Tr.ofL L⟩)) h.size L :=
 ⟨by rw [H.size_push]; omega, es, _, by rw [H.get_push, if_pos rfl], λ j x hj => by rw [Tr.at_ofL]; exact hj⟩
end
@[simp] theorem cP (b o : Nat) : aA (.ptr b o) = some (.ptr b o) := id rfl
theorem aM (off b o : Nat) : aG off (.ptr b o) = some (.ptr b (o + off)) := by simp only [aG, aR]
end Go.DI
namespace Go.DI
open Go.RowKit
theorem vP (k' : IntKind) {a b : Nat} (hb : b <= 64) : pM (.int .u64 (.ofNat a)) (.int k' (.ofNat b)) = some (.int .u64 (.ofNat (a * 2 ^ b % 18446744073709551616))) := by
 show kK .shl .u64 (.ofNat a) (.ofNat b) = _; unfold kK; rw [show iLt (.ofNat b) 0 = false from by rw [kJ]; simp]
 simp only [cond_false, fI]; rw [show min (Int.ofNat b).toNat IntKind.u64.bits = b from by show min b 64 = b; omega, yD]
 congr 2
theorem aLQ {a : Nat} (ha : a < 9223372036854775808) (k' : IntKind) : jP (.int .i64 (.negSucc a)) (.int k' (.ofNat 63)) = some (.int .i64 (.negSucc 0)) := by
 show kK .shr .i64 (.negSucc a) (.ofNat 63) = _; unfold kK; rw [show iLt (.ofNat 63) 0 = false from by rw [kJ]; simp]
 simp only [cond_false, kS]; rw [show min (Int.ofNat 63).toNat IntKind.i64.bits = 63 from rfl]
 congr 2
 rw [Int.fdiv_eq_ediv_of_nonneg _ (by omega)]
 omega
theorem aNi {u : Nat} (h : u < 18446744073709551616) : nR (.int .u64 (.ofNat u)) (.int .u64 (.ofNat 127)) = some (.int .u64 (.ofNat (u % 128))) := by
 have e : u &&& 127 = u % 128 := Nat.and_two_pow_sub_one_eq_mod u 7; rw [vS .u64 u 127 (by show u < 2 ^ 64; omega) (by decide), e, nL (by omega)]
theorem aZx {u : Nat} (h : u < 18446744073709551616) : nR (.int .u64 (.ofNat u)) (.int .u64 (.ofNat 1)) = some (.int .u64 (.ofNat (u % 2))) := by
 have e : u &&& 1 = u % 2 := Nat.and_two_pow_sub_one_eq_mod u 1; rw [vS .u64 u 1 (by show u < 2 ^ 64; omega) (by decide), e, nL (by omega)]
theorem aEu (k : IntKind) (a b : Nat) (ha : a < 2 ^ k.bits) (hb : b < 2 ^ k.bits) : aBm (.int k (.ofNat a)) (.int k (.ofNat b)) = some (.int k (k.wrap (.ofNat (a ||| b)))) := by
 show (bif kEq k k then aVd k (.ofNat a) (.ofNat b) else none) = _; rw [fV]; show (bif Nat.blt a (2 ^ k.bits) && Nat.blt b (2 ^ k.bits) then gJ k (.ofNat (Nat.lor a b)) else _) = _; rw [dP ha, dP hb]; exact fI _ _
set_option maxRecDepth 100000 in
theorem aZH : ∀ x, x < 256 -> x ||| 128 = x % 128 + 128 := by decide
theorem aUs {x : Nat} (h : x < 256) : aBm (.int .u8 (.ofNat x)) (.int .u8 (.ofNat 128)) = some (kZ (x % 128 + 128)) := by
 rw [aEu .u8 x 128 (by show x < 2 ^ 8; omega) (by decide), aZH x h]
 unfold kZ; rw [wrap_u8 (by omega)]
theorem aEP {a b i : Nat} (h : a < 2 ^ i) : a ||| b * 2 ^ i = a + b * 2 ^ i := by
 have := Nat.two_pow_add_eq_or_of_lt h b; rw [Nat.mul_comm b, Nat.or_comm]; omega
theorem conv_u8 (u : Nat) (k : IntKind) : cO .u8 (.int k (.ofNat u)) = some (.int .u8 (.ofNat (u % 256))) := by
 rw [gO, IntKind.wrap_u8]
 congr 2
theorem nF {b : Nat} (h : b < 18446744073709551616) (k : IntKind) : cO .u64 (.int k (.ofNat b)) = some (.int .u64 (.ofNat b)) := by
 rw [gO, nL h]
theorem aCL {a b : Nat} (k k' : IntKind) (hb : b <= k.bits) : jP (.int k (.ofNat a)) (.int k' (.ofNat b)) = some (.int k (.ofNat (a / 2 ^ b))) := nN k k' a b hb
theorem aEo {x : Nat} (h : x < 18446744073709551616) : x ^^^ 18446744073709551615 = 18446744073709551615 - x := by
 apply Nat.eq_of_testBit_eq; intro i; rw [Nat.testBit_xor, show 18446744073709551615 - x = 2 ^ 64 - (x + 1) from by omega, Nat.testBit_two_pow_sub_succ h, show 18446744073709551615 = 2 ^ 64 - 1 from rfl, Nat.testBit_two_pow_sub_one]
 by_cases hi : i < 64
 · simp [hi]
 · have : x.testBit i = false := Nat.testBit_lt_two_pow (Nat.lt_of_lt_of_le h (by
     show 2 ^ 64 <= 2 ^ i; exact Nat.pow_le_pow_right (by omega) (by omega)))
   simp [hi, this]
def zz (n : Int) : Nat := match n with
 | .ofNat a => 2 * a
 | .negSucc a => 2 * a + 1
theorem aZo {n : Int} (h1 : -9223372036854775808 <= n) (h2 : n < 9223372036854775808) : ∃ (x y z : DV), cO .u64 (.int .i64 n) = some x /\ pM x (.int .u64 (.ofNat 1)) = some y /\ jP (.int .i64 n) (.int .u64 (.ofNat 63)) = some z /\
   ∃ w, cO .u64 z = some w /\ nM y w = some (.int .u64 (.ofNat (zz n))) := by
 cases n with
 | ofNat a =>
   simp only [Int.ofNat_eq_natCast] at h2; refine ⟨_, _, _, nF (by omega) _, vP _ (by omega), aCL _ _ (by decide), _, nF (by omega) _, ?_⟩
   have e1 : a * 2 ^ 1 % 18446744073709551616 = 2 * a := by omega
   have e2 : a / 2 ^ 63 = 0 := by omega
   rw [e1, e2, kD .u64 _ _ (by show 2 * a < 2 ^ 64; omega) (by decide), Nat.xor_zero, nL (by omega)]; rfl
 | negSucc a =>
   have ha : a < 9223372036854775808 := by omega
   have e0 : IntKind.u64.wrap (.negSucc a) = .ofNat (18446744073709551615 - a) := by
     rw [yD]; simp only [Int.ofNat_eq_natCast]; omega
   have e3 : IntKind.u64.wrap (.negSucc 0) = .ofNat 18446744073709551615 := by rw [yD]; rfl
   refine ⟨.int .u64 (.ofNat (18446744073709551615 - a)), _, _, by rw [gO, e0], vP _ (by omega), aLQ ha _, .int .u64 (.ofNat 18446744073709551615), by rw [gO, e3], ?_⟩
   have e1 : (18446744073709551615 - a) * 2 ^ 1 % 18446744073709551616 = 18446744073709551614 - 2 * a := by omega
   rw [e1, kD .u64 _ _ (by show 18446744073709551614 - 2 * a < 2 ^ 64; omega) (by decide), aEo (by omega), nL (by omega)]
   have e5 : 18446744073709551615 - (18446744073709551614 - 2 * a) = 2 * a + 1 := by omega
   rw [e5]; rfl
theorem aLR (k : IntKind) (n : Int) : rS (.int k n) = some (.int k (k.wrap (0 - n))) := fI _ _
theorem aZX {n : Int} (h1 : -9223372036854775808 <= n) (h2 : n < 9223372036854775808) : IntKind.i64.wrap n = n := kU (by omega) (by omega)
theorem aNj {u : Nat} (h : u < 18446744073709551616) : ∃ x y z w : DV, jP (.int .u64 (.ofNat u)) (.int .u64 (.ofNat 1)) = some x /\ cO .i64 x = some y /\ nR (.int .u64 (.ofNat u)) (.int .u64 (.ofNat 1)) = some z /\ cO .i64 z = some w /\
   ∃ q, rS w = some q /\ nM y q = some (.int .i64 (if u % 2 = 0 then .ofNat (u / 2) else .negSucc (u / 2))) := by
 refine ⟨_, .int .i64 (.ofNat (u / 2)), _, .int .i64 (.ofNat (u % 2)), aCL _ _ (by decide), by rw [gO, wrap_i64 (by omega)], aZx h, by rw [gO, wrap_i64 (by omega)], _, aLR _ _, ?_⟩
 by_cases hu : u % 2 = 0
 · rw [hu, if_pos rfl]; have : IntKind.i64.wrap (0 - Int.ofNat 0) = .ofNat 0 := rfl; rw [this, kD .i64 _ _ (by show u / 2 < 2 ^ 64; omega) (by decide), Nat.xor_zero, wrap_i64 (by omega)]
 · have hu1 : u % 2 = 1 := by omega
   rw [hu1, if_neg (by omega)]
   have : IntKind.i64.wrap (0 - Int.ofNat 1) = .negSucc 0 := rfl; rw [this]; show (bif kEq .i64 .i64 then aFo .i64 (.ofNat (u / 2)) (.negSucc 0) else none) = _; rw [fV]; show gJ .i64 (lH .i64 (· ^^^ ·) (.ofNat (u / 2)) (.negSucc 0)) = _; rw [fI]; have e : lH .i64 (· ^^^ ·) (.ofNat (u / 2)) (.negSucc 0) = .ofNat (18446744073709551615 - u / 2) := by
     unfold lH; have b1 : (BitVec.ofInt IntKind.i64.bits (.ofNat (u / 2))).toNat = u / 2 := mK 64 (u / 2) (by show u / 2 < 2 ^ 64; omega)
     have b2 : (BitVec.ofInt IntKind.i64.bits (.negSucc 0)).toNat = 18446744073709551615 := rfl; rw [BitVec.toNat_xor, b1, b2, aEo (by omega)]; rfl
   rw [e]
   congr 2
   have : IntKind.i64.wrap (.ofNat (18446744073709551615 - u / 2)) = IntKind.i64.wrap (.negSucc (u / 2)) := by
     simp only [IntKind.wrap_i64, Int.ofNat_eq_natCast]; omega
   rw [this]; exact aZX (by omega) (by omega)
theorem aGV {R : Type} {n es : Nat} (L : List DV) (h : H) (k : DV -> H -> Option R) : fC n es (.list L) h k = k (.ptr h.size 0) (h.push (.blk ⟨n, es, false, true, Tr.ofL L⟩)) := by
 simp only [fC, H.pushK_eq]; rfl
theorem aUD (k : IntKind) (n : Int) : zS (some (.int k n)) (.int k n) = true := by
 show iB (.int k n) (.int k n) = true; simp only [iB, Bool.and_eq_true]
 first | (constructor <;> simp) | simp
theorem gX (rd : Rd) (b o : Nat) : bY .ptr false rd (.ptr b o) .nilp = some (.bool false) := rfl
theorem yX (rd : Rd) (b o : Nat) : bY .ptr true rd (.ptr b o) .nilp = some (.bool true) := rfl
def aLN (n0 : Nat) (h : H) (v : DV) (L : List DV) : Prop := dI n0 h v L \/
 ∃ b o B, v = .slc b o L.length L.length false /\ h.get b = some (.blk B) /\ ∀ j x, L[j]? = some x -> rdCell h.get b (o + j) = some x
theorem aLN.push1 {n0 : Nat} {h : H} {v x z : DV} {L : List DV} {bytes : Nat} (o : aLN n0 h v L) (hlt : ∀ b o n c op, v = .slc b o n c op -> b < h.size) (hn0 : n0 <= h.size) (h1 : x.one = true)
   (hs : (L.length + 1) * bytes < bU) (hs2 : L.length + 1 < bU) : ∃ v' h', (∀ (R : Type) (k : DV -> H -> Option R), (dB 1 1 [z] [(0, 1, x)] h λ y h' => wK (cG 1 bytes v y h') k) = k v' h') /\ dI n0 h' v' (L ++ [x]) /\ dQ n0 h h' := by
 rcases o with o | ⟨b, off, B, rfl, hB, hc⟩
 · exact o.push1 hn0 h1 hs hs2
 · have hb := hlt b off _ _ _ rfl
   let h1' := h.push (.blk ⟨1 * 1, 1, false, true, Tr.ofL [x]⟩)
   have hp : bW h1' h.size [x] := bW.pushed (h := h) (L := [x]) (pl := true); have hB' : h1'.get b = some (.blk B) := by show (h.push _).get b = _; rw [H.get_push, if_neg (by omega)]; exact hB
   have hrow : rdCells h1'.get b off L.length = some L := mC L off λ j y hj => by rw [pS (hB'.trans hB.symm)]; exact hc j y hj
   have hf : eM (gI [z] 1) [(0, 1, x)] = some [x] := by simp [eM, gI, wM h1, nV]; rfl
   have hne : ¬ L.length + 1 <= L.length := by omega
   have hap : cG 1 bytes (.slc b off L.length L.length false) (.slc h.size 0 1 1 false) h1' = some (.slc h1'.size 0 (L.length + 1) (L.length + 1) true, h1'.push (.blk ⟨L.length + 1, 1, false, true, Tr.ofL (L ++ [x])⟩)) := by
     rw [iK]; have hx : dO 1 h1'.get (.slc h.size 0 1 1 false) = some [x] := by
       have := hp.cells_all
       simpa [dO] using this
     simp only [fT, eI, hx, Option.bind_some, aR, oX hne, cond_false, dP hs, dP hs2, Bool.and_self, cond_true, hB', Nat.mul_one, hrow, H.pushK_eq]
   refine ⟨.slc h1'.size 0 (L.length + 1) (L.length + 1) true, h1'.push (.blk ⟨L.length + 1, 1, false, true, Tr.ofL (L ++ [x])⟩), λ R k => ?_, .inr ⟨h1'.size, by show n0 <= h1'.size; rw [show h1'.size = h.size + 1 from rfl]; omega, ?_, ?_⟩, ?_⟩
   · simp only [dB, hf, Option.bind_some, H.pushK_eq]; show wK (cG 1 bytes (.slc b off L.length L.length false) (.slc h.size 0 1 1 false) h1') k = _; rw [hap]; rfl
   · simp
   · have := bW.pushed (h := h1') (L := L ++ [x]) (pl := true); rw [List.length_append] at this; exact this
   · exact (dQ.push hn0 _).trans (dQ.push (by show n0 <= h1'.size; rw [show h1'.size = h.size + 1 from rfl]; omega) _)
theorem dI.lt_size {n0 : Nat} {h : H} {v : DV} {L : List DV} (o : dI n0 h v L) : ∀ b o n c op, v = .slc b o n c op -> b < h.size := by
 intro b off n c op e; rcases o with ⟨rfl, _⟩ | ⟨b', _, rfl, hb⟩
 · cases e
 · cases e; exact hb.1
def aIH (h : H) (v : DV) (L : List DV) : Prop := aLN h.size h v L /\ ∀ b o n c op, v = .slc b o n c op -> b < h.size
theorem aD.all {h : H} {b n : Nat} {L : List DV} (hb : aD h b L) (hn : L.length = n) : cR n h.get (.ptr b 0) = some (.agg L) := by
 rw [hb.readN (by omega), List.drop_zero, List.take_of_length_le (by omega)]
theorem aD.setAll {h : H} {b n : Nat} {L cs : List DV} (hb : aD h b L) (hL : L.length = n) (hn : cs.length = n) (hv : cs.all DV.one = true) :
   ∃ h', cQ n (.ptr b 0) (.agg cs) h = some (.tup [], h') /\ aD h' b cs /\ yR b h h' := by
 obtain ⟨h', f1, f2, f3⟩ := hb.setN (o := 0) hn hv (by omega)
 refine ⟨h', f1, ?_, f3⟩; rw [List.take_zero, List.nil_append, Nat.zero_add, List.drop_of_length_le (by omega), List.append_nil] at f2
 exact f2
end Go.DI
end
