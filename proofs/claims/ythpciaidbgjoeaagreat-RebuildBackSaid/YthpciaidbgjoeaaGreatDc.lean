/- D once more, its registers a function; plain functions that are D's; functions told by what they compute; deferred closures that recover. No condition beyond the theorems' own. -/
import Derived.Recover
import Derived.SliceStrings
import Derived.SizedLaws
import Derived.WideShapes
import Derived.Lib.Join
import Derived.Test.YthpciaidbgjoeaaGreatDb
set_option linter.unusedVariables false
set_option linter.unusedSimpArgs false
noncomputable section
namespace Go.DI
open Go.RowKit
theorem fS.mono {P : Program} {f : FuncId} {F G : bC} (hF : fS P f F) (h : ∀ args h r, G args h = some r -> F args h = some r) : fS P f G :=
 λ N0 w0 m hh w args args' v h' hr ht hw => hF N0 w0 m hh w args args' v h' (h _ _ _ hr) ht hw
structure aX (h h' : H) : Prop where
 size : h.size <= h'.size
 get : ∀ b, b < h.size -> h'.get b = h.get b
theorem aX.refl (h : H) : aX h h := ⟨Nat.le_refl _, λ _ _ => rfl⟩
theorem aX.trans {a b c : H} (x : aX a b) (y : aX b c) : aX a c :=
 ⟨Nat.le_trans x.size y.size, λ i hi => (y.get i (Nat.lt_of_lt_of_le hi x.size)).trans (x.get i hi)⟩
theorem aX.push (h : H) (o : eE) : aX h (h.push o) := ⟨by simp, λ b hb => by rw [H.get_push, if_neg (by omega)]⟩
def wX (v : DV) : Prop := ∀ m m' : Mp, tr m v = tr m' v
theorem bH.forget {N0 : Nat} {w0 : World} {m m' : Mp} {h h' : H} {w w' : World} (hw : bH N0 w0 m h w) (hw' : bH N0 w0 m' h' w') (he : gV m h m' h') (hg : aX h h') : bH N0 w0 m h w' := by
 have hgb : ∀ b i, m b = some i -> h'.get b = h.get b := λ b i e => hg.get b (hw.lt b i e).1
 refine ⟨λ b i e => ⟨(hw.lt b i e).1, (hw'.lt b i (he.le b i e)).2⟩, λ b i e => ?_, hw.inj, hw'.below, hw'.base, hw.wf, hw.good⟩
 obtain ⟨o, g, r, n⟩ := hw.has b i e; obtain ⟨o', g', r', n'⟩ := hw'.has b i (he.le b i e); rw [hgb b i e, g] at g'; cases g'; refine ⟨o, g, ?_, n⟩; cases o with
 | blk B =>
   obtain ⟨⟨c, el, fr, h1, h2, h3⟩, _, _⟩ := r; obtain ⟨⟨c', el', fr', h1', h2', h3'⟩, hf', hp'⟩ := r'; refine ⟨⟨c', el', fr', h1', h2', λ j hj => ?_⟩, hf', hp'⟩
   rcases h3 j hj with ⟨v, v', a, b', d⟩ | hx
   · rcases h3' j hj with ⟨u, u', a', b'', d'⟩ | ⟨_, hx⟩
     · rw [a] at a'; cases a'; rw [fH he.le _ _ b'] at b''; cases b''; exact .inl ⟨v, v', a, b', d'⟩
     · rw [a] at hx; cases hx
   · exact .inr hx
 | dead => trivial
 | map ds clock =>
   obtain ⟨es, h1, h2⟩ := r; obtain ⟨es', h1', h2'⟩ := r'; refine ⟨es', h1', ?_⟩; have same : ∀ {ds : List dJ} {es es' : List MapEntry}, dG m ds es -> dG m' ds es' -> dG m ds es' := by
     intro ds
     induction ds with
     | nil => intro es es' a b; cases es' <;> first | trivial | exact b.elim
     | cons d ds ih =>
       intro es es' a b; cases es with
       | nil => exact a.elim
       | cons e es =>
         cases es' with
         | nil => exact b.elim
         | cons e' es' =>
           refine ⟨⟨?_, ?_, b.1.2.2⟩, ih a.2 b.2⟩
           · have := fH he.le _ _ a.1.1; rw [b.1.1] at this; rw [a.1.1, this]
           · have := fH he.le _ _ a.1.2.1; rw [b.1.2.1] at this; rw [a.1.2.1, this]
   exact same h2 h2'
 | iter b since seen last =>
   obtain ⟨hs, j, h0, h1, h2⟩ := r; obtain ⟨hs', j', h0', h1', h2'⟩ := r'; have := he.le _ _ h0; rw [h0'] at this; cases this; exact ⟨hs, _, h0, h1', h2⟩
theorem fS.forget {P : Program} {f : FuncId} {F G : bC} (hF : fS P f F)
   (hG : ∀ args h v h', G args h = some (v, h') -> h' = h /\ wX v /\ ∃ h1, F args h = some (v, h1) /\ aX h h1) : fS P f G := by
 intro N0 w0 m h w args args' v h' hr ht hw; obtain ⟨rfl, hv, h1, h2, h3⟩ := hG _ _ _ _ hr; refine (hF N0 w0 m h' w args args' v h1 h2 ht hw).mono λ e w' hh => ?_
 obtain ⟨m', v', e1, e2, e3, e4⟩ := hh; exact ⟨m, v', e1, by rw [hv m m']; exact e2, hw.forget e3 e4 h3, gV.refl _ _⟩
theorem wX.int (k : IntKind) (n : Int) : wX (.int k n) := λ _ _ => rfl
theorem wX.str (s : Ln) : wX (.str s) := λ _ _ => rfl
theorem wX.tup2 {a b : DV} (ha : wX a) (hb : wX b) : wX (.tup [a, b]) := λ m m' => by simp only [tr, trs, ha m m', hb m m']
end Go.DI
namespace Go.DI
open Go.RowKit
section
variable {R : Type}
def vK (o : Option DV) (k : DV -> Option R) : Option R := Option.rec (motive := λ _ => Option R) none k o
def wK (o : Option (DV × H)) (k : DV -> H -> Option R) : Option R := Option.rec (motive := λ _ => Option R) none (λ x => Prod.rec (motive := λ _ => Option R) k x) o
def bK (x : DV) (a b : Option R) : Option R := match x with
 | .bool c => Bool.rec b a c
 | _ => none
def gK (x : DV) (t : Bool) (a b : Option R) : Option R := match x with
 | .bool c => Bool.rec (Bool.rec a b t) (Bool.rec b a t) c
 | _ => b
def rcK (o : Option DV) (v : DV) : Bool := Option.rec (motive := λ _ => Bool) false (λ u => gL u v) o
theorem bEc (o : Option DV) (k : DV -> Option R) : vK o k = o.bind k := by cases o <;> rfl
theorem bEb (o : Option (DV × H)) (k : DV -> H -> Option R) : wK o k = o.bind λ x => k x.1 x.2 := by cases o <;> rfl
end
theorem pG (n a : Nat) (ha : a < 2 ^ n) : (BitVec.ofInt n (Int.ofNat a)).toNat = a := by
 rw [BitVec.toNat_ofInt]; have h2 : (Int.ofNat a) % ((2 ^ n : Nat) : Int) = (a : Int) := by
   rw [Int.ofNat_eq_natCast, <- Int.natCast_emod, Nat.mod_eq_of_lt ha]
 have h3 : ∀ z : Int, z = ((2 ^ n : Nat) : Int) -> ((Int.ofNat a) % z).toNat = a := by
   intro z hz; rw [hz, h2]; rfl
 exact h3 _ (by simp)
def fb (f : Nat -> Nat -> Nat) (s : IntKind -> Int -> Int -> Option DV) (k : IntKind) (x y : Int) : Option DV :=
 Int.rec (motive := λ _ => Option DV) (λ a => Int.rec (motive := λ _ => Option DV) (λ b => bif Nat.blt a (2 ^ k.bits) && Nat.blt b (2 ^ k.bits) then iO k (.ofNat (f a b)) else s k x y) (λ _ => s k x y) y) (λ _ => s k x y) x
theorem aVr {f : Nat -> Nat -> Nat} {s : IntKind -> Int -> Int -> Option DV} {k : IntKind} (h : ∀ a b, a < 2 ^ k.bits -> b < 2 ^ k.bits -> s k (.ofNat a) (.ofNat b) = iO k (.ofNat (f a b))) (x y : Int) : fb f s k x y = s k x y := by
 cases x with
 | negSucc a => rfl
 | ofNat a =>
   cases y with
   | negSucc b => rfl
   | ofNat b =>
     show (bif Nat.blt a (2 ^ k.bits) && Nat.blt b (2 ^ k.bits) then iO k (.ofNat (f a b)) else s k (.ofNat a) (.ofNat b)) = _; cases hb : (Nat.blt a (2 ^ k.bits) && Nat.blt b (2 ^ k.bits)) with
     | false => rfl
     | true =>
       rw [Bool.and_eq_true, Nat.blt_eq, Nat.blt_eq] at hb; exact (h a b hb.1 hb.2).symm
def aON : IntKind -> Int -> Int -> Option DV := fb Nat.land aPB
def bBM : IntKind -> Int -> Int -> Option DV := fb Nat.lor bDb
def aJJ : IntKind -> Int -> Int -> Option DV := fb Nat.xor aPq
theorem aVt (k : IntKind) (x y : Int) : aON k x y = aPB k x y := aVr (λ a b ha hb => by
 unfold aPB nV; rw [BitVec.toNat_and, pG _ _ ha, pG _ _ hb]; rfl) x y
theorem bBL (k : IntKind) (x y : Int) : bBM k x y = bDb k x y := aVr (λ a b ha hb => by
 unfold bDb nV; rw [BitVec.toNat_or, pG _ _ ha, pG _ _ hb]; rfl) x y
theorem aVs (k : IntKind) (x y : Int) : aJJ k x y = aPq k x y := aVr (λ a b ha hb => by
 unfold aPq nV; rw [BitVec.toNat_xor, pG _ _ ha, pG _ _ hb]; rfl) x y
def uZ (f : IntKind -> Int -> Int -> Option DV) (g : Ln -> Ln -> Option DV) (a b : DV) : Option DV := match a, b with
 | .int k x, .int k' y => bif kEq k k' then f k x y else none
 | .str s, .str t => g s t
 | _, _ => none
def wQ (s t : Ln) : Option DV := none
def bEj (s t : Ln) : Option DV := bif Nat.blt (s.length + t.length) nY then tU (s ++ t) else none
def bEi (s t : Ln) : Option DV := eH (sEq s t)
def bEd (s t : Ln) : Option DV := eH (!sEq s t)
def bEe (s t : Ln) : Option DV := eH (sLt s t)
def bEf (s t : Ln) : Option DV := eH (sLt s t || sEq s t)
def bEg (s t : Ln) : Option DV := eH (!(sLt s t || sEq s t))
def bEh (s t : Ln) : Option DV := eH (!sLt s t)
def bCW (op : BinOp) (a b : DV) : Option DV := match a, b with
 | .int k x, .int _ y => mP op k x y
 | _, _ => none
def bW : DV -> DV -> Option DV := uZ aPC bEj
def kI : DV -> DV -> Option DV := uZ aPr wQ
def mB : DV -> DV -> Option DV := uZ aPv wQ
def aID : DV -> DV -> Option DV := uZ aPt wQ
def aCz : DV -> DV -> Option DV := uZ aPs wQ
def qV : DV -> DV -> Option DV := uZ aON wQ
def aED : DV -> DV -> Option DV := uZ bBM wQ
def pS : DV -> DV -> Option DV := uZ aJJ wQ
def uB : DV -> DV -> Option DV := bCW .shl
def lN : DV -> DV -> Option DV := bCW .shr
def aTV : DV -> DV -> Option DV := uZ aDZ wQ
def cF : DV -> DV -> Option DV := uZ aPA bEi
def cW : DV -> DV -> Option DV := uZ aPu bEd
def bO : DV -> DV -> Option DV := uZ aPw bEe
def tM : DV -> DV -> Option DV := uZ aPx bEf
def dO : DV -> DV -> Option DV := uZ aPy bEg
def eQ : DV -> DV -> Option DV := uZ aPz bEh
def aNY (op : BinOp) : DV -> DV -> Option DV :=
 BinOp.rec (motive := λ _ => DV -> DV -> Option DV) bW kI mB aID aCz qV aED pS uB lN aTV cF cW bO tM dO eQ op
theorem iW {op : BinOp} (hs : mW op = false) {f : IntKind -> Int -> Int -> Option DV} {g : Ln -> Ln -> Option DV} (hf : ∀ k x y, f k x y = qD op k x y) (hg : ∀ s t, g s t = qC op s t) (a b : DV) : uZ f g a b = aAc op a b := by
 cases a <;> cases b <;> first | rfl | (simp only [uZ, aAc, aUX, hs, cond_false, hf, hg])
theorem aPl {op : BinOp} (hs : mW op = true) (hg : ∀ s t, qC op s t = none) (a b : DV) : bCW op a b = aAc op a b := by
 cases a <;> cases b <;> first | rfl | (simp only [bCW, aAc, hs, cond_true, hg])
theorem aTU (op : BinOp) (a b : DV) : aNY op a b = aAc op a b := by
 cases op
 · exact iW (op := .add) (f := aPC) (g := bEj) rfl (λ k x y => by show iO k (aVd x y) = iO k (x + y); rw [aGR]) (λ _ _ => rfl) a b
 · exact iW (op := .sub) (f := aPr) (g := wQ) rfl (λ _ _ _ => rfl) (λ _ _ => rfl) a b
 · exact iW (op := .mul) (f := aPv) (g := wQ) rfl (λ _ _ _ => rfl) (λ _ _ => rfl) a b
 · exact iW (op := .quo) (f := aPt) (g := wQ) rfl (λ _ _ _ => rfl) (λ _ _ => rfl) a b
 · exact iW (op := .rem) (f := aPs) (g := wQ) rfl (λ _ _ _ => rfl) (λ _ _ => rfl) a b
 · exact iW (op := .and) (f := aON) (g := wQ) rfl (λ k x y => aVt k x y) (λ _ _ => rfl) a b
 · exact iW (op := .or) (f := bBM) (g := wQ) rfl (λ k x y => bBL k x y) (λ _ _ => rfl) a b
 · exact iW (op := .xor) (f := aJJ) (g := wQ) rfl (λ k x y => aVs k x y) (λ _ _ => rfl) a b
 · exact aPl (op := .shl) rfl (λ _ _ => rfl) a b
 · exact aPl (op := .shr) rfl (λ _ _ => rfl) a b
 · exact iW (op := .andNot) (f := aDZ) (g := wQ) rfl (λ _ _ _ => rfl) (λ _ _ => rfl) a b
 · exact iW (op := .eql) (f := aPA) (g := bEi) rfl (λ _ _ _ => rfl) (λ _ _ => rfl) a b
 · exact iW (op := .neq) (f := aPu) (g := bEd) rfl (λ _ _ _ => rfl) (λ _ _ => rfl) a b
 · exact iW (op := .lss) (f := aPw) (g := bEe) rfl (λ _ _ _ => rfl) (λ _ _ => rfl) a b
 · exact iW (op := .leq) (f := aPx) (g := bEf) rfl (λ _ _ _ => rfl) (λ _ _ => rfl) a b
 · exact iW (op := .gtr) (f := aPy) (g := bEg) rfl (λ _ _ _ => rfl) (λ _ _ => rfl) a b
 · exact iW (op := .geq) (f := aPz) (g := bEh) rfl (λ _ _ _ => rfl) (λ _ _ => rfl) a b
def zJ (rd : Rd) (b j : Nat) : Option DV := match rd b with
 | some (.blk B) => bif Nat.blt j B.n then B.t.at_ j else none
 | _ => none
theorem bX (rd : Rd) (b j : Nat) : zJ rd b j = rdCell rd b j := by
 unfold zJ rdCell; cases rd b with
 | none => rfl
 | some o =>
   cases o with
   | blk B =>
     show (bif Nat.blt j B.n then B.t.at_ j else none) = if j < B.n then B.t.at_ j else none
     by_cases h : j < B.n
     · rw [if_pos h, show Nat.blt j B.n = true from by rw [Nat.blt_eq]; exact h]; rfl
     · rw [if_neg h, show Nat.blt j B.n = false from by rw [Bool.eq_false_iff, ne_eq, Nat.blt_eq]; exact h]; rfl
   | dead => rfl
   | map a b => rfl
   | iter a b c d => rfl
def aVe (t : Tr DV) (n : Nat) : Nat -> Option (List DV) :=
 Nat.rec (motive := λ _ => Nat -> Option (List DV)) (λ _ => some []) (λ _ ih j => Option.rec (motive := λ _ => Option (List DV)) none (λ v => cR (Nat.succ j) λ j => Option.rec (motive := λ _ => Option (List DV)) none (λ vs => some (v :: vs)) (ih j)) (t.at_ j)) n
theorem aJz {rd : Rd} {b : Nat} {B : Blk} (h : rd b = some (.blk B)) : ∀ (n j : Nat), j + n <= B.n -> aVe B.t n j = rdCells rd b j n
 | 0, j, _ => rfl
 | n + 1, j, hl => by
   show Option.rec (motive := λ _ => Option (List DV)) none (λ v => cR (Nat.succ j) λ j => Option.rec (motive := λ _ => Option (List DV)) none (λ vs => some (v :: vs)) (aVe B.t n j)) (B.t.at_ j) = _
   simp only [aM, rdCells]; rw [aJz h n (j + 1) (by omega)]
   have e : rdCell rd b j = B.t.at_ j := by simp only [rdCell, h]; rw [if_pos (by omega)]
   rw [e]; cases B.t.at_ j with
   | none => rfl
   | some v => cases rdCells rd b (j + 1) n <;> rfl
theorem sK {rd : Rd} {b : Nat} : ∀ (n j : Nat), (∀ B, rd b = some (.blk B) -> B.n < j + n) -> 0 < n -> rdCells rd b j n = none
 | 0, j, _, h => absurd h (by omega)
 | n + 1, j, hb, _ => by
   simp only [rdCells]; cases hc : rdCell rd b j with
   | none => rfl
   | some v =>
     have : 0 < n := by
       unfold rdCell at hc; split at hc
       · rename_i B hB; split at hc
         · have := hb B hB; omega
         · cases hc
       · cases hc
     rw [sK n (j + 1) (λ B hB => by have := hb B hB; omega) this]
def lS (rd : Rd) (b j n : Nat) : Option (List DV) := bif Nat.beq n 0 then some [] else match rd b with
 | some (.blk B) => bif Nat.ble (j + n) B.n then aVe B.t n j else none
 | _ => none
theorem bP (rd : Rd) (b j n : Nat) : lS rd b j n = rdCells rd b j n := by
 unfold lS; by_cases h0 : n = 0
 · subst h0; rfl
 · rw [show Nat.beq n 0 = false from by cases h : Nat.beq n 0; rfl; exact absurd (Nat.eq_of_beq_eq_true h) h0, cond_false]
   split
   · rename_i B hB; by_cases hl : j + n <= B.n
     · rw [Nat.ble_eq_true_of_le hl, cond_true]; exact aJz hB n j hl
     · rw [show Nat.ble (j + n) B.n = false from by cases h : Nat.ble (j + n) B.n; rfl; exact absurd (Nat.le_of_ble_eq_true h) hl, cond_false]
       exact (sK n j (λ B' hB' => by rw [hB] at hB'; cases hB'; omega) (by omega)).symm
   · rename_i hn; exact (sK n j (λ B' hB' => absurd hB' (hn B')) (by omega)).symm
def aOh {β : Type} (vs : List DV) : Nat -> Tr DV -> (Tr DV -> β) -> β :=
 List.rec (motive := λ _ => Nat -> Tr DV -> (Tr DV -> β) -> β) (λ _ t k => k t) (λ v _ ih o t k => Tr.setK v (Pa.of o) t λ t => cR (Nat.succ o) λ o => ih o t k) vs
def aIO : List DV -> Nat -> Tr DV -> Tr DV
 | [], _, t => t
 | v :: vs, o, t => aIO vs (o + 1) (Tr.set v (Pa.of o) t)
theorem aCL {β : Type} : ∀ (vs : List DV) (o : Nat) (t : Tr DV) (k : Tr DV -> β), aOh vs o t k = k (aIO vs o t)
 | [], _, _, _ => rfl
 | v :: vs, o, t, k => by
   show (Tr.setK v (Pa.of o) t λ t => cR (Nat.succ o) λ o => aOh vs o t k) = _
   rw [Tr.setK_eq, aM, aCL vs]; rfl
theorem Tr.set_set {α : Type} (x y : α) : ∀ (p : Pa) (t : Tr α), Tr.set y p (Tr.set x p t) = Tr.set y p t
 | .h, .e => rfl
 | .h, .n _ _ _ => rfl
 | .l p, .e => by show Tr.n (Tr.set y p (Tr.set x p .e)) none .e = Tr.n (Tr.set y p .e) none .e; rw [Tr.set_set x y p]
 | .l p, .n l v r => by show Tr.n (Tr.set y p (Tr.set x p l)) v r = Tr.n (Tr.set y p l) v r; rw [Tr.set_set x y p]
 | .r p, .e => by show Tr.n .e none (Tr.set y p (Tr.set x p .e)) = Tr.n .e none (Tr.set y p .e); rw [Tr.set_set x y p]
 | .r p, .n l v r => by show Tr.n l v (Tr.set y p (Tr.set x p r)) = Tr.n l v (Tr.set y p r); rw [Tr.set_set x y p]
theorem H.put_put (h : H) (b : Nat) (x y : eE) : (h.put b x).put b y = h.put b y := by
 unfold H.put Tr.put; simp only [Tr.set_set]
def zY (vs : List DV) (h : H) (b o : Nat) : Option H := match vs with
 | [] => some h
 | v :: vs => match h.get b with
   | some (.blk B) => bif (!B.ro) && Nat.ble (o + (v :: vs).length) B.n && (v :: vs).all DV.one then
       aOh (v :: vs) o B.t λ t => h.putK b (.blk { B with t := t }) some
     else none
   | _ => none
theorem aAN : ∀ (vs : List DV) (h : H) (b o : Nat) (B : Blk), h.get b = some (.blk B) -> vs ≠ [] ->
   eW vs h b o = if (!B.ro) = true /\ o + vs.length <= B.n /\ vs.all DV.one = true then some (h.put b (.blk { B with t := aIO vs o B.t })) else none
 | [], _, _, _, _, _, h => absurd rfl h
 | v :: vs, h, b, o, B, hB, _ => by
   simp only [eW, hB]; by_cases hc : ((!B.ro) && Nat.blt o B.n && v.one) = true
   · rw [hc, cond_true, Tr.setK_eq, H.putK_eq, aM]; rw [Bool.and_eq_true, Bool.and_eq_true, Nat.blt_eq] at hc; obtain ⟨⟨h1, h2⟩, h3⟩ := hc; cases vs with
     | nil =>
       rw [if_pos ⟨h1, by simp only [List.length_cons, List.length_nil]; omega, by simp [h3]⟩]; rfl
     | cons u us =>
       rw [aAN (u :: us) _ b (o + 1) { B with t := Tr.set v (Pa.of o) B.t } (by rw [H.get_put, if_pos rfl]) (by simp)]
       simp only [H.put_put]; by_cases hd : (!B.ro) = true /\ o + 1 + (u :: us).length <= B.n /\ (u :: us).all DV.one = true
       · rw [if_pos hd, if_pos ⟨h1, by have := hd.2.1; simp only [List.length_cons] at this ⊢; omega, by rw [List.all_cons, h3, hd.2.2]; rfl⟩]; rfl
       · rw [if_neg hd, if_neg]; intro hh; apply hd; refine ⟨h1, by have := hh.2.1; simp only [List.length_cons] at this ⊢; omega, ?_⟩
         have := hh.2.2; rw [List.all_cons, Bool.and_eq_true] at this; exact this.2
   · have hc' : ((!B.ro) && Nat.blt o B.n && v.one) = false := by simpa using hc
     rw [hc', cond_false, if_neg]; intro hh; apply hc; rw [Bool.and_eq_true, Bool.and_eq_true, Nat.blt_eq]; have h3 := hh.2.2; rw [List.all_cons, Bool.and_eq_true] at h3; exact ⟨⟨hh.1, by have := hh.2.1; simp only [List.length_cons] at this; omega⟩, h3.1⟩
theorem yI (vs : List DV) (h : H) (b o : Nat) : zY vs h b o = eW vs h b o := by
 unfold zY; split
 · rfl
 · rename_i v vs; split
   · rename_i B hB; rw [aAN (v :: vs) h b o B hB (by simp)]
     by_cases hd : (!B.ro) = true /\ o + (v :: vs).length <= B.n /\ (v :: vs).all DV.one = true
     · rw [if_pos hd, hd.1, Nat.ble_eq_true_of_le hd.2.1, hd.2.2]; simp only [Bool.and_self, cond_true, aCL, H.putK_eq]
     · rw [if_neg hd]; have : ((!B.ro) && Nat.ble (o + (v :: vs).length) B.n && (v :: vs).all DV.one) = false := by
         rw [Bool.eq_false_iff]; intro hh; rw [Bool.and_eq_true, Bool.and_eq_true] at hh; exact hd ⟨hh.1.1, Nat.le_of_ble_eq_true hh.1.2, hh.2⟩
       rw [this, cond_false]
   · rename_i hn; simp only [eW]
def dD (n : Nat) (a x : DV) (h : H) : Option (DV × H) :=
 match a with
 | .ptr b o => bif Nat.beq x.cells.length n then (zY x.cells h b o).map λ h => (.tup [], h) else none
 | _ => none
theorem mY (n : Nat) (a x : DV) (h : H) : dD n a x h = dSt n a x h := by unfold dD dSt; simp only [yI]; cases a <;> rfl
def aAB (es : Nat) (rd : Rd) (x : DV) : Option (List DV) :=
 match x with
 | .nils => some []
 | .slE _ _ _ => some []
 | .slc b o n _ _ => lS rd b o (n * es)
 | .str s => bif Nat.beq es 1 then some (s.map λ b => .int .u8 (.ofNat b)) else none
 | _ => none
theorem aGx (es : Nat) (rd : Rd) (x : DV) : aAB es rd x = dV es rd x := by unfold aAB dV; simp only [bP]; cases x <;> rfl
def aMg (o len es : Nat) (B : Blk) (new : List DV) (rd : Rd) (b : Nat) : Option (Tr DV) := bif Nat.beq o 0 then aOh new (len * es) B.t some else (lS rd b o (len * es)).map λ old => Tr.ofL (old ++ new)
def cJ (es bytes : Nat) (s x : DV) (h : H) : Option (DV × H) :=
 (eZ x).bind λ n => (aAB es h.get x).bind λ new =>
 match s with
 | .nils => bif Nat.beq n 0 then some (.nils, h) else
     bif Nat.blt (n * bytes) aY && Nat.blt n aY then h.pushK (.blk ⟨n * es, es, false, true, Tr.ofL new⟩) λ h' => some (.slc h.size 0 n n true, h') else none
 | .slE b o o2 => bif Nat.beq n 0 then some (.slE b o o2, h) else none
 | .slc b o len cap op => cR (len + n) λ need =>
     bif Nat.ble need cap then (zY new h b (o + len * es)).map λ h => (.slc b o need cap op, h)
     else bif Nat.blt (need * bytes) aY && Nat.blt need aY then
       match h.get b with
       | some (.blk B) =>
         bif op then
           bif Nat.beq (o + cap * es) B.n && Nat.beq B.es es && (!B.ro) && Nat.ble len cap && new.all DV.one then
             (aMg o len es B new h.get b).bind λ t => cR (need * es) λ n' => h.pushK (.blk ⟨n', es, false, false, t⟩) λ h' => h'.putK b .dead λ h'' => some (.slc h.size 0 need need true, h'')
           else none
         else
           (lS h.get b o (len * es)).bind λ old => cR (need * es) λ n' => h.pushK (.blk ⟨n', es, false, true, Tr.ofL (old ++ new)⟩) λ h' => some (.slc h.size 0 need need true, h')
       | _ => none
     else none
 | _ => none
theorem aAC : ∀ (vs : List DV) (o : Nat) (t : Tr DV), aIO vs o t = Tr.ofF vs o t
 | [], _, _ => rfl
 | v :: vs, o, t => aAC vs (o + 1) _
theorem aSR (o len es : Nat) (B : Blk) (new : List DV) (rd : Rd) (b : Nat) : aMg o len es B new rd b = zN o len es B new rd b := by
 unfold aMg zN; rw [aCL, aAC, bP]
theorem iT (es bytes : Nat) (s x : DV) (h : H) : cJ es bytes s x h = iB es bytes s x h := by
 unfold cJ iB; simp only [aGx, yI, bP, aSR]; cases eZ x with
 | none => rfl
 | some n =>
   simp only [Option.bind_some]; cases dV es h.get x with
   | none => rfl
   | some new =>
     simp only [Option.bind_some]; cases s <;> rfl
def aCF (es k : Nat) (rd : Rd) (x : DV) : Option (List DV) :=
 match x with
 | .nils => some []
 | .slE _ _ _ => some []
 | .slc b o _ _ _ => lS rd b o (k * es)
 | .str s => bif Nat.beq es 1 then some ((s.take k).map λ b => .int .u8 (.ofNat b)) else none
 | _ => none
theorem aIL (es k : Nat) (rd : Rd) (x : DV) : aCF es k rd x = mS es k rd x := by unfold aCF mS; simp only [bP]; cases x <;> rfl
def lE (es : Nat) (d x : DV) (h : H) : Option (DV × H) :=
 (eZ x).bind λ n => match d with
 | .nils => some (.int .i64 0, h)
 | .slE _ _ _ => some (.int .i64 0, h)
 | .slc b o len _ _ => cR (bif Nat.ble n len then n else len) λ k => (aCF es k h.get x).bind λ new => (zY new h b o).map λ h => (.int .i64 (.ofNat k), h)
 | _ => none
theorem aTj (es : Nat) (d x : DV) (h : H) : lE es d x h = aBI es d x h := by
 unfold lE aBI; simp only [aIL, yI]; cases eZ x with
 | none => rfl
 | some n => cases d <;> rfl
def bGu (x y : DV) : Option DV := match x, y with
 | .str s, .int .u8 (.ofNat c) => bif Nat.blt c 256 then aGW (aJK c s) λ n => some (.int .i64 n) else none
 | _, _ => none
def bGv (x y : DV) : Option DV := match x, y with
 | .str s, .int .u8 (.ofNat c) => bif Nat.blt c 256 then cR (aMn c s) λ n => some (.int .i64 (.ofNat n)) else none
 | _, _ => none
def aNV (k : Prm) : DV -> DV -> Option DV := Prm.rec (motive := λ _ => DV -> DV -> Option DV) bGu bGv k
def uD (kt : nW) (z : DV) (ok : Bool) (rd : Rd) (x k : DV) : Option DV := (match x with
   | .nilm => some none
   | .mp b => match rd b with
     | some (.map es _) => rH kt k es
     | _ => none
   | _ => none).map λ r => match r with
     | some v => bif ok then .tup [v, .bool true] else v
     | none => bif ok then .tup [z, .bool false] else z
def aCx (es : Nat) (x : DV) (lo : Option DV) (hi mx : DV) : Option DV := match mx with
   | .int _ (.ofNat k) => (match x with
     | .nils => bif Nat.beq k 0 then dC 0 0 lo (some hi) λ l h => some .nils else none
     | .slc b o len cap op => bif Nat.ble k cap then dC len k lo (some hi) λ l h =>
         bif Nat.blt l k then (cR (o + l * es) λ o => cR (h - l) λ n => cR (k - l) λ c => some (.slc b o n c false)) else some (.slc b o 0 0 false) else none
     | _ => none)
   | _ => none
def aH (c a b : DV) : Option DV := match c with
   | .bool t => some (Bool.rec b a t)
   | _ => none
def cM (t : EqT) (neg : Bool) (rd : Rd) (x y : DV) : Option DV := (dEq rd t x y).bind λ b => eH (bif neg then !b else b)
def wZ (neg : Bool) (s : EqS) (rd : Rd) (x y : DV) : Option DV := match x, y with
   | .agg xs, .agg ys => (jZ rd s xs ys).bind λ b => eH (bif neg then !b else b)
   | _, _ => none
def eN (x : DV) : Option DV := match x with
   | .bool b => eH (!b)
   | _ => none
def wY (x : DV) : Option DV := match x with
   | .int k n => iO k (0 - n)
   | _ => none
def cN (k : IntKind) (x : DV) : Option DV := match x with
   | .int _ n => iO k n
   | _ => none
def aGp (x : DV) : Option DV := match x with
   | .str s => some (.str s)
   | _ => none
def kF (rd : Rd) (x : DV) : Option DV := match x with
   | .nils => some (.str [])
   | .slE _ _ _ => some (.str [])
   | .slc b o len _ _ => ((lS rd b o len).bind jG).bind tU
   | _ => none
def aF (rd : Rd) (x : DV) : Option DV := match x with
   | .ptr b o => zJ rd b o
   | _ => none
def cX (n : Nat) (rd : Rd) (x : DV) : Option DV := match x with
   | .ptr b o => (lS rd b o n).map .agg
   | _ => none
def aC (x : DV) : Option DV := match x with
   | .ptr b o => some (.ptr b o)
   | _ => none
def aG (off : Nat) (x : DV) : Option DV := match x with
   | .ptr b o => cR (o + off) λ o => some (.ptr b o)
   | _ => none
def aNX (off n : Nat) (agg : Bool) (x : DV) : Option DV := match x with
   | .agg cs => bif agg then (bif Nat.ble (off + n) cs.length then some (.agg ((cs.drop off).take n)) else none) else cs[off]?
   | _ => none
def pT (len es : Nat) (x i : DV) : Option DV := match x with
   | .ptr b o => nR len i λ n => cR (o + n * es) λ o => some (.ptr b o)
   | _ => none
def bY (es : Nat) (x i : DV) : Option DV := match x with
   | .slc b o len _ _ => nR len i λ n => cR (o + n * es) λ o => some (.ptr b o)
   | _ => none
def aNW (len es : Nat) (agg : Bool) (x i : DV) : Option DV := match x with
   | .agg cs => nR len i λ n => bif agg then (bif Nat.ble (n * es + es) cs.length then some (.agg ((cs.drop (n * es)).take es)) else none) else cs[n * es]?
   | _ => none
def oP (x i : DV) : Option DV := match x with
   | .str s => nR s.length i λ n => (s[n]?).map λ b => .int .u8 (.ofNat b)
   | _ => none
def jH (x : DV) (lo hi : Option DV) : Option DV := match x with
   | .str s => dC s.length s.length lo hi λ l h => tU ((s.take h).drop l)
   | _ => none
def eV (es : Nat) (x : DV) (lo hi : Option DV) : Option DV := match x with
   | .nils => dC 0 0 lo hi λ l h => some .nils
   | .slc b o len cap op => dC len cap lo hi λ l h =>
       bif Nat.blt l cap then (cR (o + l * es) λ o => cR (h - l) λ n => cR (cap - l) λ c => some (.slc b o n c op))
       else bif op then (cR (o + l * es) λ o2 => some (.slE b o o2)) else some (.slc b o 0 0 false)
   | .slE b o o2 => dC 0 0 lo hi λ l h => some (.slE b o o2)
   | _ => none
def aCy (n es : Nat) (x : DV) (lo hi : Option DV) : Option DV := match x with
   | .ptr b o => dC n n lo hi λ l h =>
       bif Nat.blt l n then (cR (o + l * es) λ o => cR (h - l) λ m => cR (n - l) λ c => some (.slc b o m c false))
       else some (.slc b o 0 0 false)
   | _ => none
def aN (i : Nat) (x : DV) : Option DV := match x with
   | .tup vs => vs[i]?
   | _ => none
def eI (x : DV) : Option DV := match x with
   | .str s => cR s.length λ n => some (.int .i64 (.ofNat n))
   | _ => none
def aO (x : DV) : Option DV := match x with
   | .nils => some (.int .i64 (.ofNat 0))
   | .slc _ _ n _ _ => some (.int .i64 (.ofNat n))
   | .slE _ _ _ => some (.int .i64 (.ofNat 0))
   | _ => none
abbrev aCA (x : DV) : Option DV := aFI x
abbrev aIE (rd : Rd) (x y : DV) : Option DV := aHe rd x y
def aGq (rd : Rd) (x : DV) : Option DV := match x with
   | .nilm => some (.int .i64 (.ofNat 0))
   | .mp b => match rd b with
     | some (.map es _) => cR es.length λ n => some (.int .i64 (.ofNat n))
     | _ => none
   | _ => none
def xM (a b : DV) : Option DV := match a, b with
   | .int k x, .int k' y => some (.int k (bif iLt y x then y else x))
   | _, _ => none
def wP (a b : DV) : Option DV := match a, b with
   | .int k x, .int k' y => some (.int k (bif iLt x y then y else x))
   | _, _ => none
def dH (zero : List DV) (parts : List (Nat × Nat × DV)) : Option DV := (fG zero parts).map .agg
def aES (t : Nat) (zero : DV) (ok : Bool) (x : DV) : Option DV := match x with
   | .nili => bif ok then some (.tup [zero, .bool false]) else none
   | .ifc u v => bif Nat.beq u t then some (bif ok then .tup [v, .bool true] else v) else bif ok then some (.tup [zero, .bool false]) else none
   | _ => none
section
variable {R : Type}
def gR (n es : Nat) (z : Zs) (h : H) (k : DV -> H -> Option R) : Option R := h.pushK (.blk ⟨n, es, false, true, z.tr⟩) λ h' => k (.ptr h.size 0) h'
def cY (x : DV) (h : H) (k : DV -> H -> Option R) : Option R := cR x.cells.length λ n => h.pushK (.blk ⟨n, n, false, true, Tr.ofL x.cells⟩) λ h' => k (.ptr h.size 0) h'
def dI (n es : Nat) (zero : List DV) (parts : List (Nat × Nat × DV)) (h : H) (k : DV -> H -> Option R) : Option R :=
 (fG (iI zero n) parts).bind λ cs => h.pushK (.blk ⟨n * es, es, false, true, Tr.ofL cs⟩) λ h' => k (.slc h.size 0 n n false) h'
def jN (es bytes : Nat) (zero : DV) (l c : DV) (h : H) (k : DV -> H -> Option R) : Option R := match l, c with
   | .int _ (.ofNat l), .int _ (.ofNat c) =>
     bif Nat.ble l c && Nat.blt (bytes * c) 140737488355328 && Nat.blt c 140737488355328 then
       h.pushK (.blk ⟨c, 1, false, true, Tr.full zero 48⟩) λ h' => k (.slc h.size 0 l c false) h'
     else none
   | _, _ => none
def aBw (h : H) (k : DV -> H -> Option R) : Option R := h.pushK (.map [] 0) λ h' => k (.mp h.size) h'
def aUN (x : DV) (h : H) (k : DV -> H -> Option R) : Option R := match x with
   | .str s => cR s.length λ n => h.pushK (.blk ⟨n, 1, false, false, Tr.ofL (s.map λ b => .int .u8 (.ofNat b))⟩) λ h' => k (.slc h.size 0 n n true) h'
   | _ => none
end
end Go.DI
namespace Go.DI
open Go.RowKit
abbrev Rg := Pa -> DV
def e2 (σ : Rg) (x : aU) : DV := aU.rec (motive := λ _ => DV) (λ p => σ p) (λ v => v) x
def aSW (p : Pa) (v : DV) (σ : Rg) : Rg := λ q => Bool.rec (σ q) v (sQ q p)
def reg (ρ : Tr DV) : Rg := λ p => ev ρ (.r p)
theorem aMu (ρ : Tr DV) (x : aU) : e2 (reg ρ) x = ev ρ x := by cases x <;> rfl
theorem bZ (ρ : Tr DV) : e2 (reg ρ) = ev ρ := funext (aMu ρ)
theorem aOv (ρ : Tr DV) (p : Pa) (v : DV) : reg (Tr.set v p ρ) = aSW p v (reg ρ) := by
 funext q
 unfold reg aSW; rw [pA]; by_cases h : q = p
 · subst h; rw [if_pos rfl, rC]
 · rw [if_neg h]; cases e : sQ q p with
   | true => exact absurd (fX e) h
   | false => rfl
section
variable {R : Type}
abbrev bPo (σ : Rg) (h : H) (k : DV -> H -> Option R) : Option R := none
abbrev bOS (q : Prm) (x y : aU) (σ : Rg) (h : H) (k : DV -> H -> Option R) : Option R := vK (aNV q (e2 σ x) (e2 σ y)) λ v => k v h
abbrev bPa (kt : nW) (z : DV) (ok : Bool) (x y : aU) (σ : Rg) (h : H) (k : DV -> H -> Option R) : Option R := vK (uD kt z ok h.get (e2 σ x) (e2 σ y)) λ v => k v h
abbrev bOO (es : Nat) (x : aU) (lo : Option aU) (hi mx : aU) (σ : Rg) (h : H) (k : DV -> H -> Option R) : Option R := vK (aCx es (e2 σ x) (lo.map (e2 σ)) (e2 σ hi) (e2 σ mx)) λ v => k v h
abbrev bGW (c a b : aU) (σ : Rg) (h : H) (k : DV -> H -> Option R) : Option R := vK (aH (e2 σ c) (e2 σ a) (e2 σ b)) λ v => k v h
abbrev bPn (op : BinOp) (x y : aU) (σ : Rg) (h : H) (k : DV -> H -> Option R) : Option R := vK (aNY op (e2 σ x) (e2 σ y)) λ v => k v h
abbrev bPi (t : EqT) (neg : Bool) (x y : aU) (σ : Rg) (h : H) (k : DV -> H -> Option R) : Option R := vK (cM t neg h.get (e2 σ x) (e2 σ y)) λ v => k v h
abbrev bPj (neg : Bool) (s : EqS) (x y : aU) (σ : Rg) (h : H) (k : DV -> H -> Option R) : Option R := vK (wZ neg s h.get (e2 σ x) (e2 σ y)) λ v => k v h
abbrev bOU (x : aU) (σ : Rg) (h : H) (k : DV -> H -> Option R) : Option R := vK (eN (e2 σ x)) λ v => k v h
abbrev bOV (x : aU) (σ : Rg) (h : H) (k : DV -> H -> Option R) : Option R := vK (wY (e2 σ x)) λ v => k v h
abbrev bHb (q : IntKind) (x : aU) (σ : Rg) (h : H) (k : DV -> H -> Option R) : Option R := vK (cN q (e2 σ x)) λ v => k v h
abbrev bGV (x : aU) (σ : Rg) (h : H) (k : DV -> H -> Option R) : Option R := vK (aGp (e2 σ x)) λ v => k v h
abbrev bPp (x : aU) (σ : Rg) (h : H) (k : DV -> H -> Option R) : Option R := vK (kF h.get (e2 σ x)) λ v => k v h
abbrev o_ld (x : aU) (σ : Rg) (h : H) (k : DV -> H -> Option R) : Option R := vK (aF h.get (e2 σ x)) λ v => k v h
abbrev bPb (n : Nat) (x : aU) (σ : Rg) (h : H) (k : DV -> H -> Option R) : Option R := vK (cX n h.get (e2 σ x)) λ v => k v h
abbrev aUH (x : aU) (σ : Rg) (h : H) (k : DV -> H -> Option R) : Option R := vK (aC (e2 σ x)) λ v => k v h
abbrev o_fa (off : Nat) (x : aU) (σ : Rg) (h : H) (k : DV -> H -> Option R) : Option R := vK (aG off (e2 σ x)) λ v => k v h
abbrev bPg (off n : Nat) (agg : Bool) (x : aU) (σ : Rg) (h : H) (k : DV -> H -> Option R) : Option R := vK (aNX off n agg (e2 σ x)) λ v => k v h
abbrev bPf (len es : Nat) (x i : aU) (σ : Rg) (h : H) (k : DV -> H -> Option R) : Option R := vK (pT len es (e2 σ x) (e2 σ i)) λ v => k v h
abbrev bPe (es : Nat) (x i : aU) (σ : Rg) (h : H) (k : DV -> H -> Option R) : Option R := vK (bY es (e2 σ x) (e2 σ i)) λ v => k v h
abbrev bPd (len es : Nat) (agg : Bool) (x i : aU) (σ : Rg) (h : H) (k : DV -> H -> Option R) : Option R := vK (aNW len es agg (e2 σ x) (e2 σ i)) λ v => k v h
abbrev bPc (x i : aU) (σ : Rg) (h : H) (k : DV -> H -> Option R) : Option R := vK (oP (e2 σ x) (e2 σ i)) λ v => k v h
abbrev bON (x : aU) (lo hi : Option aU) (σ : Rg) (h : H) (k : DV -> H -> Option R) : Option R := vK (jH (e2 σ x) (lo.map (e2 σ)) (hi.map (e2 σ))) λ v => k v h
abbrev bOP (es : Nat) (x : aU) (lo hi : Option aU) (σ : Rg) (h : H) (k : DV -> H -> Option R) : Option R := vK (eV es (e2 σ x) (lo.map (e2 σ)) (hi.map (e2 σ))) λ v => k v h
abbrev bOQ (n es : Nat) (x : aU) (lo hi : Option aU) (σ : Rg) (h : H) (k : DV -> H -> Option R) : Option R := vK (aCy n es (e2 σ x) (lo.map (e2 σ)) (hi.map (e2 σ))) λ v => k v h
abbrev bPh (i : Nat) (x : aU) (σ : Rg) (h : H) (k : DV -> H -> Option R) : Option R := vK (aN i (e2 σ x)) λ v => k v h
abbrev bGX (x : aU) (σ : Rg) (h : H) (k : DV -> H -> Option R) : Option R := vK (eI (e2 σ x)) λ v => k v h
abbrev bGZ (x : aU) (σ : Rg) (h : H) (k : DV -> H -> Option R) : Option R := vK (aO (e2 σ x)) λ v => k v h
abbrev bGY (x : aU) (σ : Rg) (h : H) (k : DV -> H -> Option R) : Option R := vK (aGq h.get (e2 σ x)) λ v => k v h
abbrev bHc (x : aU) (σ : Rg) (h : H) (k : DV -> H -> Option R) : Option R := vK (aCA (e2 σ x)) λ v => k v h
abbrev bOT (x y : aU) (σ : Rg) (h : H) (k : DV -> H -> Option R) : Option R := vK (aIE h.get (e2 σ x) (e2 σ y)) λ v => k v h
abbrev o_mn (a b : aU) (σ : Rg) (h : H) (k : DV -> H -> Option R) : Option R := vK (xM (e2 σ a) (e2 σ b)) λ v => k v h
abbrev o_mx (a b : aU) (σ : Rg) (h : H) (k : DV -> H -> Option R) : Option R := vK (wP (e2 σ a) (e2 σ b)) λ v => k v h
abbrev bPm (zero : List DV) (parts : List (Nat × Nat × aU)) (σ : Rg) (h : H) (k : DV -> H -> Option R) : Option R := vK (dH zero (parts.map λ p => (p.1, p.2.1, e2 σ p.2.2))) λ v => k v h
abbrev bOM (t : Nat) (zero : DV) (ok : Bool) (x : aU) (σ : Rg) (h : H) (k : DV -> H -> Option R) : Option R := vK (aES t zero ok (e2 σ x)) λ v => k v h
abbrev o_mv (x : aU) (σ : Rg) (h : H) (k : DV -> H -> Option R) : Option R := k (e2 σ x) h
abbrev bOY (t : Nat) (x : aU) (σ : Rg) (h : H) (k : DV -> H -> Option R) : Option R := k (.ifc t (e2 σ x)) h
abbrev bOZ (f : Fn) (a c : List aU) (σ : Rg) (h : H) (k : DV -> H -> Option R) : Option R := k (.fn f (a.map (e2 σ)) (c.map (e2 σ))) h
abbrev bHa (n : Nat) (σ : Rg) (h : H) (k : DV -> H -> Option R) : Option R := k (.int .i64 (.ofNat n)) h
abbrev bPq (n es : Nat) (z : Zs) (σ : Rg) (h : H) (k : DV -> H -> Option R) : Option R := gR n es z h k
abbrev bPl (x : aU) (σ : Rg) (h : H) (k : DV -> H -> Option R) : Option R := cY (e2 σ x) h k
abbrev bPk (n es : Nat) (zero : List DV) (parts : List (Nat × Nat × aU)) (σ : Rg) (h : H) (k : DV -> H -> Option R) : Option R := dI n es zero (parts.map λ p => (p.1, p.2.1, e2 σ p.2.2)) h k
abbrev bOW (es bytes : Nat) (zero : DV) (l c : aU) (σ : Rg) (h : H) (k : DV -> H -> Option R) : Option R := jN es bytes zero (e2 σ l) (e2 σ c) h k
abbrev bOX  (σ : Rg) (h : H) (k : DV -> H -> Option R) : Option R := aBw h k
abbrev bOR (x : aU) (σ : Rg) (h : H) (k : DV -> H -> Option R) : Option R := aUN (e2 σ x) h k
abbrev bBy (d : vN) : Rg -> H -> (DV -> H -> Option R) -> Option R :=
 vN.rec (motive := λ _ => Rg -> H -> (DV -> H -> Option R) -> Option R) bPo bOS bPa bOO o_mv bGW bPn bPi bPj bOU bOV bHb bGV bPp bOY bOZ o_ld bPb aUH o_fa bPg bPf bPe bPd bPc bON bOP bOQ bPh bGX bGZ bGY bHc bOT bHa o_mn o_mx bPm bOM bPq bPl bPk bOW bOX bOR d
end
def bEI (q : Prm) (x y : aU) (σ : Rg) (rd : Rd) : Option DV := aNV q (e2 σ x) (e2 σ y)
def bEO (kt : nW) (z : DV) (ok : Bool) (x y : aU) (σ : Rg) (rd : Rd) : Option DV := uD kt z ok rd (e2 σ x) (e2 σ y)
def bEF (es : Nat) (x : aU) (lo : Option aU) (hi mx : aU) (σ : Rg) (rd : Rd) : Option DV := aCx es (e2 σ x) (lo.map (e2 σ)) (e2 σ hi) (e2 σ mx)
def aVi (c a b : aU) (σ : Rg) (rd : Rd) : Option DV := aH (e2 σ c) (e2 σ a) (e2 σ b)
def bEZ (op : BinOp) (x y : aU) (σ : Rg) (rd : Rd) : Option DV := aNY op (e2 σ x) (e2 σ y)
def bEW (t : EqT) (neg : Bool) (x y : aU) (σ : Rg) (rd : Rd) : Option DV := cM t neg rd (e2 σ x) (e2 σ y)
def bEX (neg : Bool) (s : EqS) (x y : aU) (σ : Rg) (rd : Rd) : Option DV := wZ neg s rd (e2 σ x) (e2 σ y)
def bEK (x : aU) (σ : Rg) (rd : Rd) : Option DV := eN (e2 σ x)
def bEL (x : aU) (σ : Rg) (rd : Rd) : Option DV := wY (e2 σ x)
def aVn (q : IntKind) (x : aU) (σ : Rg) (rd : Rd) : Option DV := cN q (e2 σ x)
def aVh (x : aU) (σ : Rg) (rd : Rd) : Option DV := aGp (e2 σ x)
def bFa (x : aU) (σ : Rg) (rd : Rd) : Option DV := kF rd (e2 σ x)
def g_ld (x : aU) (σ : Rg) (rd : Rd) : Option DV := aF rd (e2 σ x)
def bEP (n : Nat) (x : aU) (σ : Rg) (rd : Rd) : Option DV := cX n rd (e2 σ x)
def aJA (x : aU) (σ : Rg) (rd : Rd) : Option DV := aC (e2 σ x)
def g_fa (off : Nat) (x : aU) (σ : Rg) (rd : Rd) : Option DV := aG off (e2 σ x)
def bEU (off n : Nat) (agg : Bool) (x : aU) (σ : Rg) (rd : Rd) : Option DV := aNX off n agg (e2 σ x)
def bET (len es : Nat) (x i : aU) (σ : Rg) (rd : Rd) : Option DV := pT len es (e2 σ x) (e2 σ i)
def bES (es : Nat) (x i : aU) (σ : Rg) (rd : Rd) : Option DV := bY es (e2 σ x) (e2 σ i)
def bER (len es : Nat) (agg : Bool) (x i : aU) (σ : Rg) (rd : Rd) : Option DV := aNW len es agg (e2 σ x) (e2 σ i)
def bEQ (x i : aU) (σ : Rg) (rd : Rd) : Option DV := oP (e2 σ x) (e2 σ i)
def bEE (x : aU) (lo hi : Option aU) (σ : Rg) (rd : Rd) : Option DV := jH (e2 σ x) (lo.map (e2 σ)) (hi.map (e2 σ))
def bEG (es : Nat) (x : aU) (lo hi : Option aU) (σ : Rg) (rd : Rd) : Option DV := eV es (e2 σ x) (lo.map (e2 σ)) (hi.map (e2 σ))
def bEH (n es : Nat) (x : aU) (lo hi : Option aU) (σ : Rg) (rd : Rd) : Option DV := aCy n es (e2 σ x) (lo.map (e2 σ)) (hi.map (e2 σ))
def bEV (i : Nat) (x : aU) (σ : Rg) (rd : Rd) : Option DV := aN i (e2 σ x)
def aVj (x : aU) (σ : Rg) (rd : Rd) : Option DV := eI (e2 σ x)
def aVl (x : aU) (σ : Rg) (rd : Rd) : Option DV := aO (e2 σ x)
def aVk (x : aU) (σ : Rg) (rd : Rd) : Option DV := aGq rd (e2 σ x)
def aVo (x : aU) (σ : Rg) (rd : Rd) : Option DV := aCA (e2 σ x)
def bEJ (x y : aU) (σ : Rg) (rd : Rd) : Option DV := aIE rd (e2 σ x) (e2 σ y)
def g_mn (a b : aU) (σ : Rg) (rd : Rd) : Option DV := xM (e2 σ a) (e2 σ b)
def g_mx (a b : aU) (σ : Rg) (rd : Rd) : Option DV := wP (e2 σ a) (e2 σ b)
def bEY (zero : List DV) (parts : List (Nat × Nat × aU)) (σ : Rg) (rd : Rd) : Option DV := dH zero (parts.map λ p => (p.1, p.2.1, e2 σ p.2.2))
def bED (t : Nat) (zero : DV) (ok : Bool) (x : aU) (σ : Rg) (rd : Rd) : Option DV := aES t zero ok (e2 σ x)
def g_mv (x : aU) (σ : Rg) (rd : Rd) : Option DV := some (e2 σ x)
def bEM (t : Nat) (x : aU) (σ : Rg) (rd : Rd) : Option DV := some (.ifc t (e2 σ x))
def bEN (f : Fn) (a c : List aU) (σ : Rg) (rd : Rd) : Option DV := some (.fn f (a.map (e2 σ)) (c.map (e2 σ)))
def aVm (n : Nat) (σ : Rg) (rd : Rd) : Option DV := some (.int .i64 (.ofNat n))
def bPK (n es : Nat) (z : Zs) (σ : Rg) (rd : Rd) : Option DV := none
def bPI (x : aU) (σ : Rg) (rd : Rd) : Option DV := none
def bPH (n es : Nat) (zero : List DV) (parts : List (Nat × Nat × aU)) (σ : Rg) (rd : Rd) : Option DV := none
def bPD (es bytes : Nat) (zero : DV) (l c : aU) (σ : Rg) (rd : Rd) : Option DV := none
def bPE  (σ : Rg) (rd : Rd) : Option DV := none
def bPz (x : aU) (σ : Rg) (rd : Rd) : Option DV := none
def bPJ  (σ : Rg) (rd : Rd) : Option DV := none
def dU (d : vN) : Rg -> Rd -> Option DV :=
 vN.rec (motive := λ _ => Rg -> Rd -> Option DV) bPJ bEI bEO bEF g_mv aVi bEZ bEW bEX bEK bEL aVn aVh bFa bEM bEN g_ld bEP aJA g_fa bEU bET bES bER bEQ bEE bEG bEH bEV aVj aVl aVk aVo bEJ aVm g_mn g_mx bEY bED bPK bPI bPH bPD bPE bPz d
def aOH : vN -> Bool
 | .alc _ _ _ | .box _ | .bsl _ _ _ _ | .mks _ _ _ _ _ | .mkm | .s2b _ | .bad => true
 | _ => false
theorem bCg (q : Prm) (x y : aU) (ρ : Tr DV) (rd : Rd) : cG (.prm q x y) ρ rd = (aNV q (ev ρ x) (ev ρ y)).map .val := by
 simp only [cG, aNV]; generalize ev ρ x = x'; generalize ev ρ y = y'; cases x' <;> (try (cases q <;> rfl))
 cases y' <;> (try (cases q <;> rfl))
 rename_i s kk n; cases kk <;> (try (cases q <;> rfl))
 cases n <;> (try (cases q <;> rfl))
 rename_i c; cases q
 · show (bif Nat.blt c 256 then _ else none) = (bif Nat.blt c 256 then _ else none : Option DV).map _; cases Nat.blt c 256 <;> simp only [cond_false, cond_true, lU] <;> rfl
 · show (bif Nat.blt c 256 then _ else none) = (bif Nat.blt c 256 then _ else none : Option DV).map _; cases Nat.blt c 256 <;> simp only [cond_false, cond_true, aM] <;> rfl
theorem bCm (kt : nW) (z : DV) (ok : Bool) (x y : aU) (ρ : Tr DV) (rd : Rd) : cG (.lkp kt z ok x y) ρ rd = (uD kt z ok rd (ev ρ x) (ev ρ y)).map .val := by
 simp only [cG, uD, Option.map_map]
 congr 1; funext r; cases r <;> rfl
theorem bCc (es : Nat) (x : aU) (lo : Option aU) (hi mx : aU) (ρ : Tr DV) (rd : Rd) : cG (.slM es x lo hi mx) ρ rd = (aCx es (ev ρ x) (lo.map (ev ρ)) (ev ρ hi) (ev ρ mx)).map .val := by
 simp only [cG, aCx]; generalize ev ρ x = x'; generalize ev ρ hi = hi'; generalize ev ρ mx = mx'; cases mx' <;> try rfl
 rename_i k n; cases n <;> try rfl
 rename_i n; cases x' <;> try rfl
 · show (bif Nat.beq n 0 then _ else none) = (bif Nat.beq n 0 then _ else none : Option DV).map _; cases Nat.beq n 0 <;> rfl
 · rename_i a b c d e; show (bif Nat.ble n d then _ else none) = (bif Nat.ble n d then _ else none : Option DV).map _; cases Nat.ble n d <;> rfl
theorem aVN (c a b : aU) (ρ : Tr DV) (rd : Rd) : cG (.pick c a b) ρ rd = (aH (ev ρ c) (ev ρ a) (ev ρ b)).map .val := by
 simp only [cG, aH]; generalize ev ρ c = c'; generalize ev ρ a = a'; generalize ev ρ b = b'; cases c' <;> try rfl
 rename_i t; cases t <;> rfl
theorem bCx (op : BinOp) (x y : aU) (ρ : Tr DV) (rd : Rd) : cG (.bin op x y) ρ rd = (aNY op (ev ρ x) (ev ρ y)).map .val := by
 rw [aTU]; rfl
theorem bCu (t : EqT) (neg : Bool) (x y : aU) (ρ : Tr DV) (rd : Rd) : cG (.eqv t neg x y) ρ rd = (cM t neg rd (ev ρ x) (ev ρ y)).map .val := by
 rfl
theorem bCv (neg : Bool) (s : EqS) (x y : aU) (ρ : Tr DV) (rd : Rd) : cG (.eqs neg s x y) ρ rd = (wZ neg s rd (ev ρ x) (ev ρ y)).map .val := by
 simp only [cG, wZ]; generalize ev ρ x = x'; generalize ev ρ y = y'; cases x' <;> cases y' <;> rfl
theorem bCi (x : aU) (ρ : Tr DV) (rd : Rd) : cG (.not x) ρ rd = (eN (ev ρ x)).map .val := by
 simp only [cG, eN, bX, bP]; generalize ev ρ x = x'; cases x' <;> rfl
theorem bCj (x : aU) (ρ : Tr DV) (rd : Rd) : cG (.neg x) ρ rd = (wY (ev ρ x)).map .val := by
 simp only [cG, wY, bX, bP]; generalize ev ρ x = x'; cases x' <;> rfl
theorem aVS (q : IntKind) (x : aU) (ρ : Tr DV) (rd : Rd) : cG (.conv q x) ρ rd = (cN q (ev ρ x)).map .val := by
 simp only [cG, cN, bX, bP]; generalize ev ρ x = x'; cases x' <;> rfl
theorem aVM (x : aU) (ρ : Tr DV) (rd : Rd) : cG (.same x) ρ rd = (aGp (ev ρ x)).map .val := by
 simp only [cG, aGp, bX, bP]; generalize ev ρ x = x'; cases x' <;> rfl
theorem bCy (x : aU) (ρ : Tr DV) (rd : Rd) : cG (.b2s x) ρ rd = (kF rd (ev ρ x)).map .val := by
 simp only [cG, kF, bX, bP]; generalize ev ρ x = x'; cases x' <;> rfl
theorem bHJ (x : aU) (ρ : Tr DV) (rd : Rd) : cG (.ld x) ρ rd = (aF rd (ev ρ x)).map .val := by
 simp only [cG, aF, bX, bP]; generalize ev ρ x = x'; cases x' <;> rfl
theorem bCn (n : Nat) (x : aU) (ρ : Tr DV) (rd : Rd) : cG (.ldN n x) ρ rd = (cX n rd (ev ρ x)).map .val := by
 simp only [cG, cX, bX, bP]; generalize ev ρ x = x'; cases x' <;> rfl
theorem aMt (x : aU) (ρ : Tr DV) (rd : Rd) : cG (.nilchk x) ρ rd = (aC (ev ρ x)).map .val := by
 simp only [cG, aC, bX, bP]; generalize ev ρ x = x'; cases x' <;> rfl
theorem bHK (off : Nat) (x : aU) (ρ : Tr DV) (rd : Rd) : cG (.fa off x) ρ rd = (aG off (ev ρ x)).map .val := by
 simp only [cG, aG, aM]; generalize ev ρ x = x'; cases x' <;> rfl
theorem bCs (off n : Nat) (agg : Bool) (x : aU) (ρ : Tr DV) (rd : Rd) : cG (.fld off n agg x) ρ rd = (aNX off n agg (ev ρ x)).map .val := by
 simp only [cG, aNX]; generalize ev ρ x = x'; cases x' <;> try rfl
 rename_i cs; cases agg <;> try rfl
 show (bif Nat.ble (off + n) cs.length then _ else none) = (bif Nat.ble (off + n) cs.length then _ else none : Option DV).map _; cases Nat.ble (off + n) cs.length <;> rfl
theorem bCr (len es : Nat) (x i : aU) (ρ : Tr DV) (rd : Rd) : cG (.iaA len es x i) ρ rd = (pT len es (ev ρ x) (ev ρ i)).map .val := by
 simp only [cG, pT, bX, bP]; generalize ev ρ x = x'; generalize ev ρ i = i'; cases x' <;> rfl
theorem bCq (es : Nat) (x i : aU) (ρ : Tr DV) (rd : Rd) : cG (.iaS es x i) ρ rd = (bY es (ev ρ x) (ev ρ i)).map .val := by
 simp only [cG, bY, bX, bP]; generalize ev ρ x = x'; generalize ev ρ i = i'; cases x' <;> rfl
theorem bCp (len es : Nat) (agg : Bool) (x i : aU) (ρ : Tr DV) (rd : Rd) : cG (.ixA len es agg x i) ρ rd = (aNW len es agg (ev ρ x) (ev ρ i)).map .val := by
 simp only [cG, aNW, bX, bP]; generalize ev ρ x = x'; generalize ev ρ i = i'; cases x' <;> rfl
theorem bCo (x i : aU) (ρ : Tr DV) (rd : Rd) : cG (.ixS x i) ρ rd = (oP (ev ρ x) (ev ρ i)).map .val := by
 simp only [cG, oP, bX, bP]; generalize ev ρ x = x'; generalize ev ρ i = i'; cases x' <;> rfl
theorem bCb (x : aU) (lo hi : Option aU) (ρ : Tr DV) (rd : Rd) : cG (.slS x lo hi) ρ rd = (jH (ev ρ x) (lo.map (ev ρ)) (hi.map (ev ρ))).map .val := by
 simp only [cG, jH, bX, bP]; generalize ev ρ x = x'; cases x' <;> rfl
theorem bCd (es : Nat) (x : aU) (lo hi : Option aU) (ρ : Tr DV) (rd : Rd) : cG (.slL es x lo hi) ρ rd = (eV es (ev ρ x) (lo.map (ev ρ)) (hi.map (ev ρ))).map .val := by
 simp only [cG, eV, bX, bP]; generalize ev ρ x = x'; cases x' <;> rfl
theorem bCe (n es : Nat) (x : aU) (lo hi : Option aU) (ρ : Tr DV) (rd : Rd) : cG (.slA n es x lo hi) ρ rd = (aCy n es (ev ρ x) (lo.map (ev ρ)) (hi.map (ev ρ))).map .val := by
 simp only [cG, aCy, bX, bP]; generalize ev ρ x = x'; cases x' <;> rfl
theorem bCt (i : Nat) (x : aU) (ρ : Tr DV) (rd : Rd) : cG (.ext i x) ρ rd = (aN i (ev ρ x)).map .val := by
 simp only [cG, aN, bX, bP]; generalize ev ρ x = x'; cases x' <;> rfl
theorem aVO (x : aU) (ρ : Tr DV) (rd : Rd) : cG (.lenS x) ρ rd = (eI (ev ρ x)).map .val := by
 simp only [cG, eI, aM]; generalize ev ρ x = x'; cases x' <;> rfl
theorem aVQ (x : aU) (ρ : Tr DV) (rd : Rd) : cG (.lenL x) ρ rd = (aO (ev ρ x)).map .val := by
 simp only [cG, aO, bX, bP]; generalize ev ρ x = x'; cases x' <;> rfl
theorem aVP (x : aU) (ρ : Tr DV) (rd : Rd) : cG (.lenM x) ρ rd = (aGq rd (ev ρ x)).map .val := by
 simp only [cG, aGq, aM]; generalize ev ρ x = x'; cases x' <;> try rfl
 rename_i b; simp only []; cases rd b with
 | none => rfl
 | some o => cases o <;> rfl
theorem aVT (x : aU) (ρ : Tr DV) (rd : Rd) : cG (.capL x) ρ rd = (aCA (ev ρ x)).map .val := by
 rfl
theorem bCh (x y : aU) (ρ : Tr DV) (rd : Rd) : cG (.ovl x y) ρ rd = (aIE rd (ev ρ x) (ev ρ y)).map .val := by
 rfl
theorem bHI (a b : aU) (ρ : Tr DV) (rd : Rd) : cG (.mn a b) ρ rd = (xM (ev ρ a) (ev ρ b)).map .val := by
 simp only [cG, xM]; generalize ev ρ a = a'; generalize ev ρ b = b'; cases a' <;> cases b' <;> rfl
theorem bHG (a b : aU) (ρ : Tr DV) (rd : Rd) : cG (.mx a b) ρ rd = (wP (ev ρ a) (ev ρ b)).map .val := by
 simp only [cG, wP]; generalize ev ρ a = a'; generalize ev ρ b = b'; cases a' <;> cases b' <;> rfl
theorem bCw (zero : List DV) (parts : List (Nat × Nat × aU)) (ρ : Tr DV) (rd : Rd) : cG (.bld zero parts) ρ rd = (dH zero (parts.map λ p => (p.1, p.2.1, ev ρ p.2.2))).map .val := by
 rfl
theorem bCa (t : Nat) (zero : DV) (ok : Bool) (x : aU) (ρ : Tr DV) (rd : Rd) : cG (.tas t zero ok x) ρ rd = (aES t zero ok (ev ρ x)).map .val := by
 simp only [cG, aES]; generalize ev ρ x = x'; cases x' <;> try rfl
 · cases ok <;> rfl
 · rename_i u v; simp only []; cases Nat.beq u t <;> cases ok <;> rfl
theorem bHH (x : aU) (ρ : Tr DV) (rd : Rd) : cG (.mv x) ρ rd = (some (ev ρ x) : Option DV).map .val := rfl
theorem bCk (t : Nat) (x : aU) (ρ : Tr DV) (rd : Rd) : cG (.mkI t x) ρ rd = (some (.ifc t (ev ρ x)) : Option DV).map .val := rfl
theorem bCl (f : Fn) (a c : List aU) (ρ : Tr DV) (rd : Rd) : cG (.mkF f a c) ρ rd = (some (.fn f (a.map (ev ρ)) (c.map (ev ρ))) : Option DV).map .val := rfl
theorem aVR (n : Nat) (ρ : Tr DV) (rd : Rd) : cG (.lenA n) ρ rd = (some (.int .i64 (.ofNat n)) : Option DV).map .val := rfl
theorem aFD {d : vN} (hd : aOH d = false) (ρ : Tr DV) (rd : Rd) : cG d ρ rd = (dU d (reg ρ) rd).map .val := by
 cases d
 · cases hd
 · rw [bCg]; simp only [dU, bEI, bZ]
 · rw [bCm]; simp only [dU, bEO, bZ]
 · rw [bCc]; simp only [dU, bEF, bZ]
 · rw [bHH]; simp only [dU, g_mv, bZ]
 · rw [aVN]; simp only [dU, aVi, bZ]
 · rw [bCx]; simp only [dU, bEZ, bZ]
 · rw [bCu]; simp only [dU, bEW, bZ]
 · rw [bCv]; simp only [dU, bEX, bZ]
 · rw [bCi]; simp only [dU, bEK, bZ]
 · rw [bCj]; simp only [dU, bEL, bZ]
 · rw [aVS]; simp only [dU, aVn, bZ]
 · rw [aVM]; simp only [dU, aVh, bZ]
 · rw [bCy]; simp only [dU, bFa, bZ]
 · rw [bCk]; simp only [dU, bEM, bZ]
 · rw [bCl]; simp only [dU, bEN, bZ]
 · rw [bHJ]; simp only [dU, g_ld, bZ]
 · rw [bCn]; simp only [dU, bEP, bZ]
 · rw [aMt]; simp only [dU, aJA, bZ]
 · rw [bHK]; simp only [dU, g_fa, bZ]
 · rw [bCs]; simp only [dU, bEU, bZ]
 · rw [bCr]; simp only [dU, bET, bZ]
 · rw [bCq]; simp only [dU, bES, bZ]
 · rw [bCp]; simp only [dU, bER, bZ]
 · rw [bCo]; simp only [dU, bEQ, bZ]
 · rw [bCb]; simp only [dU, bEE, bZ]
 · rw [bCd]; simp only [dU, bEG, bZ]
 · rw [bCe]; simp only [dU, bEH, bZ]
 · rw [bCt]; simp only [dU, bEV, bZ]
 · rw [aVO]; simp only [dU, aVj, bZ]
 · rw [aVQ]; simp only [dU, aVl, bZ]
 · rw [aVP]; simp only [dU, aVk, bZ]
 · rw [aVT]; simp only [dU, aVo, bZ]
 · rw [bCh]; simp only [dU, bEJ, bZ]
 · rw [aVR]; simp only [dU, aVm, bZ]
 · rw [bHI]; simp only [dU, g_mn, bZ]
 · rw [bHG]; simp only [dU, g_mx, bZ]
 · rw [bCw]; simp only [dU, bEY, bZ]
 · rw [bCa]; simp only [dU, bED, bZ]
 · cases hd
 · cases hd
 · cases hd
 · cases hd
 · cases hd
 · cases hd
section
variable {R : Type}
theorem aUD {d : vN} (hd : aOH d = false) (σ : Rg) (h : H) (k : DV -> H -> Option R) : bBy d σ h k = vK (dU d σ h.get) λ v => k v h := by
 cases d <;> first | (cases hd; done) | rfl
theorem bBx (E : aQ) (d : vN) (ρ : Tr DV) (h : H) (k : DV -> H -> Option R) : bBy d (reg ρ) h k = (odo E (.e d) ρ h).bind λ x => k x.1 x.2 := by
 cases hd : aOH d with
 | false =>
   rw [aUD hd]; simp only [odo, oA]; rw [aFD hd]; cases dU d (reg ρ) h.get <;> rfl
 | true =>
   simp only [odo, oA]; cases d <;> first | (cases hd; done) | skip
   · rfl
   · rename_i n es z; simp only [cG, H.pushK_eq, Option.bind_some]; show gR n es z h k = _; simp only [gR, H.pushK_eq]
   · rename_i x; simp only [cG, H.pushK_eq, aM, Option.bind_some]; show cY (e2 (reg ρ) x) h k = _; simp only [cY, H.pushK_eq, aM, bZ]
   · rename_i n es zero parts; show dI n es zero (parts.map λ p => (p.1, p.2.1, e2 (reg ρ) p.2.2)) h k = _
     simp only [cG, dI, bZ]; cases fG (iI zero n) (parts.map λ p => (p.1, p.2.1, ev ρ p.2.2)) with
     | none => rfl
     | some cs => simp only [Option.bind_some, Option.map_some, H.pushK_eq]
   · rename_i es bytes zero l c; show jN es bytes zero (e2 (reg ρ) l) (e2 (reg ρ) c) h k = _; simp only [cG, jN, bZ]; generalize ev ρ l = l'; generalize ev ρ c = c'; cases l' <;> try rfl
     rename_i k1 n1; cases n1 <;> try rfl
     rename_i n1; cases c' <;> try rfl
     rename_i k2 n2; cases n2 <;> try rfl
     rename_i n2; simp only []; cases (Nat.ble n1 n2 && Nat.blt (bytes * n2) 140737488355328 && Nat.blt n2 140737488355328) with
     | false => rfl
     | true => simp only [cond_true, H.pushK_eq, Option.bind_some]
   · simp only [cG, H.pushK_eq, Option.bind_some]; show aBw h k = _; simp only [aBw, H.pushK_eq]
   · rename_i x; show aUN (e2 (reg ρ) x) h k = _; simp only [cG, aUN, bZ]; generalize ev ρ x = x'; cases x' <;> try rfl
     simp only [aM, H.pushK_eq, Option.bind_some]
end
end Go.DI
namespace Go.DI
open Go.RowKit
def lK (E : aQ) (f : DV) (args : List DV) (h : H) : Option (DV × H) := match f with
 | .fn (.func g) first captured => aB E g (first ++ args ++ captured) h
 | _ => none
def aKo (E : aQ) (tbl : List (Nat × Nat)) (x : DV) (args : List DV) (h : H) : Option (DV × H) := match x with
 | .ifc t v => match aSH t tbl with
   | some f => aB E f (v :: args) h
   | none => none
 | _ => none
def zP (dst : Option Pa) (v : DV) (σ : Rg) : Rg := Option.rec (motive := λ _ => Rg) σ (λ p => aSW p v σ) dst
section
variable {R : Type}
def odoW (d : WOp) : Rg -> H -> (DV -> H -> Option R) -> Option R :=
 WOp.rec (motive := λ _ => Rg -> H -> (DV -> H -> Option R) -> Option R)
   (λ n a x σ h k => wK (dD n (e2 σ a) (e2 σ x) h) k)
   (λ es bytes x y σ h k => wK (cJ es bytes (e2 σ x) (e2 σ y) h) k)
   (λ es x y σ h k => wK (lE es (e2 σ x) (e2 σ y) h) k)
   (λ kt x q y σ h k => wK (aBS kt (e2 σ x) (e2 σ q) (e2 σ y) h) k)
   (λ zs x σ h k => wK (uV zs (e2 σ x) h) k)
   (λ x σ h k => wK (lV (e2 σ x) h) k)
   (λ es bytes zs x y σ h k => wK (aEM es bytes zs (e2 σ x) (e2 σ y) h) k)
   (λ x σ h k => wK (aWd (e2 σ x) h) k)
   (λ x σ h k => wK (aWi (e2 σ x) h) k)
   (λ kt x q σ h k => wK (aJZ kt (e2 σ x) (e2 σ q) h) k)
   (λ kt z x q σ h k => wK (wS kt z (e2 σ x) (e2 σ q) h) k)
   (λ x q y σ h k => wK (aJU (e2 σ x) (e2 σ q) (e2 σ y) h) k) d
def odoC (E : aQ) (d : COp) : Rg -> H -> (DV -> H -> Option R) -> Option R :=
 COp.rec (motive := λ _ => Rg -> H -> (DV -> H -> Option R) -> Option R)
   (λ f args σ h k => wK (aB E f (args.map (e2 σ)) h) k)
   (λ f args σ h k => wK (lK E (e2 σ f) (args.map (e2 σ)) h) k)
   (λ tbl x args σ h k => wK (aKo E tbl (e2 σ x) (args.map (e2 σ)) h) k) d
def aUE (E : aQ) (d : DOp) : Rg -> H -> (DV -> H -> Option R) -> Option R :=
 DOp.rec (motive := λ _ => Rg -> H -> (DV -> H -> Option R) -> Option R) bBy odoW (odoC E) d
def aJ (c : DV) (t : Bool) (op : (DV -> H -> Option R) -> Option R) (h : H) (k : DV -> H -> Option R) : Option R := gK c t (op k) (k (.tup []) h)
def aMp (E : aQ) (g : DG) (σ : Rg) (h : H) (k : Rg -> H -> Option R) : Option R :=
 Option.rec (motive := λ _ => Option R) (aUE E g.op σ h λ v h => k (zP g.dst v σ) h)
   (λ x => aJ (σ x.1) x.2 (λ kk => aUE E g.op σ h kk) h λ v h => k (zP g.dst v σ) h) g.guard
def zT (E : aQ) (l : List DG) : Rg -> H -> (Rg -> H -> Option R) -> Option R :=
 List.rec (motive := λ _ => Rg -> H -> (Rg -> H -> Option R) -> Option R) (λ σ h k => k σ h) (λ g _ ih σ h k => aMp E g σ h λ σ h => ih σ h k) l
def gB (c : DV) (t : Bool) (x : Bool) : Bool := match c with
 | .bool c => Bool.rec (Bool.rec x true t) (Bool.rec true x t) c
 | _ => true
def bBm (d : DOp) (dst : Option Pa) (σ : Rg) (h : H) : Bool :=
 DOp.rec (motive := λ _ => Bool) (λ e => Option.rec (motive := λ _ => Bool) false (λ p => rcK (dU e σ h.get) (σ p)) dst) (λ _ => false) (λ _ => false) d
def oM (g : DG) (σ : Rg) (h : H) : Bool :=
 Option.rec (motive := λ _ => Bool) (bBm g.op g.dst σ h) (λ x => gB (σ x.1) x.2 (bBm g.op g.dst σ h)) g.guard
def rK (b : Bool) (x : Option R) : Option R := Bool.rec none x b
def reK (pre : List DR) (σ : Rg) (h : H) (x : Option R) (l : Ln) : Option R :=
 List.rec (motive := λ _ => Option R) x (λ q _ ih => rK (Option.rec (motive := λ _ => Bool) false (λ g => oM g σ h) (rE q pre)) ih) l
def aMo (E : aQ) (l : List DR) : List DR -> Rg -> H -> (Rg -> H -> Option R) -> Option R :=
 List.rec (motive := λ _ => List DR -> Rg -> H -> (Rg -> H -> Option R) -> Option R) (λ _ σ h k => k σ h)
   (λ x _ ih pre σ h k => aMp E x.g σ h λ σ h => reK pre σ h (ih (x :: pre) σ h k) x.re) l
abbrev gS (R : Type) := DX -> Rg -> H -> Option R
def aAz (k : Rg -> H -> Option R) (K : gS R) : gS R := λ x σ h =>
 DX.rec (motive := λ _ => Option R) (k σ h) (λ id => K (.exit id) σ h) (K .ret σ h) x
def aPm (id : Nat) (K : gS R) : gS R := λ x σ h =>
 DX.rec (motive := λ _ => Option R) (K .normal σ h) (λ i => Bool.rec (K (.exit i) σ h) (K .normal σ h) (Nat.beq i id)) (K .ret σ h) x
def aOj (K : gS R) : gS R := λ x σ h =>
 DX.rec (motive := λ _ => Option R) (K .normal σ h) (λ i => Bool.rec none (K (.exit i) σ h) (Nat.blt i 4294967296)) (K .ret σ h) x
def yB (g : Nat) (k : Rg -> H -> Option R) (K : gS R) : gS R := λ x σ h =>
 DX.rec (motive := λ _ => Option R) (K .normal σ h) (λ i => Bool.rec (Bool.rec none (K (.exit i) σ h) (Nat.blt i 4294967296)) (k σ h) (Nat.beq i g)) (K .ret σ h) x
def qI (body : Rg -> H -> gS R -> Option R) (g : Nat) (K : gS R) (n : Nat) : Rg -> H -> Option R :=
 Nat.rec (motive := λ _ => Rg -> H -> Option R) (λ _ _ => none) (λ _ ih σ h => body σ h (yB g ih K)) n
def uN (body : Rg -> H -> gS R -> Option R) (K : gS R) (n : Nat) : Rg -> H -> Option R :=
 Nat.rec (motive := λ _ => Rg -> H -> Option R) (λ _ _ => none) (λ _ ih σ h => body σ h (aAz ih K)) n
def bFc (p : Pa) (K : gS R) : gS R := λ x σ h => aLZ (σ p) h λ h => K x σ h
def jP [Agr R] (E : aQ) (c : DC) : Rg -> H -> gS R -> Option R :=
 DC.rec (motive := λ _ => Rg -> H -> gS R -> Option R)
   (λ σ h K => K .normal σ h)
   (λ l σ h K => zT E l σ h λ σ h => K .normal σ h)
   (λ _ _ ia ib σ h K => ia σ h (aAz (λ σ h => ib σ h K) K))
   (λ c _ _ ia ib σ h K => bK (e2 σ c) (ia σ h K) (ib σ h K))
   (λ id _ ia σ h K => ia σ h (aPm id K))
   (λ _ ia σ h K => uN ia K aK σ h)
   (λ id σ h K => K (.exit id) σ h)
   (λ σ h K => K .ret σ h)
   (λ _ ia σ h K => ia σ h (aOj K))
   (λ l σ h K => aMo E l [] σ h λ σ h => K .normal σ h)
   (λ _ _ _ => none)
   (λ g _ _ ia ir σ h K => ia σ h (yB g (qI ir g K aK) K))
   (λ p x l σ h K => aSA (e2 σ x) h λ v h => zT E l (aSW p v σ) h λ σ h => K .normal σ h)
   (λ _ p _ ia σ h K => ia σ h (bFc p K)) c
end
def rv2 (σ : Rg) (h : H) (r : RV) (k : DV -> Option (DV × H)) : Option (DV × H) :=
 RV.rec (motive := λ _ => Option (DV × H)) (λ p => k (σ p)) (λ p => vK (aF h.get (σ p)) k) (λ p n => vK (cX n h.get (σ p)) k) r
def aUn (σ : Rg) (h : H) (l : List RV) : (List DV -> Option (DV × H)) -> Option (DV × H) :=
 List.rec (motive := λ _ => (List DV -> Option (DV × H)) -> Option (DV × H)) (λ k => k []) (λ r _ ih k => rv2 σ h r λ v => ih λ vs => k (v :: vs)) l
def aOt (res : List RV) : gS (DV × H) := λ x σ h =>
 DX.rec (motive := λ _ => Option (DV × H)) (aUn σ h res λ vs => some (iQ vs, h)) (λ _ => none) (aUn σ h res λ vs => some (iQ vs, h)) x
def aLI (E : aQ) (d : DF) : bC := λ args h => Bool.rec none (jP E d.body (reg (Tr.ofL args)) h (aOt d.res)) (Nat.beq args.length d.np)
section
variable {R : Type} {E : aQ} {ρ : Tr DV}
theorem aOB (d : DOp) (ρ : Tr DV) (h : H) (k : DV -> H -> Option R) : aUE E d (reg ρ) h k = (odo E d ρ h).bind λ x => k x.1 x.2 := by
 cases d with
 | e d => exact bBx E d ρ h k
 | w d =>
   rw [<- bEb]; cases d <;> (show wK _ k = wK _ k; simp only [odo, wdo, bZ, mY, iT, aTj])
 | c d =>
   rw [<- bEb]; cases d with
   | f f args => show wK (aB E f (args.map (e2 (reg ρ))) h) k = wK (aB E f (args.map (ev ρ)) h) k; rw [bZ]
   | v f args => show wK (lK E (e2 (reg ρ) f) (args.map (e2 (reg ρ))) h) k = wK (lK E (ev ρ f) (args.map (ev ρ)) h) k; rw [bZ]
   | m tbl x args => show wK (aKo E tbl (e2 (reg ρ) x) (args.map (e2 (reg ρ))) h) k = wK (aKo E tbl (ev ρ x) (args.map (ev ρ)) h) k; rw [bZ]
theorem aUs (dst : Option Pa) (v : DV) (ρ : Tr DV) : reg (qZ dst v ρ) = zP dst v (reg ρ) := by
 cases dst with
 | none => rfl
 | some p => exact aOv ρ p v
theorem bPL (p : Pa) (t : Bool) (a b : Option R) : gK (reg ρ p) t a b = bif cP ρ (some (p, t)) then a else b := by
 show gK (ev ρ (.r p)) t a b = _; unfold cP; simp only []; generalize ev ρ (.r p) = x; cases x <;> try rfl
 rename_i c; cases c <;> cases t <;> rfl
theorem bPM (p : Pa) (t : Bool) (x : Bool) : gB (reg ρ p) t x = bif cP ρ (some (p, t)) then x else true := by
 show gB (ev ρ (.r p)) t x = _; unfold cP; simp only []; generalize ev ρ (.r p) = y; cases y <;> try rfl
 rename_i c; cases c <;> cases t <;> rfl
theorem aFB (g : DG) (h : H) (k : Tr DV -> H -> Option R) (k2 : Rg -> H -> Option R) (hk : ∀ ρ h, k ρ h = k2 (reg ρ) h) : dN E g ρ h k = aMp E g (reg ρ) h k2 := by
 obtain ⟨dst, guard, op⟩ := g; unfold dN; simp only [kT, hk, aUs]; cases guard with
 | none =>
   show (odo E op ρ h).bind (λ x => k2 (zP dst x.1 (reg ρ)) x.2) = aUE E op (reg ρ) h λ v h => k2 (zP dst v (reg ρ)) h
   rw [aOB]
 | some x =>
   obtain ⟨p, t⟩ := x; show _ = gK (reg ρ p) t (aUE E op (reg ρ) h λ v h => k2 (zP dst v (reg ρ)) h) (k2 (zP dst (.tup []) (reg ρ)) h)
   rw [bPL, aOB]
theorem yD : ∀ (l : List DG) (ρ : Tr DV) (h : H) (k : Tr DV -> H -> Option R) (k2 : Rg -> H -> Option R), (∀ ρ h, k ρ h = k2 (reg ρ) h) -> eF E l ρ h k = zT E l (reg ρ) h k2
 | [], ρ, h, k, k2, hk => hk ρ h
 | g :: l, ρ, h, k, k2, hk => aFB g h _ (λ σ h => zT E l σ h k2) λ ρ h => yD l ρ h k k2 hk
theorem bBl (g : DG) (h : H) : lR g ρ h = oM g (reg ρ) h := by
 obtain ⟨dst, guard, op⟩ := g; have key : (match op, dst with
     | .e d, some p => match cG d ρ h.get with
       | some (.val v) => gL v (ev ρ (.r p))
       | _ => false
     | _, _ => false) = bBm op dst (reg ρ) h := by
   cases op with
   | w d => rfl
   | c d => rfl
   | e d =>
     cases dst with
     | none => rfl
     | some p =>
       show _ = rcK (dU d (reg ρ) h.get) (reg ρ p); simp only []; cases hd : aOH d with
       | false =>
         rw [aFD hd]; cases dU d (reg ρ) h.get <;> rfl
       | true =>
         have e1 : dU d (reg ρ) h.get = none := by cases d <;> first | (cases hd; done) | rfl
         rw [e1]; show _ = false; split
         · rename_i v hv
           exfalso
           cases d <;> first | (cases hd; done) | skip
           · cases hv
           · cases hv
           · simp only [cG, aM] at hv; cases hv
           · rename_i a b c d; simp only [cG] at hv; cases hq : fG (iI c a) (d.map λ p => (p.1, p.2.1, ev ρ p.2.2)) with
             | none => rw [hq] at hv; cases hv
             | some cs => rw [hq] at hv; cases hv
           · simp only [cG] at hv; split at hv
             · obtain ⟨_, hv⟩ := aI hv; cases hv
             · cases hv
           · cases hv
           · simp only [cG, aM] at hv; split at hv <;> cases hv
         · rfl
 unfold lR oM; cases guard with
 | none => exact key
 | some x =>
   obtain ⟨p, t⟩ := x; show _ = gB (reg ρ p) t (bBm op dst (reg ρ) h); rw [bPM, <- key]
   rfl
theorem aUt (pre : List DR) (h : H) (x : Option R) : ∀ l : Ln, (bif l.all (dY pre ρ h) then x else none) = reK pre (reg ρ) h x l
 | [] => rfl
 | q :: l => by
   show _ = rK (Option.rec (motive := λ _ => Bool) false (λ g => oM g (reg ρ) h) (rE q pre)) (reK pre (reg ρ) h x l)
   rw [<- aUt pre h x l]; have e : dY pre ρ h q = Option.rec (motive := λ _ => Bool) false (λ g => oM g (reg ρ) h) (rE q pre) := by
     unfold dY; cases rE q pre with
     | none => rfl
     | some g => exact bBl g h
   rw [<- e, List.all_cons]; cases dY pre ρ h q <;> rfl
theorem aFz : ∀ (l pre : List DR) (ρ : Tr DV) (h : H) (k : Tr DV -> H -> Option R) (k2 : Rg -> H -> Option R), (∀ ρ h, k ρ h = k2 (reg ρ) h) -> dW E l pre ρ h k = aMo E l pre (reg ρ) h k2
 | [], pre, ρ, h, k, k2, hk => hk ρ h
 | x :: l, pre, ρ, h, k, k2, hk => by
   refine aFB x.g h (λ ρ h => bif x.re.all (dY pre ρ h) then dW E l (x :: pre) ρ h k else none) (λ σ h => reK pre σ h (aMo E l (x :: pre) σ h k2) x.re) λ ρ h => ?_
   rw [<- aFz l (x :: pre) ρ h k k2 hk]; exact aUt pre h _ x.re
theorem aVz [Agr R] : ∀ (d : DC) (ρ : Tr DV) (h : H) (K : KT R) (K2 : gS R), (∀ x ρ h, K x ρ h = K2 x (reg ρ) h) -> nB E d ρ h K = jP E d (reg ρ) h K2 := by
 intro d
 induction d with
 | skip => intro ρ h K K2 hk; exact hk .normal ρ h
 | reg l => intro ρ h K K2 hk; exact yD l ρ h _ _ λ ρ h => hk .normal ρ h
 | seq a b iha ihb =>
   intro ρ h K K2 hk; refine iha ρ h _ (aAz (λ σ h => jP E b σ h K2) K2) λ x ρ h => ?_
   cases x with
   | normal => exact ihb ρ h K K2 hk
   | exit i => exact hk (.exit i) ρ h
   | ret => exact hk .ret ρ h
 | cond c a b iha ihb =>
   intro ρ h K K2 hk; show tZ c a b (nB E a) (nB E b) ρ h K = bK (e2 (DI.reg ρ) c) (jP E a (DI.reg ρ) h K2) (jP E b (DI.reg ρ) h K2); rw [<- iha ρ h K K2 hk, <- ihb ρ h K K2 hk, aMu]; unfold tZ bK; cases ev ρ c <;> try rfl
   rename_i t; cases t <;> rfl
 | block id a iha =>
   intro ρ h K K2 hk; refine iha ρ h _ (aPm id K2) λ x ρ h => ?_
   cases x with
   | normal => exact hk .normal ρ h
   | exit i =>
     show (bif Nat.beq i id then K .normal ρ h else K (.exit i) ρ h) = Bool.rec (K2 (.exit i) (DI.reg ρ) h) (K2 .normal (DI.reg ρ) h) (Nat.beq i id); cases Nat.beq i id
     · exact hk (.exit i) ρ h
     · exact hk .normal ρ h
   | ret => exact hk .ret ρ h
 | loop a iha =>
   intro ρ h K K2 hk; show aFo (nB E a) K aK ρ h = uN (jP E a) K2 aK (DI.reg ρ) h; generalize aK = n
   induction n generalizing ρ h with
   | zero => rfl
   | succ n ih =>
     refine iha ρ h _ (aAz (uN (jP E a) K2 n) K2) λ x ρ h => ?_
     cases x with
     | normal => exact ih ρ h
     | exit i => exact hk (.exit i) ρ h
     | ret => exact hk .ret ρ h
 | exit id => intro ρ h K K2 hk; exact hk (.exit id) ρ h
 | ret => intro ρ h K K2 hk; exact hk .ret ρ h
 | scope a iha =>
   intro ρ h K K2 hk; refine iha ρ h _ (aOj K2) λ x ρ h => ?_
   cases x with
   | normal => exact hk .normal ρ h
   | exit i =>
     show (bif Nat.blt i 4294967296 then K (.exit i) ρ h else none) = Bool.rec none (K2 (.exit i) (DI.reg ρ) h) (Nat.blt i 4294967296); cases Nat.blt i 4294967296
     · rfl
     · exact hk (.exit i) ρ h
   | ret => exact hk .ret ρ h
 | jump g a r iha ihr =>
   intro ρ h K K2 hk; have jk : ∀ (k : Tr DV -> H -> Option R) (k2 : Rg -> H -> Option R), (∀ ρ h, k ρ h = k2 (DI.reg ρ) h) -> ∀ x ρ h, aDi g k K x ρ h = yB g k2 K2 x (DI.reg ρ) h := by
     intro k k2 hkk x ρ h; cases x with
     | normal => exact hk .normal ρ h
     | exit i =>
       show (bif Nat.beq i g then k ρ h else bif Nat.blt i 4294967296 then K (.exit i) ρ h else none) = Bool.rec (Bool.rec none (K2 (.exit i) (DI.reg ρ) h) (Nat.blt i 4294967296)) (k2 (DI.reg ρ) h) (Nat.beq i g); cases Nat.beq i g
       · cases Nat.blt i 4294967296
         · rfl
         · exact hk (.exit i) ρ h
       · exact hkk ρ h
     | ret => exact hk .ret ρ h
   have key : ∀ n ρ h, aBA (nB E r) g K n ρ h = qI (jP E r) g K2 n (DI.reg ρ) h := by
     intro n
     induction n with
     | zero => intro ρ h; rfl
     | succ n ih => intro ρ h; exact ihr ρ h _ (yB g (qI (jP E r) g K2 n) K2) (jk _ _ ih)
   exact iha ρ h _ (yB g (qI (jP E r) g K2 aK) K2) (jk _ _ (key aK))
 | drg l => intro ρ h K K2 hk; exact aFz l [] ρ h _ _ λ ρ h => hk .normal ρ h
 | bad => intro ρ h K K2 hk; rfl
 | nxt p x l =>
   intro ρ h K K2 hk; show aIA E p x l ρ h K = aSA (e2 (DI.reg ρ) x) h λ v h => zT E l (aSW p v (DI.reg ρ)) h λ σ h => K2 .normal σ h
   unfold aIA; rw [aMu]
   congr 1
   funext v h
   rw [kT, <- aOv]; exact yD l _ h _ _ λ ρ h => hk .normal ρ h
 | fin t p a iha =>
   intro ρ h K K2 hk; refine iha ρ h _ (bFc p K2) λ x ρ h => ?_
   show aLZ (ev ρ (.r p)) h (λ h => K x ρ h) = aLZ (DI.reg ρ p) h λ h => K2 x (DI.reg ρ) h
   congr 1
   funext h
   exact hk x ρ h
theorem aOl (h : H) : ∀ (l : List RV) (k : List DV -> Option (DV × H)), aUn (reg ρ) h l k = (eO ρ h l).bind k
 | [], k => rfl
 | r :: l, k => by
   show rv2 (reg ρ) h r (λ v => aUn (reg ρ) h l λ vs => k (v :: vs)) = _
   simp only [aOl h l]; have e : ∀ q : DV -> Option (DV × H), rv2 (reg ρ) h r q = (tQ ρ h r).bind q := by
     intro q; cases r with
     | r p => rfl
     | cell p =>
       show vK (aF h.get (ev ρ (.r p))) q = _; rw [bEc]; simp only [tQ, aF, bX]; generalize ev ρ (.r p) = y; cases y <;> rfl
     | cells p n =>
       show vK (cX n h.get (ev ρ (.r p))) q = _; rw [bEc]; simp only [tQ, cX, bP]; generalize ev ρ (.r p) = y; cases y <;> rfl
   rw [e]; simp only [eO]; cases tQ ρ h r with
   | none => rfl
   | some v =>
     simp only [Option.bind_some]; cases eO ρ h l <;> rfl
theorem aSr (E : aQ) (d : DF) (args : List DV) (h : H) : iZ E d args h = aLI E d args h := by
 unfold iZ aLI; cases Nat.beq args.length d.np with
 | false => rfl
 | true =>
   show nB E d.body (Tr.ofL args) h (bBj d.res) = jP E d.body (reg (Tr.ofL args)) h (aOt d.res); refine aVz d.body _ h _ _ λ x ρ h => ?_
   have e : ((eO ρ h d.res).map λ vs => (iQ vs, h)) = aUn (reg ρ) h d.res λ vs => some (iQ vs, h) := by
     rw [aOl]; cases eO ρ h d.res <;> rfl
   cases x with
   | normal => exact e
   | exit i => rfl
   | ret => exact e
end
section
variable {R : Type}
abbrev bOJ (d : WOp) : Rg -> H -> (DV -> H -> Option R) -> Option R :=
 WOp.rec (motive := λ _ => Rg -> H -> (DV -> H -> Option R) -> Option R)
   (λ n a x σ h k => wK (dD n (e2 σ a) (e2 σ x) h) k)
   (λ es bytes x y σ h k => wK (cJ es bytes (e2 σ x) (e2 σ y) h) k)
   (λ es x y σ h k => wK (lE es (e2 σ x) (e2 σ y) h) k)
   (λ kt x q y σ h k => wK (aBS kt (e2 σ x) (e2 σ q) (e2 σ y) h) k)
   (λ zs x σ h k => wK (uV zs (e2 σ x) h) k)
   (λ x σ h k => wK (lV (e2 σ x) h) k)
   (λ es bytes zs x y σ h k => wK (aEM es bytes zs (e2 σ x) (e2 σ y) h) k)
   (λ x σ h k => wK (aWd (e2 σ x) h) k)
   (λ x σ h k => wK (aWi (e2 σ x) h) k)
   (λ kt x q σ h k => wK (aJZ kt (e2 σ x) (e2 σ q) h) k)
   (λ kt z x q σ h k => wK (wS kt z (e2 σ x) (e2 σ q) h) k)
   (λ x q y σ h k => wK (aJU (e2 σ x) (e2 σ q) (e2 σ y) h) k) d
abbrev bOK (E : aQ) (d : COp) : Rg -> H -> (DV -> H -> Option R) -> Option R :=
 COp.rec (motive := λ _ => Rg -> H -> (DV -> H -> Option R) -> Option R)
   (λ f args σ h k => wK (aB E f (args.map (e2 σ)) h) k)
   (λ f args σ h k => wK (lK E (e2 σ f) (args.map (e2 σ)) h) k)
   (λ tbl x args σ h k => wK (aKo E tbl (e2 σ x) (args.map (e2 σ)) h) k) d
abbrev odo3 (E : aQ) (d : DOp) : Rg -> H -> (DV -> H -> Option R) -> Option R :=
 DOp.rec (motive := λ _ => Rg -> H -> (DV -> H -> Option R) -> Option R) bBy bOJ (bOK E) d
abbrev aVx (E : aQ) (g : DG) (σ : Rg) (h : H) (k : Rg -> H -> Option R) : Option R :=
 Option.rec (motive := λ _ => Option R) (odo3 E g.op σ h λ v h => k (zP g.dst v σ) h)
   (λ x => aJ (σ x.1) x.2 (λ kk => odo3 E g.op σ h kk) h λ v h => k (zP g.dst v σ) h) g.guard
abbrev aOR (E : aQ) (l : List DG) : Rg -> H -> (Rg -> H -> Option R) -> Option R :=
 List.rec (motive := λ _ => Rg -> H -> (Rg -> H -> Option R) -> Option R) (λ σ h k => k σ h) (λ g _ ih σ h k => aVx E g σ h λ σ h => ih σ h k) l
abbrev reK3 (pre : List DR) (σ : Rg) (h : H) (x : Option R) (l : Ln) : Option R :=
 List.rec (motive := λ _ => Option R) x (λ q _ ih => rK (Option.rec (motive := λ _ => Bool) false (λ g => oM g σ h) (rE q pre)) ih) l
abbrev bHt (E : aQ) (l : List DR) : List DR -> Rg -> H -> (Rg -> H -> Option R) -> Option R :=
 List.rec (motive := λ _ => List DR -> Rg -> H -> (Rg -> H -> Option R) -> Option R) (λ _ σ h k => k σ h)
   (λ x _ ih pre σ h k => aVx E x.g σ h λ σ h => reK3 pre σ h (ih (x :: pre) σ h k) x.re) l
abbrev bU (k : Rg -> H -> Option R) (K : gS R) : gS R := λ x σ h =>
 DX.rec (motive := λ _ => Option R) (k σ h) (λ id => K (.exit id) σ h) (K .ret σ h) x
abbrev bF (id : Nat) (K : gS R) : gS R := λ x σ h =>
 DX.rec (motive := λ _ => Option R) (K .normal σ h) (λ i => Bool.rec (K (.exit i) σ h) (K .normal σ h) (Nat.beq i id)) (K .ret σ h) x
abbrev yZ (K : gS R) : gS R := λ x σ h =>
 DX.rec (motive := λ _ => Option R) (K .normal σ h) (λ i => Bool.rec none (K (.exit i) σ h) (Nat.blt i 4294967296)) (K .ret σ h) x
abbrev yA (g : Nat) (k : Rg -> H -> Option R) (K : gS R) : gS R := λ x σ h =>
 DX.rec (motive := λ _ => Option R) (K .normal σ h) (λ i => Bool.rec (Bool.rec none (K (.exit i) σ h) (Nat.blt i 4294967296)) (k σ h) (Nat.beq i g)) (K .ret σ h) x
abbrev bPW (p : Pa) (K : gS R) : gS R := λ x σ h => aLZ (σ p) h λ h => K x σ h
abbrev iN [Agr R] (E : aQ) (c : DC) : Rg -> H -> gS R -> Option R :=
 DC.rec (motive := λ _ => Rg -> H -> gS R -> Option R)
   (λ σ h K => K .normal σ h)
   (λ l σ h K => aOR E l σ h λ σ h => K .normal σ h)
   (λ _ _ ia ib σ h K => ia σ h (bU (λ σ h => ib σ h K) K))
   (λ c _ _ ia ib σ h K => bK (e2 σ c) (ia σ h K) (ib σ h K))
   (λ id _ ia σ h K => ia σ h (bF id K))
   (λ _ ia σ h K => uN ia K aK σ h)
   (λ id σ h K => K (.exit id) σ h)
   (λ σ h K => K .ret σ h)
   (λ _ ia σ h K => ia σ h (yZ K))
   (λ l σ h K => bHt E l [] σ h λ σ h => K .normal σ h)
   (λ _ _ _ => none)
   (λ g _ _ ia ir σ h K => ia σ h (yA g (qI ir g K aK) K))
   (λ p x l σ h K => aSA (e2 σ x) h λ v h => aOR E l (aSW p v σ) h λ σ h => K .normal σ h)
   (λ _ p _ ia σ h K => ia σ h (bPW p K)) c
end
abbrev rv3 (σ : Rg) (h : H) (r : RV) (k : DV -> Option (DV × H)) : Option (DV × H) :=
 RV.rec (motive := λ _ => Option (DV × H)) (λ p => k (σ p)) (λ p => vK (aF h.get (σ p)) k) (λ p n => vK (cX n h.get (σ p)) k) r
abbrev rvs3 (σ : Rg) (h : H) (l : List RV) : (List DV -> Option (DV × H)) -> Option (DV × H) :=
 List.rec (motive := λ _ => (List DV -> Option (DV × H)) -> Option (DV × H)) (λ k => k []) (λ r _ ih k => rv3 σ h r λ v => ih λ vs => k (v :: vs)) l
abbrev bB (res : List RV) : gS (DV × H) := λ x σ h =>
 DX.rec (motive := λ _ => Option (DV × H)) (rvs3 σ h res λ vs => some (iQ vs, h)) (λ _ => none) (rvs3 σ h res λ vs => some (iQ vs, h)) x
theorem aVy {R : Type} [Agr R] (E : aQ) (c : DC) (σ : Rg) (h : H) (K : gS R) : iN E c σ h K = jP E c σ h K := by
 induction c generalizing σ h K with
 | skip => rfl
 | reg l => rfl
 | seq a b iha ihb =>
   show iN E a σ h (bU (λ σ h => iN E b σ h K) K) = jP E a σ h (aAz (λ σ h => jP E b σ h K) K)
   rw [iha, show (λ σ h => iN E b σ h K) = λ σ h => jP E b σ h K from funext λ σ => funext λ h => ihb σ h K]
   rfl
 | cond c a b iha ihb =>
   show bK (e2 σ c) (iN E a σ h K) (iN E b σ h K) = bK (e2 σ c) (jP E a σ h K) (jP E b σ h K); rw [iha, ihb]
 | block id a iha => exact iha σ h _
 | loop a iha =>
   have e : iN (R := R) E a = jP E a := funext λ σ => funext λ h => funext λ K => iha σ h K
   show uN (iN E a) K aK σ h = uN (jP E a) K aK σ h; rw [e]
 | exit id => rfl
 | ret => rfl
 | scope a iha => exact iha σ h _
 | drg l => rfl
 | bad => rfl
 | nxt p x l => rfl
 | fin t p a iha => exact iha σ h _
 | jump g a r iha ihr =>
   have e : iN (R := R) E r = jP E r := funext λ σ => funext λ h => funext λ K => ihr σ h K
   show iN E a σ h (yA g (qI (iN E r) g K aK) K) = jP E a σ h (yB g (qI (jP E r) g K aK) K); rw [e, iha]; rfl
def Is {R : Type} [Agr R] (E : aQ) (c : DC) (K : gS R) (S : Rg -> H -> Option R) : Prop := ∀ σ h, iN E c σ h K = S σ h
section
variable {R : Type} [Agr R] {E : aQ} {K : gS R}
theorem Is.leaf (c : DC) : Is E c K λ σ h => iN E c σ h K := λ _ _ => rfl
theorem Is.seq {a b : DC} {Sa Sb : Rg -> H -> Option R} (hb : Is E b K Sb) (ha : Is E a (bU Sb K) Sa) : Is E (.seq a b) K Sa := λ σ h => by
 have e : (λ σ h => iN E b σ h K) = Sb := funext λ σ => funext λ h => hb σ h
 show iN E a σ h (bU (λ σ h => iN E b σ h K) K) = _
 rw [e]; exact ha σ h
theorem Is.cond {c : aU} {a b : DC} {Sa Sb : Rg -> H -> Option R} (ha : Is E a K Sa) (hb : Is E b K Sb) : Is E (.cond c a b) K λ σ h => bK (e2 σ c) (Sa σ h) (Sb σ h) := λ σ h => by
 show bK (e2 σ c) (iN E a σ h K) (iN E b σ h K) = _; rw [ha, hb]
theorem Is.block {id : Nat} {a : DC} {Sa : Rg -> H -> Option R} (ha : Is E a (bF id K) Sa) : Is E (.block id a) K Sa := ha
theorem Is.scope {a : DC} {Sa : Rg -> H -> Option R} (ha : Is E a (yZ K) Sa) : Is E (.scope a) K Sa := ha
theorem Is.jump {g : Nat} {a r : DC} {Sa : Rg -> H -> Option R} (S : Nat -> Rg -> H -> Option R) (h0 : S 0 = λ _ _ => none) (hs : ∀ n, Is E r (yA g (S n) K) (S (n + 1))) (ha : Is E a (yA g (S aK) K) Sa) : Is E (.jump g a r) K Sa := by
 have key : ∀ n, qI (iN E r) g K n = S n := by
   intro n
   induction n with
   | zero => exact h0.symm
   | succ n ih =>
     funext σ h
     show iN E r σ h (yB g (qI (iN E r) g K n) K) = _; rw [ih]; exact hs n σ h
 intro σ h; show iN E a σ h (yA g (qI (iN E r) g K aK) K) = _; rw [key aK]; exact ha σ h
theorem Is.loop {a : DC} (S : Nat -> Rg -> H -> Option R) (h0 : S 0 = λ _ _ => none) (hs : ∀ n, Is E a (bU (S n) K) (S (n + 1))) : Is E (.loop a) K (S aK) := by
 have key : ∀ n, uN (iN E a) K n = S n := by
   intro n
   induction n with
   | zero => exact h0.symm
   | succ n ih =>
     funext σ h
     show iN E a σ h (aAz (uN (iN E a) K n) K) = _; rw [ih]; exact hs n σ h
 exact λ σ h => congrFun (congrFun (key aK) σ) h
theorem Is.as {c : DC} {S T : Rg -> H -> Option R} (h : Is E c K S) (e : ∀ σ m, S σ m = T σ m) : Is E c K T := λ σ m => (h σ m).trans (e σ m)
end
end Go.DI
namespace Go.DI
open Go.RowKit
def a0 {R : Type} (args : List DV) (x : Option R) : Option R := List.rec (motive := λ _ => Option R) x (λ _ _ _ => none) args
def aS {R : Type} (args : List DV) (k : DV -> List DV -> Option R) : Option R := List.rec (motive := λ _ => Option R) none (λ v vs _ => k v vs) args
abbrev aL := Option (DV × H)
theorem Is.fn {E : aQ} {d : DF} {S : Rg -> H -> aL} (h : Is E d.body (bB d.res) S) {np : Nat} (hn : d.np = np) (F : bC) (hF : ∀ args h, args.length = np -> S (reg (Tr.ofL args)) h = F args h) (h0 : ∀ args h, args.length ≠ np -> F args h = none) (args : List DV) (m : H) : iZ E d args m = F args m := by
 rw [aSr]; unfold aLI; have e0 : ∀ σ m, jP E d.body σ m (aOt d.res) = S σ m := λ σ m => (aVy E d.body σ m (aOt d.res)).symm.trans (h σ m)
 subst hn; by_cases e : args.length = d.np
 · rw [e, Nat.beq_refl]; exact (e0 _ m).trans (hF args m e)
 · have : Nat.beq args.length d.np = false := by
     cases hb : Nat.beq args.length d.np
     · rfl
     · exact absurd (Nat.eq_of_beq_eq_true hb) e
   rw [this]; exact (h0 args m e).symm
theorem Is.fn0 {E : aQ} {d : DF} {S : Rg -> H -> aL} (h : Is E d.body (bB d.res) S) (hn : d.np = 0) (J : H -> aL) (e : ∀ h, S (reg (Tr.ofL [])) h = J h) (args : List DV) (m : H) : iZ E d args m = a0 args (J m) :=
 h.fn hn (λ args h => a0 args (J h)) (λ args h hl => by
   match args, hl with
   | [], _ => exact e h) (λ args h hl => by
   match args, hl with
   | [], hl => exact absurd rfl hl
   | _ :: _, _ => rfl) args m
theorem Is.fn1 {E : aQ} {d : DF} {S : Rg -> H -> aL} (h : Is E d.body (bB d.res) S) (hn : d.np = 1) (J : DV -> H -> aL) (e : ∀ r0 h, S (reg (Tr.ofL [r0])) h = J r0 h) (args : List DV) (m : H) : iZ E d args m = (λ args h => aS args λ r0 args => a0 args (J r0 h)) args m :=
 h.fn hn (λ args h => aS args λ r0 args => a0 args (J r0 h)) (λ args h hl => by
   match args, hl with
   | [r0], _ => exact e r0 h) (λ args h hl => by
   match args, hl with
   | [], _ => rfl
   | [r0], hl => exact absurd rfl hl
   | _ :: _ :: _, _ => rfl) args m
theorem Is.fn2 {E : aQ} {d : DF} {S : Rg -> H -> aL} (h : Is E d.body (bB d.res) S) (hn : d.np = 2) (J : DV -> DV -> H -> aL) (e : ∀ r0 r1 h, S (reg (Tr.ofL [r0, r1])) h = J r0 r1 h) (args : List DV) (m : H) : iZ E d args m = (λ args h => aS args λ r0 args => aS args λ r1 args => a0 args (J r0 r1 h)) args m :=
 h.fn hn (λ args h => aS args λ r0 args => aS args λ r1 args => a0 args (J r0 r1 h)) (λ args h hl => by
   match args, hl with
   | [r0, r1], _ => exact e r0 r1 h) (λ args h hl => by
   match args, hl with
   | [], _ => rfl
   | [_], _ => rfl
   | [r0, r1], hl => exact absurd rfl hl
   | _ :: _ :: _ :: _, _ => rfl) args m
theorem Is.fn3 {E : aQ} {d : DF} {S : Rg -> H -> aL} (h : Is E d.body (bB d.res) S) (hn : d.np = 3) (J : DV -> DV -> DV -> H -> aL) (e : ∀ r0 r1 r2 h, S (reg (Tr.ofL [r0, r1, r2])) h = J r0 r1 r2 h) (args : List DV) (m : H) : iZ E d args m = (λ args h => aS args λ r0 args => aS args λ r1 args => aS args λ r2 args => a0 args (J r0 r1 r2 h)) args m :=
 h.fn hn (λ args h => aS args λ r0 args => aS args λ r1 args => aS args λ r2 args => a0 args (J r0 r1 r2 h)) (λ args h hl => by
   match args, hl with
   | [r0, r1, r2], _ => exact e r0 r1 r2 h) (λ args h hl => by
   match args, hl with
   | [], _ => rfl
   | [_], _ => rfl
   | [_, _], _ => rfl
   | [r0, r1, r2], hl => exact absurd rfl hl
   | _ :: _ :: _ :: _ :: _, _ => rfl) args m
theorem Is.fn4 {E : aQ} {d : DF} {S : Rg -> H -> aL} (h : Is E d.body (bB d.res) S) (hn : d.np = 4) (J : DV -> DV -> DV -> DV -> H -> aL) (e : ∀ r0 r1 r2 r3 h, S (reg (Tr.ofL [r0, r1, r2, r3])) h = J r0 r1 r2 r3 h) (args : List DV) (m : H) : iZ E d args m = (λ args h => aS args λ r0 args => aS args λ r1 args => aS args λ r2 args => aS args λ r3 args => a0 args (J r0 r1 r2 r3 h)) args m :=
 h.fn hn (λ args h => aS args λ r0 args => aS args λ r1 args => aS args λ r2 args => aS args λ r3 args => a0 args (J r0 r1 r2 r3 h)) (λ args h hl => by
   match args, hl with
   | [r0, r1, r2, r3], _ => exact e r0 r1 r2 r3 h) (λ args h hl => by
   match args, hl with
   | [], _ => rfl
   | [_], _ => rfl
   | [_, _], _ => rfl
   | [_, _, _], _ => rfl
   | [r0, r1, r2, r3], hl => exact absurd rfl hl
   | _ :: _ :: _ :: _ :: _ :: _, _ => rfl) args m
theorem Is.fn5 {E : aQ} {d : DF} {S : Rg -> H -> aL} (h : Is E d.body (bB d.res) S) (hn : d.np = 5) (J : DV -> DV -> DV -> DV -> DV -> H -> aL) (e : ∀ r0 r1 r2 r3 r4 h, S (reg (Tr.ofL [r0, r1, r2, r3, r4])) h = J r0 r1 r2 r3 r4 h) (args : List DV) (m : H) : iZ E d args m = (λ args h => aS args λ r0 args => aS args λ r1 args => aS args λ r2 args => aS args λ r3 args => aS args λ r4 args => a0 args (J r0 r1 r2 r3 r4 h)) args m :=
 h.fn hn (λ args h => aS args λ r0 args => aS args λ r1 args => aS args λ r2 args => aS args λ r3 args => aS args λ r4 args => a0 args (J r0 r1 r2 r3 r4 h)) (λ args h hl => by
   match args, hl with
   | [r0, r1, r2, r3, r4], _ => exact e r0 r1 r2 r3 r4 h) (λ args h hl => by
   match args, hl with
   | [], _ => rfl
   | [_], _ => rfl
   | [_, _], _ => rfl
   | [_, _, _], _ => rfl
   | [_, _, _, _], _ => rfl
   | [r0, r1, r2, r3, r4], hl => exact absurd rfl hl
   | _ :: _ :: _ :: _ :: _ :: _ :: _, _ => rfl) args m
structure FD where
 f : Nat
 d : DF
 s : aQ -> bC
def rR : List FD -> Prop
 | [] => True
 | x :: l => (∀ E args h, iZ E x.d args h = x.s E args h) /\ rR l
theorem rR.mem : ∀ {l : List FD}, rR l -> ∀ x ∈ l, ∀ E args h, iZ E x.d args h = x.s E args h
 | y :: l, h, x, hx => by
   rcases List.mem_cons.1 hx with rfl | hx
   · exact h.1
   · exact h.2.mem x hx
theorem rR.append : ∀ {l m : List FD}, rR l -> rR m -> rR (l ++ m)
 | [], _, _, h => h
 | _ :: _, _, h, k => ⟨h.1, h.2.append k⟩
def nD (P : Program) (l : List FD) : Bool := l.all λ x => aKk P x.f x.d
theorem aAe {P : Program} {l m : List FD} (h : nD P l = true) (k : nD P m = true) : nD P (l ++ m) = true := by
 unfold nD at *; rw [List.all_append, h, k]; rfl
def aCU : List FD -> Tr (aQ -> bC) -> Tr (aQ -> bC)
 | [], t => t
 | x :: l, t => aCU l (Tr.set x.s (Pa.of x.f) t)
theorem aGH : ∀ (l : List FD) (t : Tr (aQ -> bC)) (f : Nat) (s : aQ -> bC), (aCU l t).at_ f = some s -> t.at_ f = some s \/ ∃ x ∈ l, x.f = f /\ x.s = s
 | [], t, f, d, h => .inl h
 | x :: l, t, f, d, h => by
   rcases aGH l _ f d h with h | ⟨y, hy, h⟩
   · have := Tr.at_put t x.f f x.s; unfold Tr.put at this; rw [this] at h; split at h
     · rename_i hh; cases h; exact .inr ⟨x, by simp, hh.symm, rfl⟩
     · exact .inl h
   · exact .inr ⟨y, List.mem_cons_of_mem _ hy, h⟩
def SE (B : aQ) (T : Tr (aQ -> bC)) (n : Nat) : aQ := Nat.rec (motive := λ _ => aQ) (λ _ => none) (λ _ ih f =>
 Option.rec (motive := λ _ => Option bC) (Option.rec (motive := λ _ => Option bC) none (λ s => some (s ih)) (T.at_ f)) some (B f)) n
structure aFP (P : Program) (T : Tr (aQ -> bC)) : Prop where
 ok : ∀ f s, T.at_ f = some s -> iC P f = true /\ ∀ E, gN P E -> fS P f (s E)
theorem bOx {P : Program} {l : List FD} {T : Tr (aQ -> bC)} (hT : aCU l .e = T) (hc : nD P l = true) (he : rR l) : aFP P T := by
 refine ⟨λ f s h => ?_⟩
 rw [<- hT] at h; rcases aGH l _ f s h with h | ⟨x, hx, rfl, rfl⟩
 · rw [Tr.at_e] at h; cases h
 · have hk := List.all_eq_true.1 hc x hx; refine ⟨aKn hk, λ E hE => ?_⟩
   have e : x.s E = iZ E x.d := funext λ args => funext λ h => (he.mem x hx E args h).symm
   rw [e]; exact aVq hE hk
theorem aPE {P : Program} {B : aQ} {T : Tr (aQ -> bC)} (hB : gN P B) (hT : aFP P T) : ∀ n, gN P (SE B T n)
 | 0 => λ f F hF => by cases hF
 | n + 1 => λ f F hF => by
   replace hF : Option.rec (motive := λ _ => Option bC) (Option.rec (motive := λ _ => Option bC) none (λ s => some (s (SE B T n))) (T.at_ f)) some (B f) = some F := hF
   cases hb : B f with
   | some G => rw [hb] at hF; cases hF; exact hB f F hb
   | none =>
     rw [hb] at hF; cases hs : T.at_ f with
     | none => rw [hs] at hF; cases hF
     | some s =>
       rw [hs] at hF; cases hF; exact ⟨(hT.ok f s hs).1, (hT.ok f s hs).2 _ (aPE hB hT n)⟩
theorem aKm {P : Program} {B : aQ} {T : Tr (aQ -> bC)} {f : FuncId} {s : aQ -> bC} (hB : gN P B) (hT : aFP P T) (hf : T.at_ f = some s) {n : Nat} {args : List DV} {args' : List Value} (hargs : trs (λ _ => none) args = some args')
   (hrun : (s (SE B T n) args H0).map (·.1) = some (.bool true)) (w : World) (hg : Good w := by first | assumption | exact λ _ h => by cases h) :
   Calls P f args'.toArray w λ e w' => e = .returned (.bool true) /\ Below w.heap.size w w' := by
 cases hr : s (SE B T n) args H0 with
 | none => rw [hr] at hrun; cases hrun
 | some r =>
   obtain ⟨v, h'⟩ := r; rw [hr] at hrun; simp only [Option.map_some, Option.some.injEq] at hrun; subst hrun; refine ((hT.ok f s hf).2 _ (aPE hB hT n) w.heap.size w _ H0 w args args' _ h' hr hargs (bH.start w hg)).mono λ e w' hh => ?_
   obtain ⟨m', v', rfl, h2, h3, h4⟩ := hh; rw [iJ h2]; exact ⟨rfl, h3.below⟩
end Go.DI
namespace Go.DI
open Go.RowKit
section
variable {R : Type}
@[simp] theorem aA (v : DV) (k : DV -> Option R) : vK (some v) k = k v := id rfl
@[simp] theorem bXp (k : DV -> Option R) : vK none k = none := id rfl
@[simp] theorem aV (v : DV) (h : H) (k : DV -> H -> Option R) : wK (some (v, h)) k = k v h := id rfl
@[simp] theorem bXo (k : DV -> H -> Option R) : wK none k = none := id rfl
@[simp] theorem cT (a b : Option R) : bK (.bool true) a b = a := id rfl
@[simp] theorem aW (a b : Option R) : bK (.bool false) a b = b := id rfl
@[simp] theorem aOy (a : Option R) : rK true a = a := id rfl
@[simp] theorem bXJ (v : DV) (vs : List DV) (k : DV -> List DV -> Option R) : aS (v :: vs) k = k v vs := id rfl
@[simp] theorem aS_nil (k : DV -> List DV -> Option R) : aS [] k = none := id rfl
@[simp] theorem a0_nil (x : Option R) : a0 [] x = x := id rfl
@[simp] theorem bXK (v : DV) (vs : List DV) (x : Option R) : a0 (v :: vs) x = none := id rfl
end
theorem dK {a b : Nat} (h : a < b) : Nat.blt a b = true := by rw [Nat.blt_eq]; exact h
theorem aT {E : aQ} {f : Nat} {F : bC} (h : E f = some F) (args : List DV) (m : H) : aB E f args m = F args m := by unfold aB; rw [h]
theorem gJ (k : IntKind) : kEq k k = true := by cases k <;> rfl
theorem qW (k : IntKind) (a b : Int) : bW (.int k a) (.int k b) = some (.int k (k.wrap (a + b))) := by
 show (bif kEq k k then aPC k a b else none) = _; rw [gJ]; show iO k (aVd a b) = _; rw [aGR, gP]
theorem aAu (k : IntKind) (a b : Int) : kI (.int k a) (.int k b) = some (.int k (k.wrap (a - b))) := by
 show (bif kEq k k then aPr k a b else none) = _; rw [gJ]; show iO k (a - b) = _; rw [gP]
theorem jA (k : IntKind) (a b : Int) : bO (.int k a) (.int k b) = some (.bool (decide (a < b))) := by
 show (bif kEq k k then aPw k a b else none) = _; rw [gJ]; show eH (iLt a b) = _; rw [fR, mN]
theorem aAw (k : IntKind) (a b : Int) : dO (.int k a) (.int k b) = some (.bool (decide (b < a))) := by
 show (bif kEq k k then aPy k a b else none) = _; rw [gJ]; show eH (iLt b a) = _; rw [fR, mN]
theorem aAx (k : IntKind) (a b : Nat) (ha : a < 2 ^ k.bits) (hb : b < 2 ^ k.bits) : qV (.int k (.ofNat a)) (.int k (.ofNat b)) = some (.int k (k.wrap (.ofNat (a &&& b)))) := by
 show (bif kEq k k then aON k (.ofNat a) (.ofNat b) else none) = _; rw [gJ]; show (bif Nat.blt a (2 ^ k.bits) && Nat.blt b (2 ^ k.bits) then iO k (.ofNat (Nat.land a b)) else _) = _; rw [dK ha, dK hb]; exact gP _ _
theorem lG (k : IntKind) (a b : Nat) (ha : a < 2 ^ k.bits) (hb : b < 2 ^ k.bits) : pS (.int k (.ofNat a)) (.int k (.ofNat b)) = some (.int k (k.wrap (.ofNat (a ^^^ b)))) := by
 show (bif kEq k k then aJJ k (.ofNat a) (.ofNat b) else none) = _; rw [gJ]; show (bif Nat.blt a (2 ^ k.bits) && Nat.blt b (2 ^ k.bits) then iO k (.ofNat (Nat.xor a b)) else _) = _; rw [dK ha, dK hb]; exact gP _ _
theorem qU (k k' : IntKind) (a b : Nat) (hb : b <= k.bits) : lN (.int k (.ofNat a)) (.int k' (.ofNat b)) = some (.int k (.ofNat (a / 2 ^ b))) := by
 show mP .shr k (.ofNat a) (.ofNat b) = _; unfold mP; rw [show iLt (.ofNat b) 0 = false from by rw [mN]; simp]
 simp only [cond_false, lU]; rw [show min (Int.ofNat b).toNat k.bits = b from by simp [Nat.min_eq_left hb]]
 congr 2
 show Int.fdiv (a : Int) (2 ^ b) = ((a / 2 ^ b : Nat) : Int); rw [Int.fdiv_eq_ediv_of_nonneg _ (by exact_mod_cast Nat.zero_le _)]
 simp
theorem fM (k k' : IntKind) (a : Int) : cN k (.int k' a) = some (.int k (k.wrap a)) := gP _ _
theorem cQ (s : Ln) : eI (.str s) = some (.int .i64 (.ofNat s.length)) := by
 simp only [eI, aM]
theorem mI {s : Ln} {i b : Nat} (h : s[i]? = some b) (k : IntKind) : oP (.str s) (.int k (.ofNat i)) = some (.int .u8 (.ofNat b)) := by
 have hi : i < s.length := by
   rcases Nat.lt_or_ge i s.length with h1 | h1
   · exact h1
   · rw [List.getElem?_eq_none h1] at h; cases h
 simp only [oP, nR]; rw [dK hi, h]; rfl
theorem wrap_u32 {n : Nat} (h : n < 4294967296) : IntKind.u32.wrap (.ofNat n) = .ofNat n := by
 rw [IntKind.wrap_u32]; simp only [Int.ofNat_eq_natCast]; omega
theorem wrap_i64 {n : Nat} (h : n < 9223372036854775808) : IntKind.i64.wrap (.ofNat n) = .ofNat n := by
 rw [pR] <;> simp only [Int.ofNat_eq_natCast] <;> omega
def iV (c : Nat) : Nat := Nat.xor (Nat.div c 2) (bif Nat.beq (Nat.mod c 2) 0 then 0 else 3988292384)
def kJ : Nat -> Nat -> Nat
 | 0, c => c
 | k + 1, c => kJ k (iV c)
def bAZ (c : Nat) : Nat := cR (iV c) λ c => cR (iV c) λ c => cR (iV c) λ c => cR (iV c) λ c => cR (iV c) λ c => cR (iV c) λ c => cR (iV c) λ c => iV c
theorem bAY (c : Nat) : bAZ c = kJ 8 c := by
 unfold bAZ; simp only [aM]
 rfl
theorem rW {c : Nat} (h : c < 4294967296) : iV c < 4294967296 := by
 show (c / 2) ^^^ (bif Nat.beq (c % 2) 0 then 0 else 3988292384) < 4294967296; have h1 : c / 2 < 2 ^ 32 := by omega
 have h2 : (bif Nat.beq (c % 2) 0 then 0 else 3988292384) < 2 ^ 32 := by cases Nat.beq (c % 2) 0 <;> decide
 exact Nat.xor_lt_two_pow h1 h2
theorem aBj : ∀ (k c : Nat), c < 4294967296 -> kJ k c < 4294967296
 | 0, c, h => h
 | k + 1, c, h => aBj k _ (rW h)
@[simp] theorem jO {R : Type} (op : (DV -> H -> Option R) -> Option R) (h : H) (k : DV -> H -> Option R) : aJ (.bool false) false op h k = op k := id rfl
@[simp] theorem uP {R : Type} (op : (DV -> H -> Option R) -> Option R) (h : H) (k : DV -> H -> Option R) : aJ (.bool true) true op h k = op k := id rfl
@[simp] theorem aAJ {R : Type} (op : (DV -> H -> Option R) -> Option R) (h : H) (k : DV -> H -> Option R) : aJ (.bool true) false op h k = k (.tup []) h := id rfl
@[simp] theorem aGS {R : Type} (op : (DV -> H -> Option R) -> Option R) (h : H) (k : DV -> H -> Option R) : aJ (.bool false) true op h k = k (.tup []) h := id rfl
@[simp] theorem iL (a b : DV) : aH (.bool true) a b = some a := id rfl
@[simp] theorem eJ (a b : DV) : aH (.bool false) a b = some b := id rfl
theorem gI (b : Bool) : eN (.bool b) = some (.bool (!b)) := fR _
theorem vP (k : IntKind) (a b : Int) : cW (.int k a) (.int k b) = some (.bool (a != b)) := by
 show (bif kEq k k then aPu k a b else none) = _; rw [gJ]; show eH (!iEq a b) = _; rw [fR, oZ]; rfl
theorem mJ (k : IntKind) (a b : Int) : cF (.int k a) (.int k b) = some (.bool (a == b)) := by
 show (bif kEq k k then aPA k a b else none) = _; rw [gJ]; show eH (iEq a b) = _; rw [fR, oZ]
theorem mH (k : IntKind) (a b : Int) : mB (.int k a) (.int k b) = some (.int k (k.wrap (a * b))) := by
 show (bif kEq k k then aPv k a b else none) = _; rw [gJ]; show iO k (a * b) = _; rw [gP]
def iD (b : Nat) : DV := .int .u8 (.ofNat b)
def bV (s : Ln) : List DV := s.map iD
theorem nE : ∀ {s : Ln}, aP s = true -> jG (bV s) = some s
 | [], _ => rfl
 | b :: s, h => by
   simp only [aP, Bool.and_eq_true, Nat.blt_eq] at h; have hb : yJ (iD b) = some b := by
     show (bif Nat.blt b 256 then some b else none) = some b; rw [dK h.1]; rfl
   show (match yJ (iD b), jG (bV s) with
     | some b, some bs => some (b :: bs)
     | _, _ => none) = _
   rw [hb, nE h.2]
theorem xG (s : Ln) : (bV s).all DV.one = true := by
 rw [List.all_eq_true]; intro x hx; obtain ⟨b, _, rfl⟩ := List.mem_map.1 hx
 rfl
theorem mK {rd : Rd} {b : Nat} : ∀ (vs : List DV) (j : Nat), (∀ i v, vs[i]? = some v -> rdCell rd b (j + i) = some v) -> rdCells rd b j vs.length = some vs
 | [], j, _ => rfl
 | v :: vs, j, h => by
   simp only [List.length_cons, rdCells]; have h0 := h 0 v rfl; rw [Nat.add_zero] at h0; rw [h0, mK vs (j + 1) (λ i u hi => by rw [show j + 1 + i = j + (i + 1) from by omega]; exact h (i + 1) u hi)]
theorem uJ {rd : Rd} {b : Nat} : ∀ {n j : Nat} {vs : List DV}, rdCells rd b j n = some vs -> vs.length = n /\ ∀ i v, vs[i]? = some v -> rdCell rd b (j + i) = some v
 | 0, j, vs, h => by
   simp only [rdCells, Option.some.injEq] at h; subst h; exact ⟨rfl, λ i v hi => by simp at hi⟩
 | n + 1, j, vs, h => by
   simp only [rdCells] at h; split at h
   · rename_i v us h1 h2; cases h; obtain ⟨hl, hg⟩ := uJ h2; refine ⟨by simp [hl], λ i u hi => ?_⟩
     cases i with
     | zero => simp at hi; subst hi; exact h1
     | succ i => simp at hi; rw [show j + (i + 1) = j + 1 + i from by omega]; exact hg i u hi
   · cases h
theorem qB {h : H} {b o : Nat} {B : Blk} {vs : List DV} (hg : h.get b = some (.blk B)) (hr : B.ro = false) (hl : o + vs.length <= B.n) (h1 : vs.all DV.one = true) :
   ∃ h' t', eW vs h b o = some h' /\ h'.size = h.size /\ (∀ c, c ≠ b -> h'.get c = h.get c) /\ h'.get b = some (.blk { B with t := t' }) /\ ∀ j, t'.at_ j = if o <= j /\ j < o + vs.length then vs[j - o]? else B.t.at_ j := by
 cases vs with
 | nil => exact ⟨h, B.t, rfl, rfl, λ _ _ => rfl, hg, λ j => by rw [if_neg (by simp only [List.length_nil]; omega)]⟩
 | cons v vs =>
   refine ⟨_, aIO (v :: vs) o B.t, by rw [aAN (v :: vs) h b o B hg (by simp), if_pos ⟨by simp [hr], hl, h1⟩], by simp, λ c hc => by rw [H.get_put, if_neg hc], by rw [H.get_put, if_pos rfl], λ j => ?_⟩
   rw [aAC, Tr.at_ofF]
theorem oW {rd : Rd} {b j : Nat} {B : Blk} (h : rd b = some (.blk B)) (hj : j < B.n) : rdCell rd b j = B.t.at_ j := by
 unfold rdCell; rw [h]; simp only []; rw [if_pos hj]
theorem mZ {rd rd' : Rd} {b j : Nat} (h : rd' b = rd b) : rdCell rd' b j = rdCell rd b j := by unfold rdCell; rw [h]
theorem fS.or {P : Program} {f : FuncId} {F G : bC} (hF : fS P f F) (hG : fS P f G) : fS P f λ args h => Option.rec (motive := λ _ => Option (DV × H)) (G args h) some (F args h) := by
 intro N0 w0 m h w args args' v h' hr ht hw; cases hf : F args h with
 | some r =>
   have hr' : some r = some (v, h') := by rw [<- hr]; show _ = Option.rec (motive := λ _ => Option (DV × H)) (G args h) some (F args h); rw [hf]
   cases hr'; exact hF N0 w0 m h w args args' v h' hf ht hw
 | none =>
   have hr' : G args h = some (v, h') := by rw [<- hr]; show _ = Option.rec (motive := λ _ => Option (DV × H)) (G args h) some (F args h); rw [hf]
   exact hG N0 w0 m h w args args' v h' hr' ht hw
def aGK (s : Ln) : Bool := List.rec (motive := λ _ => Bool) true (λ b _ ih => bif Nat.blt b 256 then ih else false) s
theorem aAG : ∀ s, aGK s = aP s
 | [] => rfl
 | b :: s => by
   show (bif Nat.blt b 256 then aGK s else false) = (Nat.blt b 256 && aP s); rw [aAG s]; cases Nat.blt b 256 <;> rfl
def aTn {α : Type} (a b : List α) : List α := List.rec (motive := λ _ => List α) b (λ x _ ih => x :: ih) a
theorem aHq {α : Type} : ∀ a b : List α, aTn a b = a ++ b
 | [], b => rfl
 | x :: a, b => congrArg (x :: ·) (aHq a b)
def aMA (vs : List DV) : Option (Ln) := List.rec (motive := λ _ => Option (Ln)) (some []) (λ v _ ih => match v with
 | .str s => Option.rec (motive := λ _ => Option (Ln)) none (λ t => some (aTn s t)) ih
 | _ => none) vs
end Go.DI
namespace Go.DI
open Go.RowKit
def aHs (P : Program) (f : FuncId) (G : bC) : Prop :=
 ∀ (N0 : Nat) (w0 : World) (m : Mp) (h : H) (w : World) (args : List DV) (args' : List Value) (v : DV) (h' : H), G args h = some (v, h') -> trs m args = some args' -> bH N0 w0 m h w ->
   Calls P f args'.toArray w λ e w' => ∃ m' v', e = .panicked [{ v := v', recovered := false }] /\ tr m' v = some v' /\ bH N0 w0 m' h' w' /\ gV m h m' h'
section
variable {P : Program} {N0 : Nat} {w0 : World} {E : aQ}
theorem aCw {R : Type} {ops : Array Oper} {Q : Exit -> Act -> World -> Prop} {n : Nat} {ds : List Deferred} {res : R} (hE : gN P E) (tl : Ln) :
   ∀ (os : List Oper) (gs : List DG) (k : Nat), (∀ j, j < os.length -> os[j]? = ops[k + j]?) -> uY P n ops os gs = true ->
   ∀ (m : Mp) (ρ : Tr DV) (h : H) (a : Act) (w : World) (K : Tr DV -> H -> Option R), eF E gs ρ h K = some res -> eM m n ρ a -> bH N0 w0 m h w -> a.defers = ds ->
   (∀ ρ' h' m' a' w', gV m h m' h' -> eM m' n ρ' a' -> bH N0 w0 m' h' w' -> a'.defers = ds -> K ρ' h' = some res -> wpOps P ops Q tl a' w') ->
   wpOps P ops Q (List.range' k os.length ++ tl) a w := by
 intro os
 induction os with
 | nil =>
   intro gs k _ hc m ρ h a w K he hr hw hd hQ; cases gs with
   | nil => exact hQ ρ h m a w (gV.refl _ _) hr hw hd he
   | cons g gs => cases hc
 | cons o os ih =>
   intro gs k hk hc m ρ h a w K he hr hw hd hQ; cases gs with
   | nil => cases hc
   | cons g gs =>
     simp only [uY, Bool.and_eq_true] at hc; obtain ⟨hg, hc⟩ := hc; unfold aBT at hg; rw [Bool.and_eq_true, Bool.and_eq_true] at hg; obtain ⟨⟨hdst, hgd⟩, hop⟩ := hg; have ho : ops[k]? = some o := by have := hk 0 (by simp); simpa using this.symm
     have hk' : ∀ j, j < os.length -> os[j]? = ops[k + 1 + j]? := λ j hj => by
       have := hk (j + 1) (by simp only [List.length_cons]; omega)
       rw [show k + 1 + j = k + (j + 1) from by omega]
       simpa using this
     simp only [List.length_cons, List.range'_succ, List.cons_append, wpOps, ho]
     replace he : dN E g ρ h (λ ρ h => eF E gs ρ h K) = some res := he
     unfold dN at he; rw [aAt hr hgd]; cases hwt : cP ρ g.guard with
     | true =>
       rw [hwt] at he; simp only [cond_true] at he; simp only [if_true]; cases hod : odo E g.op ρ h with
       | none => rw [hod] at he; cases he
       | some x =>
         obtain ⟨v, h1⟩ := x; rw [hod] at he; simp only [Option.bind_some, kT] at he; refine .inl (aLS hE hop (hr.on _) hw hod λ m' w' v' e1 e2 e3 => ?_)
         exact ih gs (k + 1) hk' hc m' _ h1 _ w' K he ((hr.mono e3.le).put hdst e1) e2 (by rw [Act.put_defers']; exact hd)
           λ ρ' h' m'' a' w'' x1 x2 x3 x4 x5 => hQ ρ' h' m'' a' w'' (e3.trans x1) x2 x3 x4 x5
     | false =>
       rw [hwt] at he; simp only [cond_false, kT] at he; simp only [Bool.false_eq_true, if_false]; exact ih gs (k + 1) hk' hc m _ h _ w K he (hr.put hdst rfl) hw (by rw [Act.put_defers']; exact hd) hQ
inductive DP where
 | no
 | sl (p : DP)
 | sr (d : DC) (p : DP)
 | cd (c : aU) (p q : DP)
 | pan (l : List DG) (x : aU)
 | or (p q : DP)
def goN (E : aQ) (d : DC) (ρ : Tr DV) (h : H) : Option (Tr DV × H) := nB E d ρ h λ x ρ h => DX.rec (motive := λ _ => Option (Tr DV × H)) (some (ρ, h)) (λ _ => none) none x
def kM (E : aQ) (p : DP) : Tr DV -> H -> Option (DV × H) :=
 DP.rec (motive := λ _ => Tr DV -> H -> Option (DV × H)) (λ _ _ => none) (λ _ ih => ih) (λ d _ ih ρ h => (goN E d ρ h).bind λ x => ih x.1 x.2)
   (λ c _ _ ip iq ρ h => bK (ev ρ c) (ip ρ h) (iq ρ h)) (λ l x ρ h => eF E l ρ h λ ρ h => some (ev ρ x, h)) (λ _ _ ip iq ρ h => Option.rec (motive := λ _ => Option (DV × H)) (iq ρ h) some (ip ρ h)) p
def aAd (P : Program) (n : Nat) (ops : Array Oper) : List Oper -> List DG -> aU -> Bool
 | [o], [], x => (match o.op with
   | .panic y => aD y x
   | _ => false) && o.guard.isNone
 | o :: os, g :: gs, x => aBT P n ops o g && aAd P n ops os gs x
 | _, _, _ => false
def aAQ (P : Program) (n : Nat) : Code -> DP -> Bool
 | _, .no => true
 | .seq a b, .sl p => aAQ P n a p
 | .seq a b, .sr d p => dZ P n a d && aAQ P n b p
 | .cond c a b, .cd x p q => aD c x && aAQ P n a p && aAQ P n b q
 | c, .or p q => aAQ P n c p && aAQ P n c q
 | .region _ ops draw, .pan l x => !draw && aAd P n ops ops.toList l x
 | _, _ => false
theorem xF {n : Nat} {ops : Array Oper} {x : aU} : ∀ {os : List Oper} {gs : List DG}, aAd P n ops os gs x = true -> ∃ os' o y, os = os' ++ [o] /\ uY P n ops os' gs = true /\ o.op = .panic y /\ aD y x = true /\ o.guard = none
 | [], gs, h => by cases gs <;> cases h
 | [o], [], h => by
   simp only [aAd, Bool.and_eq_true] at h; obtain ⟨h1, h2⟩ := h; split at h1
   · rename_i y hy; exact ⟨[], o, y, rfl, rfl, hy, h1, by simpa using h2⟩
   · cases h1
 | o :: o2 :: os, [], h => by cases h
 | o :: os, g :: gs, h => by
   have h' : (aBT P n ops o g && aAd P n ops os gs x) = true := by cases os <;> exact h
   rw [Bool.and_eq_true] at h'; obtain ⟨os', o', y, h1, h2, h3⟩ := xF h'.2; exact ⟨o :: os', o', y, by rw [h1]; rfl, by simp only [uY, h'.1, h2, Bool.and_self], h3⟩
theorem aJd {n : Nat} {ds : List Deferred} {pv : DV} {hf : H} (hE : gN P E) : ∀ (p : DP) (c : Code), aAQ P n c p = true ->
   ∀ (m : Mp) (ρ : Tr DV) (h : H) (a : Act) (w : World) (Q : Exit -> Act -> World -> Prop), kM E p ρ h = some (pv, hf) -> eM m n ρ a -> bH N0 w0 m h w -> a.defers = ds ->
   (∀ m' pv' a' w', gV m h m' hf -> tr m' pv = some pv' -> bH N0 w0 m' hf w' -> a'.defers = ds -> Q (.panic [{ v := pv', recovered := false }]) a' w') ->
   (∃ t v, pv = .ifc t v) -> c.wp P Q a w := by
 intro p
 induction p with
 | no => intro c hc m ρ h a w Q he; cases he
 | sl p ih =>
   intro c hc m ρ h a w Q he hr hw hd hQ hi; cases c <;> first | (cases hc; done) | skip
   rename_i c1 c2; exact wp_seq (ih c1 hc m ρ h a w _ he hr hw hd hQ hi)
 | sr d p ih =>
   intro c hc m ρ h a w Q he hr hw hd hQ hi; cases c <;> first | (cases hc; done) | skip
   rename_i c1 c2; simp only [aAQ, Bool.and_eq_true] at hc
   replace he : (goN E d ρ h).bind (λ x => kM E p x.1 x.2) = some (pv, hf) := he
   cases hg : goN E d ρ h with
   | none => rw [hg] at he; cases he
   | some r =>
     obtain ⟨ρ1, h1⟩ := r; rw [hg] at he; simp only [Option.bind_some] at he; refine wp_seq (tF hE d c1 hc.1 m ρ h a w _ _ hg hr hw hd λ x ρ' h' m' a' w' x1 x2 x3 x4 x5 => ?_)
     cases x with
     | normal =>
       have x5 : some (ρ', h') = some (ρ1, h1) := x5; cases x5; exact ih c2 hc.2 m' ρ1 h1 a' w' Q he x2 x3 x4 (λ m'' pv' a'' w'' y1 y2 y3 y4 => hQ m'' pv' a'' w'' (x1.trans y1) y2 y3 y4) hi
     | exit i => cases x5
     | ret => cases x5
 | cd x p q ihp ihq =>
   intro c hc m ρ h a w Q he hr hw hd hQ hi; cases c <;> first | (cases hc; done) | skip
   rename_i c0 c1 c2; simp only [aAQ, Bool.and_eq_true] at hc
   replace he : bK (ev ρ x) (kM E p ρ h) (kM E q ρ h) = some (pv, hf) := he
   have hg := hr.on #[c0] c0 (by simp) x hc.1.1
   unfold bK at he; split at he
   · rename_i b hb; rw [hb] at hg; cases b
     · exact wp_cond_false (iJ hg) (ihq c2 hc.2 m ρ h a w Q he hr hw hd hQ hi)
     · exact wp_cond_true (iJ hg) (ihp c1 hc.1.2 m ρ h a w Q he hr hw hd hQ hi)
   · cases he
 | or p q ihp ihq =>
   intro c hc m ρ h a w Q he hr hw hd hQ hi; have hc' : (aAQ P n c p && aAQ P n c q) = true := by cases c <;> exact hc
   rw [Bool.and_eq_true] at hc'
   replace he : Option.rec (motive := λ _ => Option (DV × H)) (kM E q ρ h) some (kM E p ρ h) = some (pv, hf) := he
   cases hp : kM E p ρ h with
   | some r =>
     rw [hp] at he; have he : some r = some (pv, hf) := he; cases he; exact ihp c hc'.1 m ρ h a w Q hp hr hw hd hQ hi
   | none =>
     rw [hp] at he; exact ihq c hc'.2 m ρ h a w Q he hr hw hd hQ hi
 | pan l x =>
   intro c hc m ρ h a w Q he hr hw hd hQ hi; cases c <;> first | (cases hc; done) | skip
   rename_i id ops draw; simp only [aAQ, Bool.and_eq_true, Bool.not_eq_true'] at hc; obtain ⟨rfl, hc⟩ := hc; obtain ⟨os, o, y, e1, e2, e3, e4, e5⟩ := xF hc; refine wp_region ?_; have hsz : ops.size = os.length + 1 := by rw [<- Array.length_toList, e1]; simp
   rw [hsz, List.range_eq_range', List.range'_concat]; have hget : ∀ j, ops[j]? = (os ++ [o])[j]? := λ j => by rw [<- e1, Array.getElem?_toList]
   have hlast : ops[os.length]? = some o := by rw [hget, List.getElem?_append_right (Nat.le_refl _)]; simp
   rw [show 0 + 1 * os.length = os.length from by omega]
   replace he : eF E l ρ h (λ ρ h => some (ev ρ x, h)) = some (pv, hf) := he
   refine aCw hE [os.length] os l 0 (λ j hj => by rw [Nat.zero_add, hget, List.getElem?_append_left (by simpa using hj)]) e2 m ρ h a w _ he hr hw hd λ ρ' h' m' a' w' x1 x2 x3 x4 x5 => ?_
   simp only [Option.some.injEq, Prod.mk.injEq] at x5; obtain ⟨x5, rfl⟩ := x5; have hv := x2.on #[y] y (by simp) x e4
   rw [x5] at hv; obtain ⟨t, v, rfl⟩ := hi; simp only [wpOps, hlast]; have hwant : Region.wanted o (yielded ops a'.tmps) = true := by unfold Region.wanted; rw [e5]
   rw [hwant]; simp only [if_true]; refine .inl ?_; simp only [tr] at hv; cases hvv : tr m' v with
   | none => rw [hvv] at hv; cases hv
   | some v' =>
     rw [hvv] at hv; have hy : a'.eval y = .iface t v' := (Option.some.inj hv).symm; have hrun : (execOp a'.eval o).run P w' = .halt (.panic (.iface t v')) w' := by
       unfold execOp; rw [e3]; simp only [hy]
       rfl
     unfold Oper.wp; rw [hrun]; exact hQ m' _ a' w' x1 (by simp only [tr, hvv]) x3 x4
end
end Go.DI
namespace Go.DI
open Go.RowKit
section
variable {P : Program} {N0 : Nat} {w0 : World} {E : aQ}
structure PF where
 np : Nat
 n : Nat
 p : DP
def bEw : DV -> Bool
 | .ifc _ _ => true
 | _ => false
def bGG (E : aQ) (d : PF) : bC := λ args h => bif Nat.beq args.length d.np then (kM E d.p (Tr.ofL args) h).bind λ x => bif bEw x.1 then some x else none else none
def aWs (P : Program) (f : FuncId) (d : PF) : Bool := match P.funcs[f]? with
 | some fn => Nat.beq fn.ntmps d.n && Nat.ble d.np d.n && (match fn.body with
   | some c => aAQ P d.n c d.p
   | none => false)
 | none => false
theorem xT {m : Mp} {args : List DV} {args' : List Value} {n nt : Nat} (hargs : trs m args = some args') (hl : args.length <= n) (hn : nt = n) :
   eM m n (Tr.ofL args) { tmps := args'.toArray ++ Array.replicate (nt - args'.toArray.size) undef, defers := [] } := by
 have hlen := cU hargs; refine ⟨by simp; omega, λ t => ?_⟩
 show tr m (Option.rec (.tup []) (λ v => v) (Tr.get (Pa.of t) (Tr.ofL args))) = _
 rw [show Tr.get (Pa.of t) (Tr.ofL args) = (Tr.ofL args).at_ t from rfl, Tr.at_ofL]
 rw [Array.getD_eq_getD_getElem?]; by_cases ht : t < args.length
 · obtain ⟨u, h1, h2⟩ := iU hargs t _ (List.getElem?_eq_getElem ht); rw [List.getElem?_eq_getElem ht]; rw [Array.getElem?_append_left (by simp; omega)]
   simp only [List.getElem?_toArray, h1, Option.getD_some]; exact h2
 · rw [List.getElem?_eq_none (by omega)]
   rw [Array.getElem?_append_right (by simp; omega)]
   rw [Array.getElem?_replicate]; split <;> rfl
theorem aSY {f : FuncId} {d : PF} (hE : gN P E) (hc : aWs P f d = true) : aHs P f (bGG E d) := by
 intro N0 w0 m h w args args' v0 h' hrun hargs hw; unfold aWs at hc; cases hf : P.funcs[f]? with
 | none => rw [hf] at hc; cases hc
 | some fn =>
   rw [hf] at hc; simp only [Bool.and_eq_true] at hc; obtain ⟨⟨hn, hnp⟩, hbody⟩ := hc; cases hb : fn.body with
   | none => rw [hb] at hbody; cases hbody
   | some c =>
     rw [hb] at hbody; have hn := Nat.eq_of_beq_eq_true hn; have hnp := Nat.le_of_ble_eq_true hnp; unfold bGG at hrun; obtain ⟨hlen, hrun⟩ := aI hrun; have hlen := Nat.eq_of_beq_eq_true hlen; cases hp : kM E d.p (Tr.ofL args) h with
     | none => rw [hp] at hrun; cases hrun
     | some r =>
       rw [hp] at hrun; simp only [Option.bind_some] at hrun; obtain ⟨hi, hrun⟩ := aI hrun; cases hrun; refine calls_of_wp hf hb ?_; refine aJd (ds := []) hE d.p c hbody m _ h _ w _ hp (xT hargs (by omega) hn) hw rfl (λ m' pv' a' w' x1 x2 x3 x4 => ?_) ?_
       · exact ⟨x4, m', pv', rfl, x2, x3, x1⟩
       · cases v0 <;> first | (cases hi; done) | exact ⟨_, _, rfl⟩
section
variable {n : Nat} {ds : List Deferred} {ops : Array Oper} {m0 : Mp} {h0 : H} {σ pfx rest0 : List DR} {x : DR} {res : Tr DV × H} {Q : Exit -> Act -> World -> Prop}
theorem aCX (hσ0 : σ = pfx ++ x :: rest0) (S : wV P n ops σ) {pre rest : List DR} (hp : pfx = pre ++ rest) {kf : Nat -> Nat} {nw : Nat -> Bool} {listed : Array Bool} {m : Mp} {ρ : Tr DV} {h : H} {a : Act} {w : World}
   (I : Inv N0 w0 n ds ops m0 h0 pre kf nw listed m ρ h a w) : listed.getD x.i false = false := by
 cases hl : listed.getD x.i false with
 | false => rfl
 | true =>
   obtain ⟨y, hy, he⟩ := I.lp _ hl; exact absurd he (S.pair pfx (x :: rest0) hσ0 y (by rw [hp]; exact List.mem_append_left _ hy) x (by simp)).1
theorem aUz (hσ0 : σ = pfx ++ x :: rest0) (hpe : ∀ y ∈ pfx, y.isW = false) (hxw : x.isW = true) (S : wV P n ops σ) (hre : ∀ x ∈ σ, x.isW = false -> x.re = [])
   (hP : ∀ kf nw listed m' ρ' h' a' w', Inv N0 w0 n ds ops m0 h0 pfx kf nw listed m' ρ' h' a' w' -> (ρ', h') = res -> (∀ o, ops[x.i]? = some o -> ∀ d ∈ pN o, listed.getD d false = true) -> ∀ C, wpOp P ops Q x.i C a' w')
   {z : DR} (hz : z ∈ σ) {o : Oper} (ho : ops[z.i]? = some o) {listed : Array Bool} {a : Act} {w : World} (hun : listed.getD z.i false = false) (hr : ∀ d ∈ pN o, listed.getD d false = true) {C : Act -> World -> Prop}
   (hK : ∀ pre' rest' kf' nw' m' ρ' h' a' w', pfx = pre' ++ rest' -> Inv N0 w0 n ds ops m0 h0 pre' kf' nw' (listed.setIfInBounds z.i true) m' ρ' h' a' w' -> dW E rest' pre'.reverse ρ' h' (λ ρ h => some (ρ, h)) = some res -> C a' w') :
   ∀ (rest pre : List DR) (kf : Nat -> Nat) (nw : Nat -> Bool) (m : Mp) (ρ : Tr DV) (h : H), pfx = pre ++ rest -> Inv N0 w0 n ds ops m0 h0 pre kf nw listed m ρ h a w -> dW E rest pre.reverse ρ h (λ ρ h => some (ρ, h)) = some res -> wpOp P ops Q z.i C a w := by
 intro rest
 induction rest with
 | nil =>
   intro pre kf nw m ρ h hp I he; have hp' : pfx = pre := by rw [hp]; simp
   rw [hσ0] at hz; rcases List.mem_append.1 hz with hzp | hzr
   · rw [hp'] at hzp; exact I.ahead (rest := x :: rest0) (by rw [hσ0, hp']) S hzp ho hun hr λ m' a' w' I' => hK pre [] kf nw m' ρ h a' w' hp I' he
   · rcases List.mem_cons.1 hzr with rfl | hzr
     · have he : some (ρ, h) = some res := he; rw [<- hp'] at I; exact hP kf nw listed m ρ h a w I (Option.some.inj he) (λ o' ho' => by rw [ho] at ho'; cases ho'; exact hr) C
     · have hanc := (S.pair (pfx ++ [x]) rest0 (by rw [hσ0]; simp) x (by simp) z hzr).2.2.2.2.2.1 hxw
       have := pJ I.cl hanc (λ o' ho' => by rw [ho] at ho'; cases ho'; exact hr)
       rw [aCX hσ0 S hp I] at this; cases this
 | cons y rest ih =>
   intro pre kf nw m ρ h hp I he; have hσ : σ = pre ++ y :: (rest ++ x :: rest0) := by rw [hσ0, hp]; simp
   have hyw : y.isW = false := hpe y (by rw [hp]; simp)
   have adv : wpOp P ops Q z.i C a w := by
     have he' : dN E y.g ρ h (λ ρ h => bif y.re.all (dY pre.reverse ρ h) then dW E rest (y :: pre.reverse) ρ h (λ ρ h => some (ρ, h)) else none) = some res := he
     obtain ⟨ρ', h', kf', nw', I', _, he'⟩ := I.eager hσ S hyw he'; rw [hre y (by rw [hσ]; simp) hyw] at he'
     refine ih (pre ++ [y]) kf' nw' m ρ' h' (by rw [hp]; simp) I' ?_
     rw [show (pre ++ [y]).reverse = y :: pre.reverse from by simp]
     simpa using he'
   have hz' := hz; rw [hσ] at hz'; rcases List.mem_append.1 hz' with hzp | _
   · exact I.ahead (rest := y :: (rest ++ x :: rest0)) hσ S hzp ho hun hr λ m' a' w' I' => hK pre (y :: rest) kf nw m' ρ h a' w' hp I' he
   · exact adv
theorem bGQ (hσ0 : σ = pfx ++ x :: rest0) (hpe : ∀ y ∈ pfx, y.isW = false) (hxw : x.isW = true) (S : wV P n ops σ) (hre : ∀ x ∈ σ, x.isW = false -> x.re = [])
   (hP : ∀ kf nw listed m' ρ' h' a' w', Inv N0 w0 n ds ops m0 h0 pfx kf nw listed m' ρ' h' a' w' -> (ρ', h') = res -> (∀ o, ops[x.i]? = some o -> ∀ d ∈ pN o, listed.getD d false = true) -> ∀ C, wpOp P ops Q x.i C a' w') :
   ∀ (fuel : Nat) (listed : Array Bool) (pre rest : List DR) (kf : Nat -> Nat) (nw : Nat -> Bool) (m : Mp) (ρ : Tr DV) (h : H) (a : Act) (w : World), left listed <= fuel -> pfx = pre ++ rest -> Inv N0 w0 n ds ops m0 h0 pre kf nw listed m ρ h a w ->
   dW E rest pre.reverse ρ h (λ ρ h => some (ρ, h)) = some res -> wpAny P .any ops Q fuel listed a w := by
 have hxs : x.i < ops.size := by
   obtain ⟨o, ho, _⟩ := S.chk x (by rw [hσ0]; simp)
   exact (Array.getElem?_eq_some_iff.1 ho).1
 have no : ∀ (listed : Array Bool) (pre rest : List DR) (kf : Nat -> Nat) (nw : Nat -> Bool) (m : Mp) (ρ : Tr DV) (h : H) (a : Act) (w : World), (∀ i, i < ops.size -> listed.getD i false = true) -> pfx = pre ++ rest -> Inv N0 w0 n ds ops m0 h0 pre kf nw listed m ρ h a w -> False := by
   intro listed pre rest kf nw m ρ h a w hall hp I; have := hall x.i hxs; rw [aCX hσ0 S hp I] at this; cases this
 intro fuel
 induction fuel with
 | zero =>
   intro listed pre rest kf nw m ρ h a w hf hp I he; exact (no listed pre rest kf nw m ρ h a w (λ i hi => aFr (by omega) i (by rw [I.size]; exact hi)) hp I).elim
 | succ fuel ih =>
   intro listed pre rest kf nw m ρ h a w hf hp I he; refine ⟨λ hnil => (no listed pre rest kf nw m ρ h a w (aFi S I.size hnil) hp I).elim, λ i hi => ?_⟩
   rw [sH I.size] at hi; obtain ⟨hi, hun, hr⟩ := hi; obtain ⟨z, hz, rfl⟩ := S.cover i hi; have ho := Array.getElem?_eq_getElem hi; have hlt : z.i < listed.size := by rw [I.size]; exact hi
   have := aJn hlt hun; exact aUz hσ0 hpe hxw S hre hP hz ho hun (hr _ ho) (λ pre' rest' kf' nw' m' ρ' h' a' w' hp' I' he' => ih _ pre' rest' kf' nw' m' ρ' h' a' w' (by omega) hp' I' he') rest pre kf nw m ρ h hp I he
theorem aLN {id f : Nat} {args : List aU} {G : bC} {pv : DV} {hf : H} (hG : aHs P f G) (hcl : iC P f = true) (hc : aDT P n ops σ = true) (hσ0 : σ = pfx ++ x :: rest0) (hpe : ∀ y ∈ pfx, y.isW = false)
   (hx : x.g.guard = none) (hxo : x.g.op = .c (.f f args)) {m : Mp} {ρ : Tr DV} {h : H} {a : Act} {w : World} (he : dW E pfx [] ρ h (λ ρ h => some (ρ, h)) = some res) (hg : G (args.map (ev res.1)) res.2 = some (pv, hf))
   (hr : eM m n ρ a) (hw : bH N0 w0 m h w) (hd : a.defers = ds)
   (hQ : ∀ m' pv' a' w', gV m h m' hf -> tr m' pv = some pv' -> (∀ t, (∀ y ∈ pfx, y.g.dst ≠ some (Pa.of t)) -> tr m' (ev res.1 (.r (Pa.of t))) = some (a'.tmps.getD t undef)) -> a'.tmps.size = n -> bH N0 w0 m' hf w' -> a'.defers = ds -> Q (.panic [{ v := pv', recovered := false }]) a' w') :
   (Code.region id ops true).wp P Q a w := by
 obtain ⟨hm, S, hre⟩ := aOd hc; have hxw : x.isW = true := by unfold DR.isW; rw [hxo]; simp [DOp.isW]
 refine wp_region_any hm ?_; have hz : ∀ i, (Array.replicate ops.size false).getD i false = false := λ i => by
   rw [Array.getD_eq_getD_getElem?, Array.getElem?_replicate]; split <;> rfl
 refine bGQ (N0 := N0) (w0 := w0) (ds := ds) (m0 := m) (h0 := h) (res := res) hσ0 hpe hxw S hre ?_ ops.size _ [] pfx (λ _ => 0) (λ _ => false) m ρ h a _ ?_ rfl ?_ he
 · intro kf nw listed m' ρ' h' a' w' I hres hdeps C; have hxσ : x ∈ σ := by rw [hσ0]; simp
   obtain ⟨o, ho, hg'⟩ := S.chk x hxσ; unfold aBT at hg'; rw [Bool.and_eq_true, Bool.and_eq_true] at hg'; obtain ⟨⟨hd', hgd⟩, hop⟩ := hg'; have hlook := I.looks hσ0 S hxσ ho (hdeps o ho) (.inr ⟨rest0, rfl⟩); have hwt := xK hgd hlook; have hρ := aAD hlook; unfold wpOp; rw [ho]; simp only []; rw [hwt, hx]; simp only [cP, if_true]; rw [hxo] at hop
   replace hop : aWv P o (.f f args) = true := hop
   unfold aWv at hop; split at hop
   · rename_i c f' args2 hoc heq; cases heq; rw [Bool.and_eq_true] at hop; obtain ⟨h1, h2⟩ := hop; split at h1
     · rename_i g hce; have h3 := Nat.eq_of_beq_eq_true h1; subst h3; have hta := tH hρ (λ x hx => by simp only [hoc, Op.operands, Call.operands]; simp only [Array.mem_append]; exact .inr (by simpa using hx)) h2
       cases hres; refine .inl ?_; unfold Oper.wp; rw [aHn hoc hce (first := #[]) (captured := #[]) rfl hcl w']
       simp only [Oper.upon_enter]; have hcall := hG N0 w0 m' h' w' _ _ pv hf hg hta I.rel; have hargs : (#[] ++ c.args.map a'.eval ++ #[] : Array Value) = (c.args.toList.map a'.eval).toArray := by apply Array.ext'; simp
       rw [hargs]; refine hcall.mono λ e w'' hh => ?_
       obtain ⟨m'', v', rfl, e2, e3, e4⟩ := hh; exact hQ m'' v' a' w'' (I.ext.trans e4) e2 (λ t ht => fH e4.le _ _ (I.regs t λ y hy _ => ht y hy)) I.tm e3 I.dsr
     · cases h1
   all_goals
     first
       | (rename_i heq; cases heq; done)
       | cases hop
 · unfold left; refine Nat.le_trans List.countP_le_length ?_; simp
 · refine ⟨by simp, λ i hi => ?_, λ i o hi => ?_, λ x hx => ?_, hw.drewN, hd, hr.size, λ t _ => hr.regs t, λ x hx => ?_, λ x hx => ?_, gV.refl _ _, λ x hx => ?_⟩
   · rw [hz] at hi; cases hi
   · rw [hz] at hi; cases hi
   all_goals simp at hx
end
end
end Go.DI
namespace Go.DI
open Go.RowKit
structure CF where
 f : Nat
 n : Nat
 nc : Nat
 rt : Pa
 at_ : Pa
 c : DC
def aAP (E : aQ) (C : CF) (capt : List DV) (rv : DV) (h : H) : Option H := bif Nat.beq capt.length C.nc then
 nB E C.c (Tr.set rv C.at_ (Tr.set rv C.rt (Tr.ofL capt))) h (λ x ρ h => DX.rec (motive := λ _ => Option H) (some h) (λ _ => none) (some h) x) else none
def aUZ (o : Oper) : Bool := match o.op with
 | .call c => (match c.callee with
   | .builtin .recover => true
   | _ => false)
 | _ => false
def bEx (o : Oper) (d : Option Tmp) : Bool := match o.op, d with
 | .assign (.tmp t), some u => Nat.beq t u
 | _, _ => false
def aBJ (P : Program) (C : CF) : Bool := iC P C.f && (match P.funcs[C.f]? with
 | some fn => Nat.beq fn.ntmps C.n && Nat.ble C.nc C.n && fn.results.toList.isEmpty && (match fn.body with
   | some (.seq (.region _ ops draw) rest) => !draw && (match ops.toList with
     | [o1, o2] => aUZ o1 && mQ C.n o1.dst (some C.rt) && o1.guard.isNone && bEx o2 o1.dst && mQ C.n o2.dst (some C.at_) && o2.guard.isNone
     | _ => false) && dZ P C.n rest C.c
   | _ => false)
 | none => false)
section
variable {P : Program} {N0 : Nat} {w0 : World} {E : aQ}
theorem aBq {o : Oper} (h : aUZ o = true) (ρ : Operand -> Value) (w : World) : (execOp ρ o).run P w = .ok .recover w := by
 unfold aUZ at h; split at h
 · rename_i c hc; split at h
   · rename_i hb; unfold execOp; rw [hc]; simp only [Sem.run_bind, resolve, hb, Sem.run_pure, Result.andThen_ok, invoke, builtin]
   · cases h
 · cases h
def aYp (m : Mp) (u u' : FrameMode) (rv : DV) : Prop :=
 (u = .returning /\ u' = u /\ rv = .nili) \/ (∃ v, tr m rv = some v /\ u = .panicking [{ v := v, recovered := false }] /\ u' = .panicking [{ v := v, recovered := true }])
theorem aWr (hE : gN P E) {C : CF} (hc : aBJ P C = true) {m : Mp} {capt : List DV} {capt' : List Value} {rv : DV} {h h' : H} {w : World} {u u' : FrameMode} (hrun : aAP E C capt rv h = some h') (hcap : trs m capt = some capt') (hw : bH N0 w0 m h w)
   (hu : aYp m u u' rv) : CallsD P C.f capt'.toArray u w λ e u2 w' => ∃ m' v, e = .returned v /\ u2 = u' /\ bH N0 w0 m' h' w' /\ gV m h m' h' := by
 unfold aBJ at hc; rw [Bool.and_eq_true] at hc; obtain ⟨hcl, hc⟩ := hc; cases hf : P.funcs[C.f]? with
 | none => rw [hf] at hc; cases hc
 | some fn =>
   rw [hf] at hc; simp only [Bool.and_eq_true] at hc; obtain ⟨⟨⟨hn, hnc⟩, hres⟩, hbody⟩ := hc; have hn := Nat.eq_of_beq_eq_true hn; have hnc := Nat.le_of_ble_eq_true hnc; split at hbody
   rotate_left
   · cases hbody
   rename_i id ops draw rest hb; simp only [Bool.and_eq_true, Bool.not_eq_true'] at hbody; obtain ⟨⟨rfl, hops⟩, hrest⟩ := hbody; split at hops
   rotate_left
   · cases hops
   rename_i o1 o2 hl; simp only [Bool.and_eq_true] at hops; obtain ⟨⟨⟨⟨⟨h1, h2⟩, h3⟩, h4⟩, h5⟩, h6⟩ := hops; unfold aAP at hrun; obtain ⟨hcl2, hrun⟩ := aI hrun; have hcl2 := Nat.eq_of_beq_eq_true hcl2; refine callsD_of_wpS hf hb λ c₀ cs hmode => wpS_seq (wpS_region ?_)
   have hsz : ops.size = 2 := by rw [<- Array.length_toList, hl]; rfl
   have g0 : ops[0]? = some o1 := by rw [<- Array.getElem?_toList, hl]; rfl
   have g1 : ops[1]? = some o2 := by rw [<- Array.getElem?_toList, hl]; rfl
   have hreg := xT hcap (show capt.length <= C.n by omega) hn
   obtain ⟨rv', hrv, hrec⟩ : ∃ rv', tr m rv = some rv' /\ wpOpsS P ops (Exit.thenS (rest.wpS P (bodyPostS P fn c₀ cs λ e u2 w' => ∃ m' v, e = .returned v /\ u2 = u' /\ bH N0 w0 m' h' w' /\ gV m h m' h')) (bodyPostS P fn c₀ cs λ e u2 w' => ∃ m' v, e = .returned v /\ u2 = u' /\ bH N0 w0 m' h' w' /\ gV m h m' h')) (List.range ops.size)
       { tmps := capt'.toArray ++ Array.replicate (fn.ntmps - capt'.toArray.size) undef, defers := [] } (c₀ :: cs) w = wpOpsS P ops (Exit.thenS (rest.wpS P (bodyPostS P fn c₀ cs λ e u2 w' => ∃ m' v, e = .returned v /\ u2 = u' /\ bH N0 w0 m' h' w' /\ gV m h m' h')) (bodyPostS P fn c₀ cs λ e u2 w' => ∃ m' v, e = .returned v /\ u2 = u' /\ bH N0 w0 m' h' w' /\ gV m h m' h')) [1]
       (Act.put { tmps := capt'.toArray ++ Array.replicate (fn.ntmps - capt'.toArray.size) undef, defers := [] } o1.dst rv') ({ c₀ with mode := u' } :: cs) w := by
     have hwant : ∀ y, Region.wanted o1 y = true := λ y => by unfold Region.wanted; rw [show o1.guard = none from by simpa using h3]
     rcases hu with ⟨rfl, rfl, rfl⟩ | ⟨v, hv, rfl, rfl⟩
     · refine ⟨.nilIface, rfl, ?_⟩; rw [hsz, show List.range 2 = [0, 1] from rfl, wpOpsS, g0]
       simp only [hwant, if_true, aBq h1]; have hr0 : recoverD (c₀ :: cs) = none := by simp only [recoverD, hmode]
       simp only [hr0]; have : ({ c₀ with mode := FrameMode.returning } : Frame) = c₀ := by rw [<- hmode]
       rw [this]
     · refine ⟨v, hv, ?_⟩; rw [hsz, show List.range 2 = [0, 1] from rfl, wpOpsS, g0]
       simp only [hwant, if_true, aBq h1]; have hr0 : recoverD (c₀ :: cs) = some (v, { c₀ with mode := .panicking [{ v := v, recovered := true }] } :: cs) := by simp only [recoverD, hmode]
       simp only [hr0]
   rw [hrec]; have hreg1 := hreg.put (dst := o1.dst) (dst' := some C.rt) h2 hrv; have hwant2 : ∀ y, Region.wanted o2 y = true := λ y => by unfold Region.wanted; rw [show o2.guard = none from by simpa using h6]
   unfold bEx at h4; split at h4
   rotate_left
   · cases h4
   rename_i t u0 hop hd1; have h4 := Nat.eq_of_beq_eq_true h4; subst h4; have hev : (Act.put { tmps := capt'.toArray ++ Array.replicate (fn.ntmps - capt'.toArray.size) undef, defers := [] } o1.dst rv').eval (.tmp t) = rv' := by
     have hq : mQ C.n (some t) (some C.rt) = true := by rw [<- hd1]; exact h2
     unfold mQ at hq; rw [Bool.and_eq_true] at hq; have hp := fX hq.2; have := hreg1.regs t; simp only [qZ] at this; rw [pA, if_pos hp, hrv] at this; exact (Option.some.inj this).symm
   rw [wpOpsS, g1]; simp only [hwant2, if_true]; have hex : (execOp (Act.put { tmps := capt'.toArray ++ Array.replicate (fn.ntmps - capt'.toArray.size) undef, defers := [] } o1.dst rv').eval o2).run P w = .ok (.value rv') w := by
     unfold execOp; rw [hop]; simp only [hev]; rfl
   simp only [hex, Oper.upon_value, wpOpsS]; show rest.wpS P _ _ _ _; have hreg2 := hreg1.put (dst := o2.dst) (dst' := some C.at_) h5 hrv; refine wpS_of_wp (tF (ds := []) hE C.c rest hrest m _ h _ w _ _ hrun hreg2 hw ?_ λ x ρ' h1 m' a' w' x1 x2 x3 x4 x5 => ?_)
   · rw [Act.put_defers', Act.put_defers']
   · have fin : some h1 = some h' -> bodyPostS P fn c₀ cs (λ e u2 w' => ∃ m' v, e = .returned v /\ u2 = u' /\ bH N0 w0 m' h' w' /\ gV m h m' h') .normal a' ({ c₀ with mode := u' } :: cs) w' := by
       intro hh; cases hh; have hr0 : fn.results = #[] := by
         have : fn.results.toList = [] := by simpa using hres
         apply Array.ext'; simpa using this
       exact ⟨x4, u', rfl, .tuple #[], by rw [xS, hr0]; simp, m', _, rfl, rfl, x3, x1⟩
     cases x with
     | normal => exact fin x5
     | exit i => cases x5
     | ret => exact fin x5
end
structure GF where
 np : Nat
 n : Nat
 lA : List DG
 gB : DG
 clo : Pa
 pfx : List DR
 xi : Nat
 xd : Option Pa
 fs : Nat
 as : List aU
 xre : Ln
 xsy : Bool
 rest : List DR
 res : List RV
def GF.x (G : GF) : DR := ⟨G.xi, ⟨G.xd, none, .c (.f G.fs G.as)⟩, G.xre, G.xsy⟩
def GF.σ (G : GF) : List DR := G.pfx ++ G.x :: G.rest
def qK (E : aQ) (G : GF) (args : List DV) (h : H) : Option (Tr DV × H) := bif Nat.beq args.length G.np then
 eF E G.lA (Tr.ofL args) h λ ρ h => dN E G.gB ρ h λ ρ h => some (ρ, h) else none
def aBY (C : CF) (v : DV) (k : List DV -> Option (DV × H)) : Option (DV × H) := match v with
 | .fn (.func g) [] cap => bif Nat.beq g C.f then k cap else none
 | _ => none
def xC (E : aQ) (G : GF) (C : CF) : bC := λ args h => (qK E G args h).bind λ s => (dW E G.σ [] s.1 s.2 λ ρ h => some (ρ, h)).bind λ t =>
 aBY C (ev s.1 (.r G.clo)) λ cap => (aAP E C cap .nili t.2).bind λ h' => (eO t.1 h' G.res).map λ vs => (iQ vs, h')
def aSS (E : aQ) (St : bC) (G : GF) (C : CF) : bC := λ args h => (qK E G args h).bind λ s => (dW E G.pfx [] s.1 s.2 λ ρ h => some (ρ, h)).bind λ t =>
 (St (G.as.map (ev t.1)) t.2).bind λ r => aBY C (ev s.1 (.r G.clo)) λ cap => (aAP E C cap r.1 r.2).bind λ h' => (eO t.1 h' G.res).map λ vs => (iQ vs, h')
def aUr (G : GF) : ResultVar -> Bool
 | .cell a _ => G.pfx.all λ y => !wF y.g.dst (some (Pa.of a))
 | _ => false
def aOI (o : Oper) (p : Pa) : Bool := match o.op with
 | .defer c => (match c.callee with
   | .value (.tmp t) => sQ (Pa.of t) p && c.args.toList.isEmpty
   | _ => false)
 | _ => false
def aDR (P : Program) (f : FuncId) (G : GF) : Bool := iC P G.fs && (match P.funcs[f]? with
 | some fn => Nat.beq fn.ntmps G.n && Nat.ble G.np G.n && oF (aEN P) fn.results.toList G.res && fn.results.toList.all (aUr G) && (match fn.body with
   | some (.seq (.region _ opsA drawA) (.seq (.region _ opsB drawB) (.seq (.region _ opsD drawD) .ret))) =>
     !drawA && !drawB && drawD && uY P G.n opsA opsA.toList G.lA && (match opsB.toList with
       | [o1, o2] => aBT P G.n opsB o1 G.gB && aOI o2 G.clo && o2.dst.isNone && o2.guard.isNone
       | _ => false) && aDT P G.n opsD G.σ && G.pfx.all (λ y => !y.isW)
   | _ => false)
 | none => false)
section
variable {P : Program} {N0 : Nat} {w0 : World} {E : aQ}
theorem aIT {m : Mp} {h : H} {w : World} {ρ : Tr DV} {a : Act} {n : Nat} (hw : bH N0 w0 m h w) : ∀ {xs : List ResultVar} {rs : List RV} {vs : List DV}, (∀ x ∈ xs, ∃ c t, x = .cell c t /\ tr m (ev ρ (.r (Pa.of c))) = some (a.tmps.getD c undef)) ->
   oF (aEN P) xs rs = true -> eO ρ h rs = some vs -> ∃ vs', (xs.mapM (zE a.tmps)).run P w = .ok vs' w /\ trs m vs = some vs'
 | [], [], vs, _, _, hv => by
   simp only [eO, Option.some.injEq] at hv; subst hv; exact ⟨[], rfl, rfl⟩
 | x :: xs, r :: rs, vs, hx, hc, hv => by
   simp only [oF, Bool.and_eq_true] at hc; simp only [eO] at hv; split at hv
   · rename_i v us h1 h2; cases hv; obtain ⟨us', r2, t2⟩ := aIT (n := n) hw (λ x hx' => hx x (List.mem_cons_of_mem _ hx')) hc.2 h2
     obtain ⟨c, t, rfl, hreg⟩ := hx x (by simp)
     have key : ∃ v', (zE a.tmps (.cell c t)).run P w = .ok v' w /\ tr m v = some v' := by
       have hc1 := hc.1; unfold aEN at hc1; split at hc1
       · rename_i he; cases he
       · rename_i a1 t1 p1 he; cases he; rw [Bool.and_eq_true] at hc1; have := fX hc1.1; subst this; simp only [tQ] at h1; split at h1
         · rename_i b o e1; rw [e1] at hreg; obtain ⟨i, hi, e2⟩ := fP hreg; obtain ⟨v', hc', ht⟩ := hw.rdCell hi h1; refine ⟨v', ?_, ht⟩; simp [zE, e2, asAddr, loadVar, dL hc1.2, hc']
         · cases h1
       · rename_i a1 t1 p1 n' he; cases he; rw [Bool.and_eq_true, Bool.and_eq_true] at hc1; have := fX hc1.1.1; subst this; simp only [tQ] at h1; split at h1
         · rename_i b o e1; rw [e1] at hreg; obtain ⟨i, hi, e2⟩ := fP hreg; cases hvs : rdCells h.get b o n' with
           | none => rw [hvs] at h1; cases h1
           | some vs =>
             rw [hvs] at h1; cases h1; obtain ⟨vs', ht, hl, hc'⟩ := hw.rdCells hi hvs; refine ⟨.agg vs'.toArray, ?_, by simp only [tr, ht]⟩
             simp [zE, e2, asAddr, loadVar, dL hc1.1.2, cE hc1.2, eT hl hc']
         · cases h1
       · cases hc1
     obtain ⟨v', r1, t1⟩ := key; exact ⟨v' :: us', by simp only [List.mapM_cons, Sem.run_bind, r1, r2, Result.andThen_ok, Sem.run_pure], dB.2 ⟨_, _, t1, t2, rfl⟩⟩
   · cases hv
 | [], _ :: _, _, _, hc, _ => by cases hc
 | _ :: _, [], _, _, hc, _ => by cases hc
theorem aGD {m : Mp} {h : H} {w : World} {ρ : Tr DV} {a : Act} {fn : Func} {rs : List RV} {vs : List DV} (hw : bH N0 w0 m h w) (hx : ∀ x ∈ fn.results.toList, ∃ c t, x = .cell c t /\ tr m (ev ρ (.r (Pa.of c))) = some (a.tmps.getD c undef))
   (hc : oF (aEN P) fn.results.toList rs = true) (hv : eO ρ h rs = some vs) : ∃ v', (results fn a.tmps).run P w = .ok v' w /\ tr m (iQ vs) = some v' := by
 obtain ⟨vs', r1, t1⟩ := aIT (n := 0) hw hx hc hv; rw [xS, Array.mapM_eq_mapM_toList]; simp only [Sem.run_bind, Sem.run_map, r1, Result.andThen_ok, Sem.run_pure]; refine ⟨_, rfl, ?_⟩; have hl := cU t1
 match vs, vs', t1 with
 | [], vs', t1 =>
   simp only [trs, Option.some.injEq] at t1; subst t1; simp [iQ, tr, trs]
 | [v], vs', t1 =>
   obtain ⟨u, us, h1, h2, rfl⟩ := dB.1 t1; simp only [trs, Option.some.injEq] at h2; subst h2
   simpa [iQ] using h1
 | v :: v2 :: vs, vs', t1 =>
   have hl := cU t1; simp only [iQ, tr, t1]; rw [dif_neg (by simp [hl])]
theorem yR {C : CF} {v : DV} {k : List DV -> Option (DV × H)} {r : DV × H} (h : aBY C v k = some r) : ∃ cap, v = .fn (.func C.f) [] cap /\ k cap = some r := by
 unfold aBY at h; split at h
 · obtain ⟨h1, h2⟩ := aI h; rw [Nat.eq_of_beq_eq_true h1]; exact ⟨_, rfl, h2⟩
 · cases h
theorem aJt (hE : gN P E) {f : FuncId} {G : GF} (hc : aDR P f G = true) {m : Mp} {h : H} {w : World} {args : List DV} {args' : List Value} {s : Tr DV × H} {R : Ending -> World -> Prop}
   (hs : qK E G args h = some s) {C : CF} {cap : List DV} (hclo : ev s.1 (.r G.clo) = .fn (.func C.f) [] cap) (hargs : trs m args = some args') (hw : bH N0 w0 m h w)
   (hD : ∀ fn id ops m' a' w' cap' d, P.funcs[f]? = some fn -> aDT P G.n ops G.σ = true -> gV m h m' s.2 -> eM m' G.n s.1 a' -> bH N0 w0 m' s.2 w' -> trs m' cap = some cap' -> d = ({ target := .fn (.func C.f) cap'.toArray, args := #[] } : Deferred) -> a'.defers = [d] ->
     oF (aEN P) fn.results.toList G.res = true -> (∀ x ∈ fn.results.toList, aUr G x = true) -> (∀ y ∈ G.pfx, y.isW = false) ->
     (Code.region id ops true).wp P (Exit.then (λ a w => Code.ret.wp P (bodyPostD P fn R) a w) (bodyPostD P fn R)) a' w') :
   Calls P f args'.toArray w R := by
 unfold aDR at hc; rw [Bool.and_eq_true] at hc; obtain ⟨hcal, hc⟩ := hc; cases hf : P.funcs[f]? with
 | none => rw [hf] at hc; cases hc
 | some fn =>
   rw [hf] at hc; simp only [Bool.and_eq_true] at hc; obtain ⟨⟨⟨⟨hn, hnp⟩, hres⟩, hrok⟩, hbody⟩ := hc; have hn := Nat.eq_of_beq_eq_true hn; have hnp := Nat.le_of_ble_eq_true hnp; split at hbody
   rotate_left
   · cases hbody
   rename_i ia opsA drawA ib opsB drawB id opsD drawD hb; simp only [Bool.and_eq_true, Bool.not_eq_true'] at hbody; obtain ⟨⟨⟨⟨⟨⟨rfl, rfl⟩, rfl⟩, hA⟩, hB⟩, hDr⟩, hpfx⟩ := hbody; split at hB
   rotate_left
   · cases hB
   rename_i o1 o2 hl; simp only [Bool.and_eq_true] at hB; obtain ⟨⟨⟨hg, hdf⟩, hd0⟩, hgd⟩ := hB; have hd0 : o2.dst = none := by simpa using hd0
   have hgd : o2.guard = none := by simpa using hgd
   unfold qK at hs; obtain ⟨hlen, hs⟩ := aI hs; have hlen := Nat.eq_of_beq_eq_true hlen; refine calls_of_wp_defers hf hb (wp_seq ?_); have hcA : dZ P G.n (.region ia opsA false) (.reg G.lA) = true := by simp only [dZ, hA]; rfl
   refine tF (ds := []) (R := Tr DV × H) hE (.reg G.lA) _ hcA m _ h _ w (λ x ρ h => DX.rec (motive := λ _ => Option (Tr DV × H)) (dN E G.gB ρ h λ ρ h => some (ρ, h)) (λ _ => none) none x) _ hs (xT hargs (by omega) hn) hw rfl λ x ρ1 h1 m1 a1 w1 x1 x2 x3 x4 x5 => ?_
   cases x with
   | exit i => cases x5
   | ret => cases x5
   | normal =>
     refine wp_seq (wp_region ?_); have hsz : opsB.size = 2 := by rw [<- Array.length_toList, hl]; rfl
     have g0 : opsB[0]? = some o1 := by rw [<- Array.getElem?_toList, hl]; rfl
     have g1 : opsB[1]? = some o2 := by rw [<- Array.getElem?_toList, hl]; rfl
     rw [hsz, show List.range 2 = List.range' 0 [o1].length ++ [1] from rfl]
     refine aCw hE [1] [o1] [G.gB] 0 (λ j hj => by
       have : j = 0 := by simp only [List.length_cons, List.length_nil] at hj; omega
       subst this; exact g0.symm) (by simp only [uY, hg, Bool.and_self]) m1 ρ1 h1 a1 w1 (λ ρ h => some (ρ, h)) x5 x2 x3 x4 λ ρ2 h2 m2 a2 w2 y1 y2 y3 y4 y5 => ?_
     cases y5; simp only [wpOps, g1]; have hwant : Region.wanted o2 (yielded opsB a2.tmps) = true := by unfold Region.wanted; rw [hgd]
     rw [hwant]; simp only [if_true]; refine .inl ?_; unfold aOI at hdf; split at hdf
     rotate_left
     · cases hdf
     rename_i c hop; split at hdf
     rotate_left
     · cases hdf
     rename_i t hce; rw [Bool.and_eq_true] at hdf; have hp := fX hdf.1; have hca : c.args = #[] := by
       have : c.args.toList = [] := by simpa using hdf.2
       apply Array.ext'; simpa using this
     have hreg := y2.regs t; rw [hp, hclo] at hreg; simp only [tr, trs] at hreg; cases hcp : trs m2 cap with
     | none => rw [hcp] at hreg; cases hreg
     | some cap' =>
       rw [hcp] at hreg; have hev : a2.eval (.tmp t) = .func (.func C.f) #[] cap'.toArray := (Option.some.inj hreg).symm; have hex : (execOp a2.eval o2).run P w2 = .ok (.defer { target := .fn (.func C.f) cap'.toArray, args := #[] }) w2 := by
         unfold execOp; rw [hop]; simp only [Sem.run_bind, resolve, hce, hca, hev, Sem.run_pure]; rw [show (#[] : Array Operand).map a2.eval = #[] from by simp, rA]
         simp only [Result.andThen_ok, Sem.run_pure]
         congr 3
       unfold Oper.wp; rw [hex, Oper.upon_defer, hd0]; refine wp_seq (hD fn id opsD m2 _ w2 cap' _ hf hDr (x1.trans y1) ⟨y2.size, y2.regs⟩ y3 hcp rfl ?_ hres (List.all_eq_true.1 hrok) λ y hy => ?_)
       · show _ :: a2.defers = _; rw [y4]
       · have := List.all_eq_true.1 hpfx y hy; simpa using this
theorem aDP {C : CF} (hC : aBJ P C = true) (cap' : Array Value) (w : World) : (invoke (.fn (.func C.f) cap') #[]).run P w = .ok (.enter C.f cap') w := by
 unfold aBJ at hC; rw [Bool.and_eq_true] at hC; simp only [invoke, rX hC.1]
 congr 2
 apply Array.ext'; simp
theorem aBC (hE : gN P E) {f : FuncId} {G : GF} {C : CF} (hc : aDR P f G = true) (hC : aBJ P C = true) : fS P f (xC E G C) := by
 intro N0 w0 m h w args args' v h' hrun hargs hw; unfold xC at hrun; cases hs : qK E G args h with
 | none => rw [hs] at hrun; cases hrun
 | some s =>
   rw [hs] at hrun; simp only [Option.bind_some] at hrun; cases ht : dW E G.σ [] s.1 s.2 (λ ρ h => some (ρ, h)) with
   | none => rw [ht] at hrun; cases hrun
   | some t =>
     rw [ht] at hrun; simp only [Option.bind_some] at hrun; obtain ⟨cap, hclo, hrun⟩ := yR hrun; cases hcr : aAP E C cap .nili t.2 with
     | none => rw [hcr] at hrun; cases hrun
     | some h4 =>
       rw [hcr] at hrun; simp only [Option.bind_some] at hrun; cases hvs : eO t.1 h4 G.res with
       | none => rw [hvs] at hrun; cases hrun
       | some vs =>
         rw [hvs] at hrun; simp only [Option.map_some, Option.some.injEq, Prod.mk.injEq] at hrun; obtain ⟨rfl, rfl⟩ := hrun; refine aJt hE hc hs hclo hargs hw λ fn id ops m1 a1 w1 cap' d hf hDr x1 x2 x3 hcap hd hds hres hrok hpfx => ?_
         refine zW hE hDr ht x2 x3 hds λ ρ2 h2 m2 a2 w2 y1 y2 y3 y4 y5 => ?_
         cases y5; refine wp_ret ?_; show Leaves P fn a2.tmps _ a2.defers .returning w2; rw [y4, hd]; refine leaves_cons (by simp) (aDP hC _ w2) ((aWr hE hC hcr (lQ y1.le _ _ hcap) y3 (.inl ⟨rfl, rfl, rfl⟩)).mono λ e u' w3 hh => ?_)
         obtain ⟨m3, v, rfl, rfl, z1, z2⟩ := hh; obtain ⟨v', r1, r2⟩ := aBr (P := P) (y2.mono z2.le) z1 hres hvs; exact ⟨v', r1, m3, v', rfl, r2, z1, (x1.trans y1).trans z2⟩
theorem aDn (hE : gN P E) {f : FuncId} {G : GF} {C : CF} {St : bC} (hSt : aHs P G.fs St) (hc : aDR P f G = true) (hC : aBJ P C = true) : fS P f (aSS E St G C) := by
 intro N0 w0 m h w args args' v h' hrun hargs hw; unfold aSS at hrun; cases hs : qK E G args h with
 | none => rw [hs] at hrun; cases hrun
 | some s =>
   rw [hs] at hrun; simp only [Option.bind_some] at hrun; cases ht : dW E G.pfx [] s.1 s.2 (λ ρ h => some (ρ, h)) with
   | none => rw [ht] at hrun; cases hrun
   | some t =>
     rw [ht] at hrun; simp only [Option.bind_some] at hrun; cases hst : St (G.as.map (ev t.1)) t.2 with
     | none => rw [hst] at hrun; cases hrun
     | some r =>
       obtain ⟨pv, h3⟩ := r; rw [hst] at hrun; simp only [Option.bind_some] at hrun; obtain ⟨cap, hclo, hrun⟩ := yR hrun; cases hcr : aAP E C cap pv h3 with
       | none => rw [hcr] at hrun; cases hrun
       | some h4 =>
         rw [hcr] at hrun; simp only [Option.bind_some] at hrun; cases hvs : eO t.1 h4 G.res with
         | none => rw [hvs] at hrun; cases hrun
         | some vs =>
           rw [hvs] at hrun; simp only [Option.map_some, Option.some.injEq, Prod.mk.injEq] at hrun; obtain ⟨rfl, rfl⟩ := hrun; have hcal : iC P G.fs = true := by
             unfold aDR at hc; rw [Bool.and_eq_true] at hc; exact hc.1
           refine aJt hE hc hs hclo hargs hw λ fn id ops m1 a1 w1 cap' d hf hDr x1 x2 x3 hcap hd hds hres hrok hpfx => ?_
           refine aLN (E := E) (x := G.x) hSt hcal hDr rfl hpfx rfl rfl ht hst x2 x3 hds λ m2 pv' a2 w2 y1 y2 y3 y4 y5 y6 => ?_
           show Leaves P fn a2.tmps _ a2.defers (.panicking [{ v := pv', recovered := false }]) w2; rw [y6, hd]; refine leaves_cons (by simp) (aDP hC _ w2) ((aWr hE hC hcr (lQ y1.le _ _ hcap) y5 (.inr ⟨pv', y2, rfl, rfl⟩)).mono λ e u' w3 hh => ?_)
           obtain ⟨m3, v, rfl, rfl, z1, z2⟩ := hh; obtain ⟨v', r1, r2⟩ := aGD (P := P) (a := a2) z1 (λ x hx => by
             have := hrok x hx; unfold aUr at this; split at this
             · rename_i c ty; refine ⟨c, ty, rfl, fH z2.le _ _ (y3 c λ y hy hyd => ?_)⟩
               have h1 := List.all_eq_true.1 this y hy; rw [hyd] at h1; unfold wF at h1; simp only [rC] at h1; cases h1
             · cases this) hres hvs
           show ∃ v, _ /\ _; exact ⟨v', r1, m3, v', rfl, r2, z1, (x1.trans y1).trans z2⟩
end
end Go.DI
namespace Go.DI
open Go.RowKit
def xJ : Ln -> Ln -> Ln
 | [], b => b
 | a, [] => a
 | x :: a, y :: b => (x ^^^ y) :: xJ a b
theorem yP (a : Ln) : xJ a [] = a := by cases a <;> rfl
theorem aAs (b : Ln) : xJ [] b = b := by cases b <;> rfl
theorem qT (x y : Nat) (a b : Ln) : xJ (x :: a) (y :: b) = (x ^^^ y) :: xJ a b := rfl
theorem tY : ∀ a b : Ln, (xJ a b).length = max a.length b.length
 | [], b => by rw [aAs]; simp
 | x :: a, [] => by rw [yP]; simp
 | x :: a, y :: b => by rw [qT, List.length_cons, tY a b]; simp only [List.length_cons]; omega
theorem aIz {x y : Nat} (hx : x < 256) (hy : y < 256) : x ^^^ y < 256 := Nat.xor_lt_two_pow (n := 8) hx hy
theorem aGl : ∀ {a b : Ln}, aP a = true -> aP b = true -> aP (xJ a b) = true
 | [], b, _, hb => by rw [aAs]; exact hb
 | x :: a, [], ha, _ => by rw [yP]; exact ha
 | x :: a, y :: b, ha, hb => by
   simp only [aP, Bool.and_eq_true, Nat.blt_eq] at ha hb; rw [qT]; simp only [aP, Bool.and_eq_true, Nat.blt_eq]; exact ⟨aIz ha.1 hb.1, aGl ha.2 hb.2⟩
theorem iR (n : Nat) : aP (List.replicate n 0) = true := by
 rw [gT]; intro b hb; have := List.eq_of_mem_replicate hb; omega
structure qS (b : Nat) (h h' : H) : Prop where
 size : h'.size = h.size
 get : ∀ c, c ≠ b -> h'.get c = h.get c
theorem qS.refl (b : Nat) (h : H) : qS b h h := ⟨rfl, λ _ _ => rfl⟩
theorem qS.trans {b : Nat} {x y z : H} (h : qS b x y) (k : qS b y z) : qS b x z := ⟨k.size.trans h.size, λ c hc => (k.get c hc).trans (h.get c hc)⟩
theorem qS.grown {h0 h h' : H} (g : aX h0 h) {b : Nat} (hb : h0.size <= b) (k : qS b h h') : aX h0 h' :=
 ⟨by rw [k.size]; exact g.size, λ i hi => (k.get i (by omega)).trans (g.get i hi)⟩
theorem wrap_u8 {n : Nat} (h : n < 256) : IntKind.u8.wrap (.ofNat n) = .ofNat n := by
 rw [IntKind.wrap_u8]; simp only [Int.ofNat_eq_natCast]; omega
theorem aLx {x y : Nat} (hx : x < 256) (hy : y < 256) : pS (iD x) (iD y) = some (iD (x ^^^ y)) := by
 unfold iD; rw [lG .u8 x y hx hy, wrap_u8 (aIz hx hy)]
theorem yS (k k' : IntKind) (a b : Nat) : wP (.int k (.ofNat a)) (.int k' (.ofNat b)) = some (.int k (.ofNat (max a b))) := by
 simp only [wP, mN]
 congr 2
 by_cases h : a < b
 · rw [show decide (Int.ofNat a < Int.ofNat b) = true from by simp only [Int.ofNat_eq_natCast, decide_eq_true_iff]; omega]
   show Int.ofNat b = _; congr 1; omega
 · rw [show decide (Int.ofNat a < Int.ofNat b) = false from by simp only [Int.ofNat_eq_natCast, decide_eq_false_iff_not]; omega]
   show Int.ofNat a = _; congr 1; omega
theorem oK {b n c j : Nat} {op : Bool} (hj : j < n) (k : IntKind) : bY 1 (.slc b 0 n c op) (.int k (.ofNat j)) = some (.ptr b j) := by
 simp only [bY, nR, aM]; rw [dK hj]; simp
theorem aUQ (a b : Nat) : decide (Int.ofNat a < Int.ofNat b) = decide (a < b) := by
 rw [decide_eq_decide]; simp only [Int.ofNat_eq_natCast]; omega
theorem lH {i : Nat} (h : i + 1 < 9223372036854775808) : bW (.int .i64 (.ofNat i)) (.int .i64 (.ofNat 1)) = some (.int .i64 (.ofNat (i + 1))) := by
 rw [qW, show Int.ofNat i + Int.ofNat 1 = Int.ofNat (i + 1) from rfl, wrap_i64 h]
theorem uA {s : Ln} {j : Nat} (h : j <= s.length) (k : IntKind) : jH (.str s) none (some (.int k (.ofNat j))) = some (.str (s.take j)) := by
 simp only [jH, dC, dHi, dLo]; rw [Nat.ble_eq_true_of_le h, cond_true, Nat.ble_eq_true_of_le (Nat.zero_le _), cond_true, fI]; rfl
theorem xL {s : Ln} {j : Nat} (h : j <= s.length) (k : IntKind) : jH (.str s) (some (.int k (.ofNat j))) none = some (.str (s.drop j)) := by
 simp only [jH, dC, dHi, dLo]; rw [Nat.ble_eq_true_of_le (Nat.le_refl _), cond_true, Nat.ble_eq_true_of_le h, cond_true, fI, List.take_length]
theorem jW (k : IntKind) (a b : Nat) : cF (.int k (.ofNat a)) (.int k (.ofNat b)) = some (.bool (decide (a = b))) := by
 rw [mJ]; congr 2; rw [Bool.eq_iff_iff, beq_iff_eq, decide_eq_true_iff]; simp only [Int.ofNat_eq_natCast]; omega
end Go.DI
namespace Go.DI
open Go.RowKit
theorem bHe {a b : Nat} (h : a ≠ b) : Nat.beq a b = false := by
 cases hb : Nat.beq a b
 · rfl
 · exact absurd (Nat.eq_of_beq_eq_true hb) h
theorem qH {a b : Nat} (h : ¬ a <= b) : Nat.ble a b = false := by
 cases hb : Nat.ble a b
 · rfl
 · exact absurd (Nat.le_of_ble_eq_true hb) h
def bT (h : H) (b : Nat) (L : List DV) : Prop := b < h.size /\ ∃ pl t, h.get b = some (.blk ⟨L.length, 1, false, pl, t⟩) /\ ∀ j x, L[j]? = some x -> t.at_ j = some x
section
variable {h h' : H} {b : Nat} {L : List DV}
theorem bT.rd (hb : bT h b L) {j : Nat} {x : DV} (hj : L[j]? = some x) : rdCell h.get b j = some x := by
 obtain ⟨hlt, pl, t, h1, h2⟩ := hb; have hjl : j < L.length := by
   rcases Nat.lt_or_ge j L.length with h3 | h3
   · exact h3
   · rw [List.getElem?_eq_none h3] at hj; cases hj
 rw [oW h1 hjl]; exact h2 j x hj
theorem bT.read (hb : bT h b L) {j : Nat} {x : DV} (hj : L[j]? = some x) : aF h.get (.ptr b j) = some x := by
 simp only [aF, bX]; exact hb.rd hj
theorem bT.cells (hb : bT h b L) {o k : Nat} (hk : o + k <= L.length) : rdCells h.get b o k = some ((L.drop o).take k) := by
 have hl : ((L.drop o).take k).length = k := by simp; omega
 have := mK (rd := h.get) (b := b) ((L.drop o).take k) o λ i v hi => hb.rd (by
   rw [List.getElem?_take] at hi; split at hi
   · rw [List.getElem?_drop] at hi; exact hi
   · cases hi)
 rw [hl] at this; exact this
theorem bT.cells_all (hb : bT h b L) : rdCells h.get b 0 L.length = some L := by
 have := hb.cells (o := 0) (k := L.length) (by omega)
 simpa using this
theorem bT.but (hb : bT h b L) {c : Nat} (hc : b ≠ c) (k : qS c h h') : bT h' b L := by
 obtain ⟨hlt, pl, t, h1, h2⟩ := hb; exact ⟨by rw [k.size]; exact hlt, pl, t, by rw [k.get b hc]; exact h1, h2⟩
theorem bT.store (hb : bT h b L) {vs : List DV} {o : Nat} (hv : vs.all DV.one = true) (ho : o + vs.length <= L.length) :
   ∃ h', eW vs h b o = some h' /\ bT h' b (L.take o ++ vs ++ L.drop (o + vs.length)) /\ qS b h h' := by
 obtain ⟨hlt, pl, t, h1, h2⟩ := hb; obtain ⟨h', t', f1, f2, f3, f4, f5⟩ := qB (h := h) (b := b) (o := o) (vs := vs) h1 rfl ho hv; have hlen : (L.take o ++ vs ++ L.drop (o + vs.length)).length = L.length := by simp; omega
 refine ⟨h', f1, ⟨by rw [f2]; exact hlt, pl, t', by rw [f4, hlen], λ j x hj => ?_⟩, ⟨f2, f3⟩⟩
 rw [f5]; have ht : (L.take o).length = o := by simp; omega
 by_cases hjo : o <= j /\ j < o + vs.length
 · rw [if_pos hjo]; rw [List.append_assoc, List.getElem?_append_right (by omega), ht, List.getElem?_append_left (by omega)] at hj
   exact hj
 · rw [if_neg hjo]; apply h2; rcases Nat.lt_or_ge j o with hlt | hge
   · rw [List.append_assoc, List.getElem?_append_left (by omega), List.getElem?_take, if_pos hlt] at hj
     exact hj
   · have hge2 : o + vs.length <= j := by
       rcases Nat.lt_or_ge j (o + vs.length) with h3 | h3
       · exact absurd ⟨hge, h3⟩ hjo
       · exact h3
     rw [List.getElem?_append_right (by simp only [List.length_append, ht]; omega), List.length_append, ht, List.getElem?_drop] at hj
     rw [show j = o + vs.length + (j - (o + vs.length)) from by omega]; exact hj
theorem bT.set (hb : bT h b L) {j : Nat} {v : DV} (hv : v.one = true) (hj : j < L.length) :
   ∃ h', dD 1 (.ptr b j) v h = some (.tup [], h') /\ bT h' b (L.set j v) /\ qS b h h' := by
 obtain ⟨h', f1, f2, f3⟩ := hb.store (vs := [v]) (o := j) (by simp [hv]) (by simp; omega)
 refine ⟨h', ?_, ?_, f3⟩
 · rw [mY]; have hc : v.cells = [v] := by cases v <;> first | rfl | cases hv
   simp only [dSt, hc, List.length_singleton, Nat.beq_refl, cond_true, f1, Option.map_some]
 · have : L.take j ++ [v] ++ L.drop (j + [v].length) = L.set j v := by
     rw [List.set_eq_take_append_cons_drop, if_pos hj]; simp
   rw [<- this]; exact f2
theorem bT.text {s : Ln} (hb : bT h b (bV s)) (hok : aP s = true) (c : Nat) (op : Bool) : kF h.get (.slc b 0 s.length c op) = some (.str s) := by
 have hr := hb.cells_all; have hlen : (bV s).length = s.length := by simp [bV]
 rw [hlen] at hr; simp only [kF, bP, hr, Option.bind_some, nE hok, fI]
end
theorem bT.pushed {h : H} {L : List DV} {pl : Bool} : bT (h.push (.blk ⟨L.length, 1, false, pl, Tr.ofL L⟩)) h.size L :=
 ⟨by rw [H.size_push]; omega, pl, _, by rw [H.get_push, if_pos rfl], λ j x hj => by rw [Tr.at_ofL]; exact hj⟩
theorem bT.push {h : H} {b : Nat} {L : List DV} (hb : bT h b L) (o : eE) : bT (h.push o) b L := by
 obtain ⟨hlt, pl, t, h1, h2⟩ := hb; exact ⟨by rw [H.size_push]; omega, pl, t, by rw [H.get_push, if_neg (by omega)]; exact h1, h2⟩
theorem bT.made {h : H} {z : DV} {n : Nat} (hn : n < 140737488355328) : bT (h.push (.blk ⟨n, 1, false, true, Tr.full z 48⟩)) h.size (List.replicate n z) := by
 refine ⟨by rw [H.size_push]; omega, true, _, by rw [H.get_push, if_pos rfl, List.length_replicate], λ j x hj => ?_⟩
 have hlt : j < n := by
   rcases Nat.lt_or_ge j n with h3 | h3
   · exact h3
   · rw [List.getElem?_eq_none (by simpa using h3)] at hj; cases hj
 have hx : x = z := by
   rw [List.getElem?_replicate, if_pos hlt] at hj; exact (Option.some.inj hj).symm
 subst hx; exact Tr.at_full _ (by omega)
structure dE (n0 : Nat) (h h' : H) : Prop where
 size : h.size <= h'.size
 get : ∀ c, c < n0 -> h'.get c = h.get c
theorem dE.refl (n0 : Nat) (h : H) : dE n0 h h := ⟨Nat.le_refl _, λ _ _ => rfl⟩
theorem dE.trans {n0 : Nat} {x y z : H} (a : dE n0 x y) (c : dE n0 y z) : dE n0 x z := ⟨Nat.le_trans a.size c.size, λ i hi => (c.get i hi).trans (a.get i hi)⟩
theorem dE.grown {h h' : H} (a : dE h.size h h') : aX h h' := ⟨a.size, a.get⟩
theorem qS.keeps {n0 b : Nat} {h h' : H} (k : qS b h h') (hb : n0 <= b) : dE n0 h h' := ⟨by rw [k.size]; exact Nat.le_refl _, λ c hc => k.get c (by omega)⟩
theorem dE.push {n0 : Nat} {h : H} (hn : n0 <= h.size) (o : eE) : dE n0 h (h.push o) := ⟨by rw [H.size_push]; omega, λ c hc => by rw [H.get_push, if_neg (by omega)]⟩
def bM (n0 : Nat) (h : H) (v : DV) (L : List DV) : Prop := (v = .nils /\ L = []) \/ ∃ b, n0 <= b /\ v = .slc b 0 L.length L.length true /\ bT h b L
theorem bM.nil (n0 : Nat) (h : H) : bM n0 h .nils [] := .inl ⟨rfl, rfl⟩
theorem bM.len {n0 : Nat} {h : H} {v : DV} {L : List DV} (o : bM n0 h v L) : aO v = some (.int .i64 (.ofNat L.length)) := by
 rcases o with ⟨rfl, rfl⟩ | ⟨b, _, rfl, _⟩ <;> rfl
theorem bM.append {n0 : Nat} {h : H} {v x : DV} {L new : List DV} {bytes : Nat} (o : bM n0 h v L) (hn0 : n0 <= h.size) (hl : eZ x = some new.length) (hc : dV 1 h.get x = some new) (h1 : new.all DV.one = true) (hne : new ≠ [])
   (hs : (L.length + new.length) * bytes < aY) (hs2 : L.length + new.length < aY) : ∃ v' h', cJ 1 bytes v x h = some (v', h') /\ bM n0 h' v' (L ++ new) /\ dE n0 h h' := by
 have hpos : 0 < new.length := List.length_pos_iff.2 hne; rcases o with ⟨rfl, rfl⟩ | ⟨b, hb0, rfl, hb⟩
 · refine ⟨.slc h.size 0 new.length new.length true, h.push (.blk ⟨new.length, 1, false, true, Tr.ofL new⟩), ?_, .inr ⟨h.size, hn0, ?_, ?_⟩, dE.push hn0 _⟩
   · rw [iT]; simp only [iB, hl, hc, Option.bind_some]; simp only [List.length_nil, Nat.zero_add] at hs hs2; rw [bHe (show new.length ≠ 0 by omega), dK hs, dK hs2]
     simp only [cond_false, Bool.and_self, cond_true, H.pushK_eq, Nat.mul_one]
   · simp
   · simpa using bT.pushed
 · obtain ⟨hlt, pl, t, g1, g2⟩ := hb; refine ⟨.slc h.size 0 (L.length + new.length) (L.length + new.length) true, (h.push (.blk ⟨(L.length + new.length) * 1, 1, false, false, Tr.ofF new (L.length * 1) t⟩)).put b .dead, ?_, .inr ⟨h.size, hn0, ?_, ?_⟩, ?_⟩
   · rw [iT]; simp only [iB, hl, hc, Option.bind_some, aM]; rw [qH (show ¬ L.length + new.length <= L.length by omega), dK hs, dK hs2]
     simp only [cond_false, Bool.and_self, cond_true, g1, h1, Nat.zero_add, Nat.mul_one, Nat.beq_refl, Bool.not_false, Nat.ble_eq_true_of_le (Nat.le_refl _), zN, Option.bind_some, H.pushK_eq, H.putK_eq]
   · simp
   · refine ⟨by rw [H.size_put, H.size_push]; omega, false, Tr.ofF new (L.length * 1) t, ?_, λ j x hj => ?_⟩
     · rw [H.get_put, if_neg (by omega), H.get_push, if_pos rfl, List.length_append, Nat.mul_one]
     · rw [Tr.at_ofF, Nat.mul_one]; rcases Nat.lt_or_ge j L.length with hj1 | hj1
       · rw [if_neg (by omega)]
         rw [List.getElem?_append_left hj1] at hj; exact g2 j x hj
       · rw [List.getElem?_append_right hj1] at hj; have : j - L.length < new.length := by
           rcases Nat.lt_or_ge (j - L.length) new.length with h3 | h3
           · exact h3
           · rw [List.getElem?_eq_none h3] at hj; cases hj
         rw [if_pos ⟨hj1, by omega⟩]; exact hj
   · refine ⟨by rw [H.size_put, H.size_push]; omega, λ c hc' => ?_⟩
     rw [H.get_put, if_neg (by omega), H.get_push, if_neg (by omega)]
theorem bM.push1 {n0 : Nat} {h : H} {v x z : DV} {L : List DV} {bytes : Nat} (o : bM n0 h v L) (hn0 : n0 <= h.size) (h1 : x.one = true)
   (hs : (L.length + 1) * bytes < aY) (hs2 : L.length + 1 < aY) : ∃ v' h', (∀ (R : Type) (k : DV -> H -> Option R), (dI 1 1 [z] [(0, 1, x)] h λ y h' => wK (cJ 1 bytes v y h') k) = k v' h') /\ bM n0 h' v' (L ++ [x]) /\ dE n0 h h' := by
 let h1' := h.push (.blk ⟨1 * 1, 1, false, true, Tr.ofL [x]⟩)
 have hp : bT h1' h.size [x] := bT.pushed (h := h) (L := [x]) (pl := true); have o' : bM n0 h1' v L := by
   rcases o with ⟨rfl, rfl⟩ | ⟨b, hb0, rfl, hb⟩
   · exact .inl ⟨rfl, rfl⟩
   · exact .inr ⟨b, hb0, rfl, hb.push _⟩
 obtain ⟨v', h', f1, f2, f3⟩ := o'.append (x := .slc h.size 0 1 1 false) (new := [x]) (bytes := bytes) (by show n0 <= (h.push _).size; rw [H.size_push]; omega) rfl
   (by simpa [dV] using hp.cells_all) (by simp [h1]) (by simp) hs hs2
 refine ⟨v', h', λ R k => ?_, f2, (dE.push hn0 _).trans f3⟩
 have hf : fG (iI [z] 1) [(0, 1, x)] = some [x] := by
   have hc : x.cells = [x] := by cases x <;> first | rfl | cases h1
   simp [fG, iI, hc, pW]; rfl
 simp only [dI, hf, Option.bind_some, H.pushK_eq]; show wK (cJ 1 bytes v (.slc h.size 0 1 1 false) h1') k = _; rw [f1]; rfl
theorem bM.lt {n0 : Nat} {h : H} {v : DV} {L : List DV} (o : bM n0 h v L) (hL : L ≠ []) : ∃ b, n0 <= b /\ v = .slc b 0 L.length L.length true /\ bT h b L := by
 rcases o with ⟨rfl, rfl⟩ | o
 · exact absurd rfl hL
 · exact o
theorem bM.load1 {n0 : Nat} {h : H} {v x : DV} {L : List DV} {j : Nat} (o : bM n0 h v L) (hj : L[j]? = some x) (k : IntKind) :
   ∃ b, bY 1 v (.int k (.ofNat j)) = some (.ptr b j) /\ aF h.get (.ptr b j) = some x := by
 have hlt : j < L.length := by
   rcases Nat.lt_or_ge j L.length with h3 | h3
   · exact h3
   · rw [List.getElem?_eq_none h3] at hj; cases hj
 obtain ⟨b, hb0, rfl, hb⟩ := o.lt (by intro e; subst e; simp at hlt)
 exact ⟨b, oK hlt k, hb.read hj⟩
theorem bM.text {n0 : Nat} {h : H} {v : DV} {s : Ln} (o : bM n0 h v (bV s)) (hok : aP s = true) : kF h.get v = some (.str s) := by
 have hl : (bV s).length = s.length := by simp [bV]
 rcases o with ⟨rfl, e⟩ | ⟨b, _, rfl, hb⟩
 · have : s = [] := by
     cases s with
     | nil => rfl
     | cons _ _ => cases e
   subst this; rfl
 · rw [hl]; exact hb.text hok _ _
def jL (s : Ln) (n : Nat) : Ln := s ++ List.replicate (n - s.length) 0
theorem zK {s : Ln} {n : Nat} (h : s.length <= n) : (jL s n).length = n := by unfold jL; simp; omega
theorem aJh {s : Ln} (h : aP s = true) (n : Nat) : aP (jL s n) = true := eG h (iR _)
theorem sY {s : Ln} (h : aP s = true) (n : Nat) : aP (s.take n) = true := by
 rw [gT] at h ⊢; intro b hb; exact h b (List.mem_of_mem_take hb)
theorem aLQ {s : Ln} (h : aP s = true) (n : Nat) : aP (s.drop n) = true := by
 rw [gT] at h ⊢; intro b hb; exact h b (List.mem_of_mem_drop hb)
theorem kP (s t : Ln) : bV (s ++ t) = bV s ++ bV t := by simp [bV]
theorem vA (s : Ln) (n : Nat) : bV (s.take n) = (bV s).take n := by simp [bV, List.map_take]
theorem aKp (s : Ln) (n : Nat) : bV (s.drop n) = (bV s).drop n := by simp [bV, List.map_drop]
theorem cK (s : Ln) : (bV s).length = s.length := by simp [bV]
theorem aMB (s : Ln) (j x : Nat) : bV (s.set j x) = (bV s).set j (iD x) := by simp [bV, List.map_set]
theorem eY (k : IntKind) (a b : Nat) : dO (.int k (.ofNat a)) (.int k (.ofNat b)) = some (.bool (decide (b < a))) := by rw [aAw, aUQ]
theorem cH (k : IntKind) (a b : Nat) : bO (.int k (.ofNat a)) (.int k (.ofNat b)) = some (.bool (decide (a < b))) := by rw [jA, aUQ]
theorem mE {a b : Nat} (h : b <= a) (ha : a < 9223372036854775808) : kI (.int .i64 (.ofNat a)) (.int .i64 (.ofNat b)) = some (.int .i64 (.ofNat (a - b))) := by
 rw [aAu, show Int.ofNat a - Int.ofNat b = Int.ofNat (a - b) from by simp only [Int.ofNat_eq_natCast]; omega, wrap_i64 (by omega)]
theorem jB {a b : Nat} (h : a + b < 9223372036854775808) : bW (.int .i64 (.ofNat a)) (.int .i64 (.ofNat b)) = some (.int .i64 (.ofNat (a + b))) := by
 rw [qW, show Int.ofNat a + Int.ofNat b = Int.ofNat (a + b) from rfl, wrap_i64 h]
theorem aSf (k : IntKind) {a : Int} (h : a < 0) : bO (.int k a) (.int k (.ofNat 0)) = some (.bool true) := by
 rw [jA]; simp [h]
def vL : bC := λ args h => match args with
 | [] => some (.bool true, h)
 | _ => none
theorem bH.goodW {N0 : Nat} {w0 : World} {m : Mp} {h : H} {w : World} (hw : bH N0 w0 m h w) : Good w := λ x hx => by
 obtain ⟨g1, g2⟩ := hw.good x hx; have := hw.below.block x.1 g1; simp only [World.cell?] at g2 ⊢; rw [this]; exact g2
theorem aLA {P : Program} {B : aQ} {T : Tr (aQ -> bC)} {f : FuncId} {s : aQ -> bC} (hB : gN P B) (hT : aFP P T) (hf : T.at_ f = some s) {n : Nat} (hrun : (s (SE B T n) [] H0).map (·.1) = some (.bool true)) : fS P f vL := by
 intro N0 w0 m h w args args' v h' hr ht hw; unfold vL at hr; split at hr
 · cases hr; simp only [trs, Option.some.injEq] at ht; subst ht; exact (aKm hB hT hf (args := []) (args' := []) rfl hrun w hw.goodW).mono λ e w' hh => ⟨m, .bool true, hh.1, rfl, hw.after hh.2, gV.refl _ _⟩
 · cases hr
def dR (l : List (Ln)) : List DV := l.map DV.str
theorem nX (a b : List (Ln)) : dR (a ++ b) = dR a ++ dR b := by simp [dR]
theorem dS (l : List (Ln)) : (dR l).length = l.length := by simp [dR]
theorem aEZ {l : List (Ln)} {j : Nat} {s : Ln} (h : l[j]? = some s) : (dR l)[j]? = some (.str s) := by simp [dR, h]
theorem bM.keep {n0 n1 : Nat} {h h' : H} {v : DV} {L : List DV} (o : bM n0 h v L) (k : dE n1 h h') (hn : h.size <= n1) : bM n0 h' v L := by
 rcases o with o | ⟨b, hb, e, hlt, pl, t, g1, g2⟩
 · exact .inl o
 · exact .inr ⟨b, hb, e, Nat.lt_of_lt_of_le hlt k.size, pl, t, by rw [k.get b (by omega)]; exact g1, g2⟩
theorem bM.mono {n0 n1 : Nat} {h : H} {v : DV} {L : List DV} (o : bM n0 h v L) (hn : n1 <= n0) : bM n1 h v L := by
 rcases o with o | ⟨b, hb, e⟩
 · exact .inl o
 · exact .inr ⟨b, by omega, e⟩
theorem vR {s t : Ln} (h : s.length + t.length < nY) : bW (.str s) (.str t) = some (.str (s ++ t)) := by
 show (bif Nat.blt (s.length + t.length) nY then tU (s ++ t) else none) = _; rw [dK h, fI]; rfl
theorem aLK (n : Nat) : iI [0] n = List.replicate n 0 := by
 induction n with
 | zero => rfl
 | succ n ih => rw [List.replicate_succ, <- ih]; rfl
theorem aIg (n : Nat) (hn : n <= 140737488355328) (h : H) : rQ [.str [0], .int .i64 (.ofNat n)] h = some (.str (List.replicate n 0), h) := by
 show (bif Nat.ble n 9223372036854775807 && Nat.ble (([0] : Ln).length * n) 140737488355328 then (tU (iI [0] n)).map λ v => (v, h) else none) = _
 rw [Nat.ble_eq_true_of_le (by omega), Nat.ble_eq_true_of_le (by simp; omega), fI, aLK]; rfl
def pO (n : Nat) : Nat -> Ln -> List (Ln)
 | 0, _ => []
 | k + 1, s => if s = [] then [] else jL (s.take n) n :: pO n k (s.drop n)
theorem uW (n k : Nat) : pO n k [] = [] := by cases k <;> rfl
theorem aFL {n k : Nat} {s : Ln} (h : s ≠ []) : pO n (k + 1) s = jL (s.take n) n :: pO n k (s.drop n) := by rw [pO, if_neg h]
end Go.DI
namespace Go.DI
open Go.RowKit
theorem gU {α : Type} {l : List α} {j : Nat} {x : α} (h : l[j]? = some x) : j < l.length := by
 rcases Nat.lt_or_ge j l.length with h1 | h1
 · exact h1
 · rw [List.getElem?_eq_none h1] at h; cases h
def gF (h : H) (v : DV) (L : List DV) : Prop :=
 (L = [] /\ (v = .nils \/ ∃ b o o2, v = .slE b o o2)) \/ ∃ b o c op, v = .slc b o L.length c op /\ L.length <= c /\ b < h.size /\ ∀ j x, L[j]? = some x -> rdCell h.get b (o + j) = some x
section
variable {h h' : H} {v : DV} {L : List DV}
theorem gF.nil (h : H) : gF h .nils [] := .inl ⟨rfl, .inl rfl⟩
theorem gF.len (r : gF h v L) : aO v = some (.int .i64 (.ofNat L.length)) := by
 rcases r with ⟨rfl, rfl | ⟨b, o, o2, rfl⟩⟩ | ⟨b, o, c, op, rfl, _⟩ <;> rfl
theorem gF.grown (r : gF h v L) (g : aX h h') : gF h' v L := by
 rcases r with r | ⟨b, o, c, op, e, hc, hb, hx⟩
 · exact .inl r
 · exact .inr ⟨b, o, c, op, e, hc, Nat.lt_of_lt_of_le hb g.size, λ j x hj => by rw [mZ (g.get b hb)]; exact hx j x hj⟩
theorem aTT {b o n c j : Nat} {op : Bool} (hj : j < n) (k : IntKind) : bY 1 (.slc b o n c op) (.int k (.ofNat j)) = some (.ptr b (o + j)) := by
 simp only [bY, nR, aM]; rw [dK hj]; simp
theorem gF.at (r : gF h v L) {j : Nat} {x : DV} (hj : L[j]? = some x) (k : IntKind) : ∃ b o, bY 1 v (.int k (.ofNat j)) = some (.ptr b o) /\ aF h.get (.ptr b o) = some x := by
 rcases r with ⟨rfl, _⟩ | ⟨b, o, c, op, rfl, _, _, hx⟩
 · cases hj
 · exact ⟨b, o + j, aTT (gU hj) k, by simp only [aF, bX]; exact hx j x hj⟩
end
theorem bT.row {h : H} {b : Nat} {L : List DV} (hb : bT h b L) (op : Bool) : gF h (.slc b 0 L.length L.length op) L :=
 .inr ⟨b, 0, _, op, rfl, Nat.le_refl _, hb.1, λ j x hj => by rw [Nat.zero_add]; exact hb.rd hj⟩
theorem bM.row {n0 : Nat} {h : H} {v : DV} {L : List DV} (o : bM n0 h v L) : gF h v L := by
 rcases o with ⟨rfl, rfl⟩ | ⟨b, hb0, rfl, hb⟩
 · exact gF.nil h
 · exact hb.row true
theorem calls_true3 {P : Program} {B : aQ} {T : Tr (aQ -> bC)} {f : FuncId} {s : aQ -> bC} (hB : gN P B) (hT : aFP P T) (hf : T.at_ f = some s) {n : Nat} {args : List DV} {args' : List Value} {m : Mp} {h : H} {w : World} (hw : bH w.heap.size w m h w) (hargs : trs m args = some args')
   (hrun : (s (SE B T n) args h).map (·.1) = some (.bool true)) :
   Calls P f args'.toArray w λ e w' => e = .returned (.bool true) /\ Below w.heap.size w w' := by
 cases hr : s (SE B T n) args h with
 | none => rw [hr] at hrun; cases hrun
 | some r =>
   obtain ⟨v, h'⟩ := r; rw [hr] at hrun; simp only [Option.map_some, Option.some.injEq] at hrun; subst hrun; refine ((hT.ok f s hf).2 _ (aPE hB hT n) w.heap.size w m h w args args' _ h' hr hargs hw).mono λ e w' hh => ?_
   obtain ⟨m', v', rfl, h2, h3, h4⟩ := hh; rw [iJ h2]; exact ⟨rfl, h3.below⟩
def aTC (CL : List DV) : H := H0.push (.blk ⟨CL.length, 1, true, false, Tr.ofL CL⟩)
theorem aBb (CL : List DV) : (aTC CL).size = 1 := rfl
theorem aKS (CL : List DV) : (aTC CL).get 0 = some (.blk ⟨CL.length, 1, true, false, Tr.ofL CL⟩) := by
 unfold aTC; rw [H.get_push]; rfl
theorem bH.startRow {w : World} (hg : Good w) {a : Addr} {len cap : Nat} {CL : List DV} {t : TypeId} {k : Nat} (ha : a.spot = none) (hs : w.shape? a.block = some (t, k)) (hlen : CL.length = 0 -> len = 0)
   (hc : ∀ j x, CL[j]? = some x -> ∃ v', tr (λ _ => none) x = some v' /\ w.cell? (a.add j) = some v') :
   ∃ m o, bH w.heap.size w m (aTC CL) w /\ tr m (.slc 0 o len cap false) = some (.slice (some a) len cap) /\ (CL ≠ [] -> o = 0) := by
 unfold World.shape? at hs; split at hs
 rotate_left
 · cases hs
 rename_i c el fr hh; have hlt : a.block < w.heap.size := by
   rcases Nat.lt_or_ge a.block w.heap.size with h1 | h1
   · exact h1
   · rw [Array.getElem?_eq_none (by simpa using h1)] at hh; cases hh
 obtain ⟨ab, ao, as⟩ := a; simp only [] at ha hh hlt; subst ha; have cellAt : ∀ j, w.cell? ((⟨ab, ao, none⟩ : Addr).add j) = c[ao + j]? := λ j => by
   rw [iE]; simp [World.cell?, hh]
 let i : pP := if CL = [] then ⟨ab, c.size, 0⟩ else ⟨ab, c.size - ao - CL.length, ao⟩
 let m : Mp := λ b => if b = 0 then some i else none
 have hir : i.r = ab := by by_cases h0 : CL = [] <;> simp [i, h0]
 have m_some : ∀ {b j}, m b = some j -> b = 0 /\ j = i := by
   intro b j e; simp only [m] at e; split at e
   · rename_i h0; cases e; exact ⟨h0, rfl⟩
   · cases e
 have mle : Mp.le (λ _ => none) m := λ _ _ e => by cases e
 refine ⟨m, if CL = [] then ao else 0, ?_, ?_, λ h => by rw [if_neg h]⟩
 · refine ⟨λ b j e => ?_, λ b j e => ?_, λ b b' j j' o o' e e' _ _ _ _ _ => ?_, Below.refl _ _, Nat.le_refl _, λ b hb => ?_, hg.n⟩
   · obtain ⟨rfl, rfl⟩ := m_some e; exact ⟨by rw [aBb]; omega, by rw [hir]; exact hlt⟩
   · obtain ⟨rfl, rfl⟩ := m_some e; refine ⟨_, aKS CL, ⟨⟨c, el, fr, by rw [hir]; exact hh, ?_, λ j hj => ?_⟩, (λ h => nomatch h), (λ h => nomatch h)⟩, (λ h => nomatch h)⟩
     · by_cases h0 : CL = []
       · simp [i, h0]
       · have hpos : 0 < CL.length := List.length_pos_iff.2 h0; obtain ⟨v', _, h2⟩ := hc (CL.length - 1) _ (List.getElem?_eq_getElem (by omega))
         rw [cellAt] at h2; have hlt2 : ao + (CL.length - 1) < c.size := by
           rcases Nat.lt_or_ge (ao + (CL.length - 1)) c.size with h3 | h3
           · exact h3
           · rw [Array.getElem?_eq_none (by simpa using h3)] at h2; cases h2
         simp only [i, h0, if_false]; omega
     · simp only [] at hj; have h0 : CL ≠ [] := by intro h0; subst h0; simp at hj
       obtain ⟨v', h1, h2⟩ := hc j _ (List.getElem?_eq_getElem hj); refine .inl ⟨_, v', by rw [Tr.at_ofL]; exact List.getElem?_eq_getElem hj, fH mle _ _ h1, ?_⟩
       rw [cellAt] at h2; simp only [i, h0, if_false]; exact h2
   · rw [(m_some e).1, (m_some e').1]
   · rw [aBb] at hb; unfold aTC; rw [H.get_push, if_neg (show b ≠ H0.size from by show b ≠ 0; omega)]
     exact Tr.at_e b
 · simp only [tr, m, if_true]; by_cases h0 : CL = []
   · simp [i, h0]
   · simp [i, h0]
theorem gF.start {CL : List DV} {o cap : Nat} {op : Bool} (ho : CL ≠ [] -> o = 0) (hc : CL.length <= cap) : gF (aTC CL) (.slc 0 o CL.length cap op) CL := by
 refine .inr ⟨0, o, cap, op, rfl, hc, by rw [aBb]; omega, λ j x hj => ?_⟩
 have hj' := gU hj; rw [ho (by intro h0; subst h0; cases hj), Nat.zero_add, oW (aKS CL) hj', Tr.at_ofL]
 exact hj
theorem aET (k : IntKind) {a b : Nat} (hb : 0 < b) : aCz (.int k (.ofNat a)) (.int k (.ofNat b)) = some (.int k (.ofNat (a % b))) := by
 show (bif kEq k k then aPs k (.ofNat a) (.ofNat b) else none) = _; rw [gJ]; show (bif iEq (.ofNat b) 0 then none else aGW ((Int.ofNat a).tmod (.ofNat b)) λ n => some (DV.int k n)) = _
 rw [oZ, show ((Int.ofNat b) == 0) = false from by simp; omega, cond_false, lU]; rfl
theorem aEU {a b : Nat} (hb : 0 < b) (ha : a < 9223372036854775808) : aID (.int .i64 (.ofNat a)) (.int .i64 (.ofNat b)) = some (.int .i64 (.ofNat (a / b))) := by
 show (bif kEq .i64 .i64 then aPt .i64 (.ofNat a) (.ofNat b) else none) = _; rw [gJ]; show (bif iEq (.ofNat b) 0 then none else iO .i64 ((Int.ofNat a).tdiv (.ofNat b))) = _; rw [oZ, show ((Int.ofNat b) == 0) = false from by simp; omega, cond_false, gP]
 rw [show (Int.ofNat a).tdiv (.ofNat b) = .ofNat (a / b) from rfl, wrap_i64 (by have := Nat.div_le_self a b; omega)]
theorem vQ (k : IntKind) (a b : Int) : eQ (.int k a) (.int k b) = some (.bool (decide (b <= a))) := by
 show (bif kEq k k then aPz k a b else none) = _; rw [gJ]; show eH (iLe b a) = _; rw [fR, aMd]
theorem aEW (k : IntKind) (a b : Int) : tM (.int k a) (.int k b) = some (.bool (decide (a <= b))) := by
 show (bif kEq k k then aPx k a b else none) = _; rw [gJ]; show eH (iLe a b) = _; rw [fR, aMd]
theorem aUV (a b : Nat) : decide (Int.ofNat a <= Int.ofNat b) = decide (a <= b) := by
 rw [decide_eq_decide]; simp only [Int.ofNat_eq_natCast]; omega
theorem oL (k : IntKind) (a b : Nat) : eQ (.int k (.ofNat a)) (.int k (.ofNat b)) = some (.bool (decide (b <= a))) := by rw [vQ, aUV]
theorem aEV (k : IntKind) (a b : Nat) : tM (.int k (.ofNat a)) (.int k (.ofNat b)) = some (.bool (decide (a <= b))) := by rw [aEW, aUV]
theorem yT (n : Int) : IntKind.u64.wrap n = n % 18446744073709551616 := by simp [IntKind.wrap, IntKind.bits, IntKind.signed]
theorem aGn (a : Int) : ∃ n : Nat, n < 18446744073709551616 /\ IntKind.u64.wrap a = .ofNat n := by
 refine ⟨(IntKind.u64.wrap a).toNat, ?_, ?_⟩ <;> rw [yT] <;> (try simp only [Int.ofNat_eq_natCast]) <;> omega
theorem oO {n : Nat} (h : n < 18446744073709551616) : IntKind.u64.wrap (.ofNat n) = .ofNat n := by
 rw [yT]; simp only [Int.ofNat_eq_natCast]; omega
theorem aWC (a : Int) {n : Nat} (hn : 0 < n) (hn2 : n < 9223372036854775808) : ∃ i, i < n /\ cN .u64 (.int .i64 a) = some (.int .u64 (IntKind.u64.wrap a)) /\ cN .u64 (.int .i64 (.ofNat n)) = some (.int .u64 (.ofNat n)) /\
   aCz (.int .u64 (IntKind.u64.wrap a)) (.int .u64 (.ofNat n)) = some (.int .u64 (.ofNat i)) /\ cN .i64 (.int .u64 (.ofNat i)) = some (.int .i64 (.ofNat i)) := by
 obtain ⟨m, hm, e⟩ := aGn a; have hlt := Nat.mod_lt m hn; refine ⟨m % n, hlt, fM _ _ _, ?_, ?_, ?_⟩
 · rw [fM, oO (by omega)]
 · rw [e, aET _ hn]
 · rw [fM, wrap_i64 (by omega)]
theorem aX.keeps {h h' : H} (g : aX h h') {n : Nat} (hn : n <= h.size) : dE n h h' := ⟨g.size, λ c hc => g.get c (by omega)⟩
end Go.DI
namespace Go.DI
open Go.RowKit
theorem Trod_lt {H : Type} {enc : TypeId × Value -> H} {P : Program} {W : World} {base : Nat} {sp : Nat -> Bool} {held : Bool} {t : TypeId} {v : Value} {d : DataW H} {ps : List MemPlace} (h : DataW.Trod enc P W base sp held t v d ps) : ∀ x ∈ ps, x.block < W.heap.size := λ x hx => by
 obtain ⟨n, e⟩ := h; exact DataW.trod_lt n _ _ _ e x hx
theorem tr_str_any (m : Mp) (s : ByteArray) : tr m (.str (aCW s)) = some (.string s) := by simp [tr, toBA_ofBA, okStr_ofBA]
end Go.DI
namespace Go.DI
open Go.RowKit
section
variable {n0 : Nat} {h h' : H} {v : DV} {L : List DV}
end
end Go.DI
namespace Go.DI
open Go.RowKit
theorem tE {R : Type} (l : List DV) (t : Bool) (op : (DV -> H -> Option R) -> Option R) (h : H) (k : DV -> H -> Option R) : aJ (.tup l) t op h k = k (.tup []) h := id rfl
theorem lP (a : DV) (l : List DV) : aN 0 (.tup (a :: l)) = some a := id rfl
theorem lO (a b : DV) (l : List DV) : aN 1 (.tup (a :: b :: l)) = some b := id rfl
theorem aLy {s : Ln} {i j : Nat} (hi : i <= j) (hj : j <= s.length) (k k' : IntKind) : jH (.str s) (some (.int k (.ofNat i))) (some (.int k' (.ofNat j))) = some (.str ((s.take j).drop i)) := by
 simp only [jH, dC, dHi, dLo]; rw [Nat.ble_eq_true_of_le hj, cond_true, Nat.ble_eq_true_of_le hi, cond_true, fI]
theorem uC (k k' : IntKind) (a b : Nat) : xM (.int k (.ofNat a)) (.int k' (.ofNat b)) = some (.int k (.ofNat (min a b))) := by
 simp only [xM, mN]
 congr 2
 by_cases h : b < a
 · rw [show decide (Int.ofNat b < Int.ofNat a) = true from by simp only [Int.ofNat_eq_natCast, decide_eq_true_iff]; omega]
   show Int.ofNat b = _; congr 1; omega
 · rw [show decide (Int.ofNat b < Int.ofNat a) = false from by simp only [Int.ofNat_eq_natCast, decide_eq_false_iff_not]; omega]
   show Int.ofNat a = _; congr 1; omega
theorem mG (k : IntKind) (a b : Nat) : cW (.int k (.ofNat a)) (.int k (.ofNat b)) = some (.bool (!decide (a = b))) := by
 rw [vP]; congr 2; rw [Bool.eq_iff_iff]; simp only [bne_iff_ne, ne_eq, Int.ofNat_eq_natCast, Bool.not_eq_true', decide_eq_false_iff_not]; omega
theorem oJ (s t : Ln) : cW (.str s) (.str t) = some (.bool (s != t)) := by
 show eH (!sEq s t) = _; rw [fR, xQ]; rfl
end Go.DI
namespace Go.DI
open Go.RowKit
def aR (h : H) (b : Nat) (L : List DV) : Prop := b < h.size /\ ∃ es t, h.get b = some (.blk ⟨L.length, es, false, true, t⟩) /\ ∀ j x, L[j]? = some x -> t.at_ j = some x
section
variable {h h' : H} {b : Nat} {L : List DV}
theorem aR.rd (hb : aR h b L) {j : Nat} {x : DV} (hj : L[j]? = some x) : rdCell h.get b j = some x := by
 obtain ⟨hlt, es, t, h1, h2⟩ := hb; rw [oW h1 (gU hj)]; exact h2 j x hj
theorem aR.read (hb : aR h b L) {j : Nat} {x : DV} (hj : L[j]? = some x) : aF h.get (.ptr b j) = some x := by
 simp only [aF, bX]; exact hb.rd hj
theorem aR.cells (hb : aR h b L) {o k : Nat} (hk : o + k <= L.length) : rdCells h.get b o k = some ((L.drop o).take k) := by
 have hl : ((L.drop o).take k).length = k := by simp; omega
 have := mK (rd := h.get) (b := b) ((L.drop o).take k) o λ i v hi => hb.rd (by
   rw [List.getElem?_take] at hi; split at hi
   · rw [List.getElem?_drop] at hi; exact hi
   · cases hi)
 rw [hl] at this; exact this
theorem aR.readN (hb : aR h b L) {o k : Nat} (hk : o + k <= L.length) : cX k h.get (.ptr b o) = some (.agg ((L.drop o).take k)) := by
 simp only [cX, bP, hb.cells hk]; rfl
theorem aR.but (hb : aR h b L) {c : Nat} (hc : b ≠ c) (k : qS c h h') : aR h' b L := by
 obtain ⟨hlt, es, t, h1, h2⟩ := hb; exact ⟨by rw [k.size]; exact hlt, es, t, by rw [k.get b hc]; exact h1, h2⟩
theorem aR.grown (hb : aR h b L) (g : aX h h') : aR h' b L := by
 obtain ⟨hlt, es, t, h1, h2⟩ := hb; exact ⟨Nat.lt_of_lt_of_le hlt g.size, es, t, by rw [g.get b hlt]; exact h1, h2⟩
theorem aR.keep {n : Nat} (hb : aR h b L) (k : dE n h h') (hn : b < n) : aR h' b L := by
 obtain ⟨hlt, es, t, h1, h2⟩ := hb; exact ⟨Nat.lt_of_lt_of_le hlt k.size, es, t, by rw [k.get b hn]; exact h1, h2⟩
theorem aR.store (hb : aR h b L) {vs : List DV} {o : Nat} (hv : vs.all DV.one = true) (ho : o + vs.length <= L.length) :
   ∃ h', eW vs h b o = some h' /\ aR h' b (L.take o ++ vs ++ L.drop (o + vs.length)) /\ qS b h h' := by
 obtain ⟨hlt, es, t, h1, h2⟩ := hb; obtain ⟨h', t', f1, f2, f3, f4, f5⟩ := qB (h := h) (b := b) (o := o) (vs := vs) h1 rfl ho hv; have hlen : (L.take o ++ vs ++ L.drop (o + vs.length)).length = L.length := by simp; omega
 refine ⟨h', f1, ⟨by rw [f2]; exact hlt, es, t', by rw [f4, hlen], λ j x hj => ?_⟩, ⟨f2, f3⟩⟩
 rw [f5]; have ht : (L.take o).length = o := by simp; omega
 by_cases hjo : o <= j /\ j < o + vs.length
 · rw [if_pos hjo]; rw [List.append_assoc, List.getElem?_append_right (by omega), ht, List.getElem?_append_left (by omega)] at hj
   exact hj
 · rw [if_neg hjo]; apply h2; rcases Nat.lt_or_ge j o with hlt | hge
   · rw [List.append_assoc, List.getElem?_append_left (by omega), List.getElem?_take, if_pos hlt] at hj
     exact hj
   · have hge2 : o + vs.length <= j := by
       rcases Nat.lt_or_ge j (o + vs.length) with h3 | h3
       · exact absurd ⟨hge, h3⟩ hjo
       · exact h3
     rw [List.getElem?_append_right (by simp only [List.length_append, ht]; omega), List.length_append, ht, List.getElem?_drop] at hj
     rw [show j = o + vs.length + (j - (o + vs.length)) from by omega]; exact hj
theorem aAR {v : DV} (hv : v.one = true) : v.cells = [v] := by cases v <;> first | rfl | cases hv
theorem aR.set (hb : aR h b L) {j : Nat} {v : DV} (hv : v.one = true) (hj : j < L.length) :
   ∃ h', dD 1 (.ptr b j) v h = some (.tup [], h') /\ aR h' b (L.set j v) /\ qS b h h' := by
 obtain ⟨h', f1, f2, f3⟩ := hb.store (vs := [v]) (o := j) (by simp [hv]) (by simp; omega)
 refine ⟨h', ?_, ?_, f3⟩
 · rw [mY]; simp only [dSt, aAR hv, List.length_singleton, Nat.beq_refl, cond_true, f1, Option.map_some]
 · have : L.take j ++ [v] ++ L.drop (j + [v].length) = L.set j v := by
     rw [List.set_eq_take_append_cons_drop, if_pos hj]; simp
   rw [<- this]; exact f2
theorem aR.setN (hb : aR h b L) {o n : Nat} {cs : List DV} (hn : cs.length = n) (hv : cs.all DV.one = true) (ho : o + n <= L.length) :
   ∃ h', dD n (.ptr b o) (.agg cs) h = some (.tup [], h') /\ aR h' b (L.take o ++ cs ++ L.drop (o + n)) /\ qS b h h' := by
 subst hn; obtain ⟨h', f1, f2, f3⟩ := hb.store (vs := cs) (o := o) hv ho; refine ⟨h', ?_, f2, f3⟩; rw [mY]; have : (DV.agg cs).cells = cs := rfl; simp only [dSt, this, Nat.beq_refl, cond_true, f1, Option.map_some]
theorem vX {R : Type} (cs : List DV) (h : H) (k : DV -> H -> Option R) : cY (.agg cs) h k = k (.ptr h.size 0) (h.push (.blk ⟨cs.length, cs.length, false, true, Tr.ofL cs⟩)) := by
 simp only [cY, aM, H.pushK_eq]; rfl
theorem vW {R : Type} {v : DV} (hv : v.one = true) (h : H) (k : DV -> H -> Option R) : cY v h k = k (.ptr h.size 0) (h.push (.blk ⟨1, 1, false, true, Tr.ofL [v]⟩)) := by
 simp only [cY, aM, H.pushK_eq, aAR hv]; rfl
theorem aR.pushed {L : List DV} {es : Nat} : aR (h.push (.blk ⟨L.length, es, false, true, Tr.ofL L⟩)) h.size L :=
 ⟨by rw [H.size_push]; omega, es, _, by rw [H.get_push, if_pos rfl], λ j x hj => by rw [Tr.at_ofL]; exact hj⟩
theorem aR.text {s : Ln} {o c : Nat} {op : Bool} (hb : aR h b L) (hs : (L.drop o).take s.length = bV s) (hk : o + s.length <= L.length) (hok : aP s = true) : kF h.get (.slc b o s.length c op) = some (.str s) := by
 simp only [kF, bP, hb.cells hk, hs, Option.bind_some, nE hok, fI]
end
@[simp] theorem aZ (b o : Nat) : aC (.ptr b o) = some (.ptr b o) := id rfl
theorem cS (off b o : Nat) : aG off (.ptr b o) = some (.ptr b (o + off)) := by simp only [aG, aM]
theorem aSg {len es b o j : Nat} (hj : j < len) (k : IntKind) : pT len es (.ptr b o) (.int k (.ofNat j)) = some (.ptr b (o + j * es)) := by
 simp only [pT, nR, aM]; rw [dK hj]; rfl
theorem aTS {n b o j : Nat} (hj : j <= n) (hn : 0 < n) (k : IntKind) : aCy n 1 (.ptr b o) none (some (.int k (.ofNat j))) = some (.slc b o j n false) := by
 simp only [aCy, dC, dHi, dLo]; rw [Nat.ble_eq_true_of_le hj, cond_true, Nat.ble_eq_true_of_le (Nat.zero_le _), cond_true, dK hn, cond_true]; simp [aM]
end Go.DI
namespace Go.DI
open Go.RowKit
theorem aAv (k' : IntKind) {a b : Nat} (hb : b <= 64) : uB (.int .u64 (.ofNat a)) (.int k' (.ofNat b)) = some (.int .u64 (.ofNat (a * 2 ^ b % 18446744073709551616))) := by
 show mP .shl .u64 (.ofNat a) (.ofNat b) = _; unfold mP; rw [show iLt (.ofNat b) 0 = false from by rw [mN]; simp]
 simp only [cond_false, gP]; rw [show min (Int.ofNat b).toNat IntKind.u64.bits = b from by show min b 64 = b; omega, yT]
 congr 2
theorem aSd {a : Nat} (ha : a < 9223372036854775808) (k' : IntKind) : lN (.int .i64 (.negSucc a)) (.int k' (.ofNat 63)) = some (.int .i64 (.negSucc 0)) := by
 show mP .shr .i64 (.negSucc a) (.ofNat 63) = _; unfold mP; rw [show iLt (.ofNat 63) 0 = false from by rw [mN]; simp]
 simp only [cond_false, lU]; rw [show min (Int.ofNat 63).toNat IntKind.i64.bits = 63 from rfl]
 congr 2
 rw [Int.fdiv_eq_ediv_of_nonneg _ (by omega)]
 omega
theorem aTW {u : Nat} (h : u < 18446744073709551616) : qV (.int .u64 (.ofNat u)) (.int .u64 (.ofNat 127)) = some (.int .u64 (.ofNat (u % 128))) := by
 have e : u &&& 127 = u % 128 := Nat.and_two_pow_sub_one_eq_mod u 7; rw [aAx .u64 u 127 (by show u < 2 ^ 64; omega) (by decide), e, oO (by omega)]
theorem bGw {u : Nat} (h : u < 18446744073709551616) : qV (.int .u64 (.ofNat u)) (.int .u64 (.ofNat 1)) = some (.int .u64 (.ofNat (u % 2))) := by
 have e : u &&& 1 = u % 2 := Nat.and_two_pow_sub_one_eq_mod u 1; rw [aAx .u64 u 1 (by show u < 2 ^ 64; omega) (by decide), e, oO (by omega)]
theorem aIF (k : IntKind) (a b : Nat) (ha : a < 2 ^ k.bits) (hb : b < 2 ^ k.bits) : aED (.int k (.ofNat a)) (.int k (.ofNat b)) = some (.int k (k.wrap (.ofNat (a ||| b)))) := by
 show (bif kEq k k then bBM k (.ofNat a) (.ofNat b) else none) = _; rw [gJ]; show (bif Nat.blt a (2 ^ k.bits) && Nat.blt b (2 ^ k.bits) then iO k (.ofNat (Nat.lor a b)) else _) = _; rw [dK ha, dK hb]; exact gP _ _
set_option maxRecDepth 100000 in
theorem bGR : ∀ x, x < 256 -> x ||| 128 = x % 128 + 128 := by decide
theorem bAT {x : Nat} (h : x < 256) : aED (.int .u8 (.ofNat x)) (.int .u8 (.ofNat 128)) = some (iD (x % 128 + 128)) := by
 rw [aIF .u8 x 128 (by show x < 2 ^ 8; omega) (by decide), bGR x h]
 unfold iD; rw [wrap_u8 (by omega)]
theorem aJf {a b i : Nat} (h : a < 2 ^ i) : a ||| b * 2 ^ i = a + b * 2 ^ i := by
 have := Nat.two_pow_add_eq_or_of_lt h b; rw [Nat.mul_comm b, Nat.or_comm]; omega
theorem conv_u8 (u : Nat) (k : IntKind) : cN .u8 (.int k (.ofNat u)) = some (.int .u8 (.ofNat (u % 256))) := by
 rw [fM, IntKind.wrap_u8]
 congr 2
theorem qL {b : Nat} (h : b < 18446744073709551616) (k : IntKind) : cN .u64 (.int k (.ofNat b)) = some (.int .u64 (.ofNat b)) := by
 rw [fM, oO h]
theorem aGz {a b : Nat} (k k' : IntKind) (hb : b <= k.bits) : lN (.int k (.ofNat a)) (.int k' (.ofNat b)) = some (.int k (.ofNat (a / 2 ^ b))) := qU k k' a b hb
theorem aIy {x : Nat} (h : x < 18446744073709551616) : x ^^^ 18446744073709551615 = 18446744073709551615 - x := by
 apply Nat.eq_of_testBit_eq; intro i; rw [Nat.testBit_xor, show 18446744073709551615 - x = 2 ^ 64 - (x + 1) from by omega, Nat.testBit_two_pow_sub_succ h, show 18446744073709551615 = 2 ^ 64 - 1 from rfl, Nat.testBit_two_pow_sub_one]
 by_cases hi : i < 64
 · simp [hi]
 · have : x.testBit i = false := Nat.testBit_lt_two_pow (Nat.lt_of_lt_of_le h (by
     show 2 ^ 64 <= 2 ^ i; exact Nat.pow_le_pow_right (by omega) (by omega)))
   simp [hi, this]
def zz (n : Int) : Nat := match n with
 | .ofNat a => 2 * a
 | .negSucc a => 2 * a + 1
theorem bGm {n : Int} (h1 : -9223372036854775808 <= n) (h2 : n < 9223372036854775808) : ∃ (x y z : DV), cN .u64 (.int .i64 n) = some x /\ uB x (.int .u64 (.ofNat 1)) = some y /\ lN (.int .i64 n) (.int .u64 (.ofNat 63)) = some z /\
   ∃ w, cN .u64 z = some w /\ pS y w = some (.int .u64 (.ofNat (zz n))) := by
 cases n with
 | ofNat a =>
   simp only [Int.ofNat_eq_natCast] at h2; refine ⟨_, _, _, qL (by omega) _, aAv _ (by omega), aGz _ _ (by decide), _, qL (by omega) _, ?_⟩
   have e1 : a * 2 ^ 1 % 18446744073709551616 = 2 * a := by omega
   have e2 : a / 2 ^ 63 = 0 := by omega
   rw [e1, e2, lG .u64 _ _ (by show 2 * a < 2 ^ 64; omega) (by decide), Nat.xor_zero, oO (by omega)]; rfl
 | negSucc a =>
   have ha : a < 9223372036854775808 := by omega
   have e0 : IntKind.u64.wrap (.negSucc a) = .ofNat (18446744073709551615 - a) := by
     rw [yT]; simp only [Int.ofNat_eq_natCast]; omega
   have e3 : IntKind.u64.wrap (.negSucc 0) = .ofNat 18446744073709551615 := by rw [yT]; rfl
   refine ⟨.int .u64 (.ofNat (18446744073709551615 - a)), _, _, by rw [fM, e0], aAv _ (by omega), aSd ha _, .int .u64 (.ofNat 18446744073709551615), by rw [fM, e3], ?_⟩
   have e1 : (18446744073709551615 - a) * 2 ^ 1 % 18446744073709551616 = 18446744073709551614 - 2 * a := by omega
   rw [e1, lG .u64 _ _ (by show 18446744073709551614 - 2 * a < 2 ^ 64; omega) (by decide), aIy (by omega), oO (by omega)]
   have e5 : 18446744073709551615 - (18446744073709551614 - 2 * a) = 2 * a + 1 := by omega
   rw [e5]; rfl
theorem aSe (k : IntKind) (n : Int) : wY (.int k n) = some (.int k (k.wrap (0 - n))) := gP _ _
theorem bHj {n : Int} (h1 : -9223372036854775808 <= n) (h2 : n < 9223372036854775808) : IntKind.i64.wrap n = n := pR (by omega) (by omega)
theorem aTX {u : Nat} (h : u < 18446744073709551616) : ∃ x y z w : DV, lN (.int .u64 (.ofNat u)) (.int .u64 (.ofNat 1)) = some x /\ cN .i64 x = some y /\ qV (.int .u64 (.ofNat u)) (.int .u64 (.ofNat 1)) = some z /\ cN .i64 z = some w /\
   ∃ q, wY w = some q /\ pS y q = some (.int .i64 (if u % 2 = 0 then .ofNat (u / 2) else .negSucc (u / 2))) := by
 refine ⟨_, .int .i64 (.ofNat (u / 2)), _, .int .i64 (.ofNat (u % 2)), aGz _ _ (by decide), by rw [fM, wrap_i64 (by omega)], bGw h, by rw [fM, wrap_i64 (by omega)], _, aSe _ _, ?_⟩
 by_cases hu : u % 2 = 0
 · rw [hu, if_pos rfl]; have : IntKind.i64.wrap (0 - Int.ofNat 0) = .ofNat 0 := rfl; rw [this, lG .i64 _ _ (by show u / 2 < 2 ^ 64; omega) (by decide), Nat.xor_zero, wrap_i64 (by omega)]
 · have hu1 : u % 2 = 1 := by omega
   rw [hu1, if_neg (by omega)]
   have : IntKind.i64.wrap (0 - Int.ofNat 1) = .negSucc 0 := rfl; rw [this]; show (bif kEq .i64 .i64 then aJJ .i64 (.ofNat (u / 2)) (.negSucc 0) else none) = _; rw [gJ]; show iO .i64 (nV .i64 (· ^^^ ·) (.ofNat (u / 2)) (.negSucc 0)) = _; rw [gP]; have e : nV .i64 (· ^^^ ·) (.ofNat (u / 2)) (.negSucc 0) = .ofNat (18446744073709551615 - u / 2) := by
     unfold nV; have b1 : (BitVec.ofInt IntKind.i64.bits (.ofNat (u / 2))).toNat = u / 2 := pG 64 (u / 2) (by show u / 2 < 2 ^ 64; omega)
     have b2 : (BitVec.ofInt IntKind.i64.bits (.negSucc 0)).toNat = 18446744073709551615 := rfl; rw [BitVec.toNat_xor, b1, b2, aIy (by omega)]; rfl
   rw [e]
   congr 2
   have : IntKind.i64.wrap (.ofNat (18446744073709551615 - u / 2)) = IntKind.i64.wrap (.negSucc (u / 2)) := by
     simp only [IntKind.wrap_i64, Int.ofNat_eq_natCast]; omega
   rw [this]; exact bHj (by omega) (by omega)
theorem aLW {R : Type} {n es : Nat} (L : List DV) (h : H) (k : DV -> H -> Option R) : gR n es (.list L) h k = k (.ptr h.size 0) (h.push (.blk ⟨n, es, false, true, Tr.ofL L⟩)) := by
 simp only [gR, H.pushK_eq]; rfl
theorem bBn (k : IntKind) (n : Int) : rcK (some (.int k n)) (.int k n) = true := by
 show gL (.int k n) (.int k n) = true; simp only [gL, Bool.and_eq_true]
 first | (constructor <;> simp) | simp
theorem fF (rd : Rd) (b o : Nat) : cM .ptr false rd (.ptr b o) .nilp = some (.bool false) := rfl
theorem uE (rd : Rd) (b o : Nat) : cM .ptr true rd (.ptr b o) .nilp = some (.bool true) := rfl
def aRW (n0 : Nat) (h : H) (v : DV) (L : List DV) : Prop := bM n0 h v L \/
 ∃ b o B, v = .slc b o L.length L.length false /\ h.get b = some (.blk B) /\ ∀ j x, L[j]? = some x -> rdCell h.get b (o + j) = some x
theorem aRW.push1 {n0 : Nat} {h : H} {v x z : DV} {L : List DV} {bytes : Nat} (o : aRW n0 h v L) (hlt : ∀ b o n c op, v = .slc b o n c op -> b < h.size) (hn0 : n0 <= h.size) (h1 : x.one = true)
   (hs : (L.length + 1) * bytes < aY) (hs2 : L.length + 1 < aY) : ∃ v' h', (∀ (R : Type) (k : DV -> H -> Option R), (dI 1 1 [z] [(0, 1, x)] h λ y h' => wK (cJ 1 bytes v y h') k) = k v' h') /\ bM n0 h' v' (L ++ [x]) /\ dE n0 h h' := by
 rcases o with o | ⟨b, off, B, rfl, hB, hc⟩
 · exact o.push1 hn0 h1 hs hs2
 · have hb := hlt b off _ _ _ rfl
   let h1' := h.push (.blk ⟨1 * 1, 1, false, true, Tr.ofL [x]⟩)
   have hp : bT h1' h.size [x] := bT.pushed (h := h) (L := [x]) (pl := true); have hB' : h1'.get b = some (.blk B) := by show (h.push _).get b = _; rw [H.get_push, if_neg (by omega)]; exact hB
   have hrow : rdCells h1'.get b off L.length = some L := mK L off λ j y hj => by rw [mZ (hB'.trans hB.symm)]; exact hc j y hj
   have hf : fG (iI [z] 1) [(0, 1, x)] = some [x] := by simp [fG, iI, aAR h1, pW]; rfl
   have hne : ¬ L.length + 1 <= L.length := by omega
   have hap : cJ 1 bytes (.slc b off L.length L.length false) (.slc h.size 0 1 1 false) h1' = some (.slc h1'.size 0 (L.length + 1) (L.length + 1) true, h1'.push (.blk ⟨L.length + 1, 1, false, true, Tr.ofL (L ++ [x])⟩)) := by
     rw [iT]; have hx : dV 1 h1'.get (.slc h.size 0 1 1 false) = some [x] := by
       have := hp.cells_all
       simpa [dV] using this
     simp only [iB, eZ, hx, Option.bind_some, aM, qH hne, cond_false, dK hs, dK hs2, Bool.and_self, cond_true, hB', Nat.mul_one, hrow, H.pushK_eq]
   refine ⟨.slc h1'.size 0 (L.length + 1) (L.length + 1) true, h1'.push (.blk ⟨L.length + 1, 1, false, true, Tr.ofL (L ++ [x])⟩), λ R k => ?_, .inr ⟨h1'.size, by show n0 <= h1'.size; rw [show h1'.size = h.size + 1 from rfl]; omega, ?_, ?_⟩, ?_⟩
   · simp only [dI, hf, Option.bind_some, H.pushK_eq]; show wK (cJ 1 bytes (.slc b off L.length L.length false) (.slc h.size 0 1 1 false) h1') k = _; rw [hap]; rfl
   · simp
   · have := bT.pushed (h := h1') (L := L ++ [x]) (pl := true); rw [List.length_append] at this; exact this
   · exact (dE.push hn0 _).trans (dE.push (by show n0 <= h1'.size; rw [show h1'.size = h.size + 1 from rfl]; omega) _)
theorem bM.lt_size {n0 : Nat} {h : H} {v : DV} {L : List DV} (o : bM n0 h v L) : ∀ b o n c op, v = .slc b o n c op -> b < h.size := by
 intro b off n c op e; rcases o with ⟨rfl, _⟩ | ⟨b', _, rfl, hb⟩
 · cases e
 · cases e; exact hb.1
def aNP (h : H) (v : DV) (L : List DV) : Prop := aRW h.size h v L /\ ∀ b o n c op, v = .slc b o n c op -> b < h.size
theorem aR.all {h : H} {b n : Nat} {L : List DV} (hb : aR h b L) (hn : L.length = n) : cX n h.get (.ptr b 0) = some (.agg L) := by
 rw [hb.readN (by omega), List.drop_zero, List.take_of_length_le (by omega)]
theorem aR.setAll {h : H} {b n : Nat} {L cs : List DV} (hb : aR h b L) (hL : L.length = n) (hn : cs.length = n) (hv : cs.all DV.one = true) :
   ∃ h', dD n (.ptr b 0) (.agg cs) h = some (.tup [], h') /\ aR h' b cs /\ qS b h h' := by
 obtain ⟨h', f1, f2, f3⟩ := hb.setN (o := 0) hn hv (by omega)
 refine ⟨h', f1, ?_, f3⟩; rw [List.take_zero, List.nil_append, Nat.zero_add, List.drop_of_length_le (by omega), List.append_nil] at f2
 exact f2
end Go.DI
end
