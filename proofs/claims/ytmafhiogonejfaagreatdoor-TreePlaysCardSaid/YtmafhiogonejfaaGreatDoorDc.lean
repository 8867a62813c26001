/- D once more, its registers a function; plain functions that are D's; functions told by what they compute; deferred closures that recover. No condition beyond the theorems' own. -/
import Derived.Recover
import Derived.SliceStrings
import Derived.SizedLaws
import Derived.WideShapes
import Derived.Lib.Join
import Derived.Test.YtmafhiogonejfaaGreatDoorDb
set_option linter.unusedVariables false
set_option linter.unusedSimpArgs false
noncomputable section
namespace Go.DI
open Go.RowKit
theorem gD.mono {P : Program} {f : FuncId} {F G : cD} (hF : gD P f F) (h : ∀ args h r, G args h = some r -> F args h = some r) : gD P f G :=
 λ N0 w0 m hh w args args' v h' hr ht hw => hF N0 w0 m hh w args args' v h' (h _ _ _ hr) ht hw
structure aJ (h h' : H) : Prop where
 size : h.size <= h'.size
 get : ∀ b, b < h.size -> h'.get b = h.get b
theorem aJ.refl (h : H) : aJ h h := ⟨Nat.le_refl _, λ _ _ => rfl⟩
theorem aJ.trans {a b c : H} (x : aJ a b) (y : aJ b c) : aJ a c :=
 ⟨Nat.le_trans x.size y.size, λ i hi => (y.get i (Nat.lt_of_lt_of_le hi x.size)).trans (x.get i hi)⟩
theorem aJ.push (h : H) (o : iY) : aJ h (h.push o) := ⟨by simp, λ b hb => by rw [H.get_push, if_neg (by omega)]⟩
def oN (v : DV) : Prop := ∀ m m' : Mp, tr m v = tr m' v
theorem cY.forget {N0 : Nat} {w0 : World} {m m' : Mp} {h h' : H} {w w' : World} (hw : cY N0 w0 m h w) (hw' : cY N0 w0 m' h' w') (he : lK m h m' h') (hg : aJ h h') : cY N0 w0 m h w' := by
 have hgb : ∀ b i, m b = some i -> h'.get b = h.get b := λ b i e => hg.get b (hw.lt b i e).1
 refine ⟨λ b i e => ⟨(hw.lt b i e).1, (hw'.lt b i (he.le b i e)).2⟩, λ b i e => ?_, hw.inj, hw'.below, hw'.base, hw.wf⟩
 obtain ⟨o, g, r, n⟩ := hw.has b i e; obtain ⟨o', g', r', n'⟩ := hw'.has b i (he.le b i e); rw [hgb b i e, g] at g'; cases g'; refine ⟨o, g, ?_, n⟩; cases o with
 | blk B =>
   obtain ⟨⟨c, el, fr, h1, h2, h3⟩, _, _⟩ := r; obtain ⟨⟨c', el', fr', h1', h2', h3'⟩, hf', hp'⟩ := r'; refine ⟨⟨c', el', fr', h1', h2', λ j hj => ?_⟩, hf', hp'⟩
   rcases h3 j hj with ⟨v, v', a, b', d⟩ | hx
   · rcases h3' j hj with ⟨u, u', a', b'', d'⟩ | ⟨_, hx⟩
     · rw [a] at a'; cases a'; rw [fF he.le _ _ b'] at b''; cases b''; exact .inl ⟨v, v', a, b', d'⟩
     · rw [a] at hx; cases hx
   · exact .inr hx
 | dead => trivial
 | map ds clock =>
   obtain ⟨es, h1, h2⟩ := r; obtain ⟨es', h1', h2'⟩ := r'; refine ⟨es', h1', ?_⟩; have same : ∀ {ds : List yC} {es es' : List MapEntry}, gH m ds es -> gH m' ds es' -> gH m ds es' := by
     intro ds
     induction ds with
     | nil => intro es es' a b; cases es' <;> first | trivial | exact b.elim
     | cons d ds ih =>
       intro es es' a b; cases es with
       | nil => exact a.elim
       | cons e es =>
         cases es' with
         | nil => exact b.elim
         | cons e' es' =>
           refine ⟨⟨?_, ?_, b.1.2.2⟩, ih a.2 b.2⟩
           · have := fF he.le _ _ a.1.1; rw [b.1.1] at this; rw [a.1.1, this]
           · have := fF he.le _ _ a.1.2.1; rw [b.1.2.1] at this; rw [a.1.2.1, this]
   exact same h2 h2'
theorem gD.forget {P : Program} {f : FuncId} {F G : cD} (hF : gD P f F)
   (hG : ∀ args h v h', G args h = some (v, h') -> h' = h /\ oN v /\ ∃ h1, F args h = some (v, h1) /\ aJ h h1) : gD P f G := by
 intro N0 w0 m h w args args' v h' hr ht hw; obtain ⟨rfl, hv, h1, h2, h3⟩ := hG _ _ _ _ hr; refine (hF N0 w0 m h' w args args' v h1 h2 ht hw).mono λ e w' hh => ?_
 obtain ⟨m', v', e1, e2, e3, e4⟩ := hh; exact ⟨m, v', e1, by rw [hv m m']; exact e2, hw.forget e3 e4 h3, lK.refl _ _⟩
theorem oN.int (k : IntKind) (n : Int) : oN (.int k n) := λ _ _ => rfl
theorem oN.str (s : Ln) : oN (.str s) := λ _ _ => rfl
theorem oN.tup2 {a b : DV} (ha : oN a) (hb : oN b) : oN (.tup [a, b]) := λ m m' => by simp only [tr, trs, ha m m', hb m m']
end Go.DI
namespace Go.DI
open Go.RowKit
section
variable {R : Type}
def vK (o : Option DV) (k : DV -> Option R) : Option R := Option.rec (motive := λ _ => Option R) none k o
def wK (o : Option (DV × H)) (k : DV -> H -> Option R) : Option R := Option.rec (motive := λ _ => Option R) none (λ x => Prod.rec (motive := λ _ => Option R) k x) o
def bK (x : DV) (a b : Option R) : Option R := match x with
 | .bool c => Bool.rec b a c
 | _ => none
def gK (x : DV) (t : Bool) (a b : Option R) : Option R := match x with
 | .bool c => Bool.rec (Bool.rec a b t) (Bool.rec b a t) c
 | _ => b
def rcK (o : Option DV) (v : DV) : Bool := Option.rec (motive := λ _ => Bool) false (λ u => qH u v) o
theorem bFJ (o : Option DV) (k : DV -> Option R) : vK o k = o.bind k := by cases o <;> rfl
theorem bFI (o : Option (DV × H)) (k : DV -> H -> Option R) : wK o k = o.bind λ x => k x.1 x.2 := by cases o <;> rfl
end
theorem rY (n a : Nat) (ha : a < 2 ^ n) : (BitVec.ofInt n (Int.ofNat a)).toNat = a := by
 rw [BitVec.toNat_ofInt]; have h2 : (Int.ofNat a) % ((2 ^ n : Nat) : Int) = (a : Int) := by
   rw [Int.ofNat_eq_natCast, <- Int.natCast_emod, Nat.mod_eq_of_lt ha]
 have h3 : ∀ z : Int, z = ((2 ^ n : Nat) : Int) -> ((Int.ofNat a) % z).toNat = a := by
   intro z hz; rw [hz, h2]; rfl
 exact h3 _ (by simp)
def fb (f : Nat -> Nat -> Nat) (s : IntKind -> Int -> Int -> Option DV) (k : IntKind) (x y : Int) : Option DV :=
 Int.rec (motive := λ _ => Option DV) (λ a => Int.rec (motive := λ _ => Option DV) (λ b => bif Nat.blt a (2 ^ k.bits) && Nat.blt b (2 ^ k.bits) then jO k (.ofNat (f a b)) else s k x y) (λ _ => s k x y) y) (λ _ => s k x y) x
theorem aVF {f : Nat -> Nat -> Nat} {s : IntKind -> Int -> Int -> Option DV} {k : IntKind} (h : ∀ a b, a < 2 ^ k.bits -> b < 2 ^ k.bits -> s k (.ofNat a) (.ofNat b) = jO k (.ofNat (f a b))) (x y : Int) : fb f s k x y = s k x y := by
 cases x with
 | negSucc a => rfl
 | ofNat a =>
   cases y with
   | negSucc b => rfl
   | ofNat b =>
     show (bif Nat.blt a (2 ^ k.bits) && Nat.blt b (2 ^ k.bits) then jO k (.ofNat (f a b)) else s k (.ofNat a) (.ofNat b)) = _; cases hb : (Nat.blt a (2 ^ k.bits) && Nat.blt b (2 ^ k.bits)) with
     | false => rfl
     | true =>
       rw [Bool.and_eq_true, Nat.blt_eq, Nat.blt_eq] at hb; exact (h a b hb.1 hb.2).symm
def aQG : IntKind -> Int -> Int -> Option DV := fb Nat.land aRc
def bCM : IntKind -> Int -> Int -> Option DV := fb Nat.lor bDx
def aQF : IntKind -> Int -> Int -> Option DV := fb Nat.xor aQT
theorem aVH (k : IntKind) (x y : Int) : aQG k x y = aRc k x y := aVF (λ a b ha hb => by
 unfold aRc rZ; rw [BitVec.toNat_and, rY _ _ ha, rY _ _ hb]; rfl) x y
theorem bCL (k : IntKind) (x y : Int) : bCM k x y = bDx k x y := aVF (λ a b ha hb => by
 unfold bDx rZ; rw [BitVec.toNat_or, rY _ _ ha, rY _ _ hb]; rfl) x y
theorem aVG (k : IntKind) (x y : Int) : aQF k x y = aQT k x y := aVF (λ a b ha hb => by
 unfold aQT rZ; rw [BitVec.toNat_xor, rY _ _ ha, rY _ _ hb]; rfl) x y
def vT (f : IntKind -> Int -> Int -> Option DV) (g : Ln -> Ln -> Option DV) (a b : DV) : Option DV := match a, b with
 | .int k x, .int k' y => bif kEq k k' then f k x y else none
 | .str s, .str t => g s t
 | _, _ => none
def xU (s t : Ln) : Option DV := none
def bFS (s t : Ln) : Option DV := bif Nat.blt (s.length + t.length) gS then xZ (s ++ t) else none
def bFR (s t : Ln) : Option DV := eU (sEq s t)
def bFN (s t : Ln) : Option DV := eU (!sEq s t)
def aQg (s t : Ln) : Option DV := eU (tC s t)
def bFO (s t : Ln) : Option DV := eU (tC s t || sEq s t)
def bFP (s t : Ln) : Option DV := eU (!(tC s t || sEq s t))
def bFQ (s t : Ln) : Option DV := eU (!tC s t)
def bDw (op : BinOp) (a b : DV) : Option DV := match a, b with
 | .int k x, .int _ y => pW op k x y
 | _, _ => none
def bL : DV -> DV -> Option DV := vT aRd bFS
def fB : DV -> DV -> Option DV := vT aQU xU
def aCJ : DV -> DV -> Option DV := vT aWn xU
def aPU : DV -> DV -> Option DV := vT aQV xU
def bSr : DV -> DV -> Option DV := vT aWl xU
def aEc : DV -> DV -> Option DV := vT aQG xU
def aSz : DV -> DV -> Option DV := vT bCM xU
def aDX : DV -> DV -> Option DV := vT aQF xU
def aDZ : DV -> DV -> Option DV := bDw .shl
def yE : DV -> DV -> Option DV := bDw .shr
def aUk : DV -> DV -> Option DV := vT aFl xU
def bS : DV -> DV -> Option DV := vT aRb bFR
def dC : DV -> DV -> Option DV := vT aQW bFN
def cR : DV -> DV -> Option DV := vT aQX aQg
def yF : DV -> DV -> Option DV := vT aQY bFO
def eJ : DV -> DV -> Option DV := vT aQZ bFP
def nS : DV -> DV -> Option DV := vT aRa bFQ
def aPY (op : BinOp) : DV -> DV -> Option DV :=
 BinOp.rec (motive := λ _ => DV -> DV -> Option DV) bL fB aCJ aPU bSr aEc aSz aDX aDZ yE aUk bS dC cR yF eJ nS op
theorem jF {op : BinOp} (hs : oX op = false) {f : IntKind -> Int -> Int -> Option DV} {g : Ln -> Ln -> Option DV} (hf : ∀ k x y, f k x y = xJ op k x y) (hg : ∀ s t, g s t = xI op s t) (a b : DV) : vT f g a b = aFd op a b := by
 cases a <;> cases b <;> first | rfl | (simp only [vT, aFd, aVo, hs, cond_false, hf, hg])
theorem aQR {op : BinOp} (hs : oX op = true) (hg : ∀ s t, xI op s t = none) (a b : DV) : bDw op a b = aFd op a b := by
 cases a <;> cases b <;> first | rfl | (simp only [bDw, aFd, hs, cond_true, hg])
theorem aUj (op : BinOp) (a b : DV) : aPY op a b = aFd op a b := by
 cases op
 · exact jF (op := .add) (f := aRd) (g := bFS) rfl (λ k x y => by show jO k (aVt x y) = jO k (x + y); rw [aIV]) (λ _ _ => rfl) a b
 · exact jF (op := .sub) (f := aQU) (g := xU) rfl (λ _ _ _ => rfl) (λ _ _ => rfl) a b
 · exact jF (op := .mul) (f := aWn) (g := xU) rfl (λ _ _ _ => rfl) (λ _ _ => rfl) a b
 · exact jF (op := .quo) (f := aQV) (g := xU) rfl (λ _ _ _ => rfl) (λ _ _ => rfl) a b
 · exact jF (op := .rem) (f := aWl) (g := xU) rfl (λ _ _ _ => rfl) (λ _ _ => rfl) a b
 · exact jF (op := .and) (f := aQG) (g := xU) rfl (λ k x y => aVH k x y) (λ _ _ => rfl) a b
 · exact jF (op := .or) (f := bCM) (g := xU) rfl (λ k x y => bCL k x y) (λ _ _ => rfl) a b
 · exact jF (op := .xor) (f := aQF) (g := xU) rfl (λ k x y => aVG k x y) (λ _ _ => rfl) a b
 · exact aQR (op := .shl) rfl (λ _ _ => rfl) a b
 · exact aQR (op := .shr) rfl (λ _ _ => rfl) a b
 · exact jF (op := .andNot) (f := aFl) (g := xU) rfl (λ _ _ _ => rfl) (λ _ _ => rfl) a b
 · exact jF (op := .eql) (f := aRb) (g := bFR) rfl (λ _ _ _ => rfl) (λ _ _ => rfl) a b
 · exact jF (op := .neq) (f := aQW) (g := bFN) rfl (λ _ _ _ => rfl) (λ _ _ => rfl) a b
 · exact jF (op := .lss) (f := aQX) (g := aQg) rfl (λ _ _ _ => rfl) (λ _ _ => rfl) a b
 · exact jF (op := .leq) (f := aQY) (g := bFO) rfl (λ _ _ _ => rfl) (λ _ _ => rfl) a b
 · exact jF (op := .gtr) (f := aQZ) (g := bFP) rfl (λ _ _ _ => rfl) (λ _ _ => rfl) a b
 · exact jF (op := .geq) (f := aRa) (g := bFQ) rfl (λ _ _ _ => rfl) (λ _ _ => rfl) a b
def aID (rd : Rd) (b j : Nat) : Option DV := match rd b with
 | some (.blk B) => bif Nat.blt j B.n then B.t.at_ j else none
 | _ => none
theorem cI (rd : Rd) (b j : Nat) : aID rd b j = rdCell rd b j := by
 unfold aID rdCell; cases rd b with
 | none => rfl
 | some o =>
   cases o with
   | blk B =>
     show (bif Nat.blt j B.n then B.t.at_ j else none) = if j < B.n then B.t.at_ j else none
     by_cases h : j < B.n
     · rw [if_pos h, show Nat.blt j B.n = true from by rw [Nat.blt_eq]; exact h]; rfl
     · rw [if_neg h, show Nat.blt j B.n = false from by rw [Bool.eq_false_iff, ne_eq, Nat.blt_eq]; exact h]; rfl
   | dead => rfl
   | map a b => rfl
def aVu (t : Tr DV) (n : Nat) : Nat -> Option (List DV) :=
 Nat.rec (motive := λ _ => Nat -> Option (List DV)) (λ _ => some []) (λ _ ih j => Option.rec (motive := λ _ => Option (List DV)) none (λ v => eB (Nat.succ j) λ j => Option.rec (motive := λ _ => Option (List DV)) none (λ vs => some (v :: vs)) (ih j)) (t.at_ j)) n
theorem aLZ {rd : Rd} {b : Nat} {B : Blk} (h : rd b = some (.blk B)) : ∀ (n j : Nat), j + n <= B.n -> aVu B.t n j = rdCells rd b j n
 | 0, j, _ => rfl
 | n + 1, j, hl => by
   show Option.rec (motive := λ _ => Option (List DV)) none (λ v => eB (Nat.succ j) λ j => Option.rec (motive := λ _ => Option (List DV)) none (λ vs => some (v :: vs)) (aVu B.t n j)) (B.t.at_ j) = _
   simp only [bE, rdCells]; rw [aLZ h n (j + 1) (by omega)]
   have e : rdCell rd b j = B.t.at_ j := by simp only [rdCell, h]; rw [if_pos (by omega)]
   rw [e]; cases B.t.at_ j with
   | none => rfl
   | some v => cases rdCells rd b (j + 1) n <;> rfl
theorem tL {rd : Rd} {b : Nat} : ∀ (n j : Nat), (∀ B, rd b = some (.blk B) -> B.n < j + n) -> 0 < n -> rdCells rd b j n = none
 | 0, j, _, h => absurd h (by omega)
 | n + 1, j, hb, _ => by
   simp only [rdCells]; cases hc : rdCell rd b j with
   | none => rfl
   | some v =>
     have : 0 < n := by
       unfold rdCell at hc; split at hc
       · rename_i B hB; split at hc
         · have := hb B hB; omega
         · cases hc
       · cases hc
     rw [tL n (j + 1) (λ B hB => by have := hb B hB; omega) this]
def nX (rd : Rd) (b j n : Nat) : Option (List DV) := bif Nat.beq n 0 then some [] else match rd b with
 | some (.blk B) => bif Nat.ble (j + n) B.n then aVu B.t n j else none
 | _ => none
theorem cH (rd : Rd) (b j n : Nat) : nX rd b j n = rdCells rd b j n := by
 unfold nX; by_cases h0 : n = 0
 · subst h0; rfl
 · rw [show Nat.beq n 0 = false from by cases h : Nat.beq n 0; rfl; exact absurd (Nat.eq_of_beq_eq_true h) h0, cond_false]
   split
   · rename_i B hB; by_cases hl : j + n <= B.n
     · rw [Nat.ble_eq_true_of_le hl, cond_true]; exact aLZ hB n j hl
     · rw [show Nat.ble (j + n) B.n = false from by cases h : Nat.ble (j + n) B.n; rfl; exact absurd (Nat.le_of_ble_eq_true h) hl, cond_false]
       exact (tL n j (λ B' hB' => by rw [hB] at hB'; cases hB'; omega) (by omega)).symm
   · rename_i hn; exact (tL n j (λ B' hB' => absurd hB' (hn B')) (by omega)).symm
def aQe {β : Type} (vs : List DV) : Nat -> Tr DV -> (Tr DV -> β) -> β :=
 List.rec (motive := λ _ => Nat -> Tr DV -> (Tr DV -> β) -> β) (λ _ t k => k t) (λ v _ ih o t k => Tr.setK v (Pa.of o) t λ t => eB (Nat.succ o) λ o => ih o t k) vs
def aLm : List DV -> Nat -> Tr DV -> Tr DV
 | [], _, t => t
 | v :: vs, o, t => aLm vs (o + 1) (Tr.set v (Pa.of o) t)
theorem aEn {β : Type} : ∀ (vs : List DV) (o : Nat) (t : Tr DV) (k : Tr DV -> β), aQe vs o t k = k (aLm vs o t)
 | [], _, _, _ => rfl
 | v :: vs, o, t, k => by
   show (Tr.setK v (Pa.of o) t λ t => eB (Nat.succ o) λ o => aQe vs o t k) = _
   rw [Tr.setK_eq, bE, aEn vs]; rfl
theorem Tr.set_set {α : Type} (x y : α) : ∀ (p : Pa) (t : Tr α), Tr.set y p (Tr.set x p t) = Tr.set y p t
 | .h, .e => rfl
 | .h, .n _ _ _ => rfl
 | .l p, .e => by show Tr.n (Tr.set y p (Tr.set x p .e)) none .e = Tr.n (Tr.set y p .e) none .e; rw [Tr.set_set x y p]
 | .l p, .n l v r => by show Tr.n (Tr.set y p (Tr.set x p l)) v r = Tr.n (Tr.set y p l) v r; rw [Tr.set_set x y p]
 | .r p, .e => by show Tr.n .e none (Tr.set y p (Tr.set x p .e)) = Tr.n .e none (Tr.set y p .e); rw [Tr.set_set x y p]
 | .r p, .n l v r => by show Tr.n l v (Tr.set y p (Tr.set x p r)) = Tr.n l v (Tr.set y p r); rw [Tr.set_set x y p]
theorem H.put_put (h : H) (b : Nat) (x y : iY) : (h.put b x).put b y = h.put b y := by
 unfold H.put Tr.put; simp only [Tr.set_set]
def aAY (vs : List DV) (h : H) (b o : Nat) : Option H := match vs with
 | [] => some h
 | v :: vs => match h.get b with
   | some (.blk B) => bif (!B.ro) && Nat.ble (o + (v :: vs).length) B.n && (v :: vs).all DV.one then
       aQe (v :: vs) o B.t λ t => h.putK b (.blk { B with t := t }) some
     else none
   | _ => none
theorem aBV : ∀ (vs : List DV) (h : H) (b o : Nat) (B : Blk), h.get b = some (.blk B) -> vs ≠ [] ->
   gY vs h b o = if (!B.ro) = true /\ o + vs.length <= B.n /\ vs.all DV.one = true then some (h.put b (.blk { B with t := aLm vs o B.t })) else none
 | [], _, _, _, _, _, h => absurd rfl h
 | v :: vs, h, b, o, B, hB, _ => by
   simp only [gY, hB]; by_cases hc : ((!B.ro) && Nat.blt o B.n && v.one) = true
   · rw [hc, cond_true, Tr.setK_eq, H.putK_eq, bE]; rw [Bool.and_eq_true, Bool.and_eq_true, Nat.blt_eq] at hc; obtain ⟨⟨h1, h2⟩, h3⟩ := hc; cases vs with
     | nil =>
       rw [if_pos ⟨h1, by simp only [List.length_cons, List.length_nil]; omega, by simp [h3]⟩]; rfl
     | cons u us =>
       rw [aBV (u :: us) _ b (o + 1) { B with t := Tr.set v (Pa.of o) B.t } (by rw [H.get_put, if_pos rfl]) (by simp)]
       simp only [H.put_put]; by_cases hd : (!B.ro) = true /\ o + 1 + (u :: us).length <= B.n /\ (u :: us).all DV.one = true
       · rw [if_pos hd, if_pos ⟨h1, by have := hd.2.1; simp only [List.length_cons] at this ⊢; omega, by rw [List.all_cons, h3, hd.2.2]; rfl⟩]; rfl
       · rw [if_neg hd, if_neg]; intro hh; apply hd; refine ⟨h1, by have := hh.2.1; simp only [List.length_cons] at this ⊢; omega, ?_⟩
         have := hh.2.2; rw [List.all_cons, Bool.and_eq_true] at this; exact this.2
   · have hc' : ((!B.ro) && Nat.blt o B.n && v.one) = false := by simpa using hc
     rw [hc', cond_false, if_neg]; intro hh; apply hc; rw [Bool.and_eq_true, Bool.and_eq_true, Nat.blt_eq]; have h3 := hh.2.2; rw [List.all_cons, Bool.and_eq_true] at h3; exact ⟨⟨hh.1, by have := hh.2.1; simp only [List.length_cons] at this; omega⟩, h3.1⟩
theorem zH (vs : List DV) (h : H) (b o : Nat) : aAY vs h b o = gY vs h b o := by
 unfold aAY; split
 · rfl
 · rename_i v vs; split
   · rename_i B hB; rw [aBV (v :: vs) h b o B hB (by simp)]
     by_cases hd : (!B.ro) = true /\ o + (v :: vs).length <= B.n /\ (v :: vs).all DV.one = true
     · rw [if_pos hd, hd.1, Nat.ble_eq_true_of_le hd.2.1, hd.2.2]; simp only [Bool.and_self, cond_true, aEn, H.putK_eq]
     · rw [if_neg hd]; have : ((!B.ro) && Nat.ble (o + (v :: vs).length) B.n && (v :: vs).all DV.one) = false := by
         rw [Bool.eq_false_iff]; intro hh; rw [Bool.and_eq_true, Bool.and_eq_true] at hh; exact hd ⟨hh.1.1, Nat.le_of_ble_eq_true hh.1.2, hh.2⟩
       rw [this, cond_false]
   · rename_i hn; simp only [gY]
def bR (n : Nat) (a x : DV) (h : H) : Option (DV × H) :=
 match a with
 | .ptr b o => bif Nat.beq x.cells.length n then (aAY x.cells h b o).map λ h => (.tup [], h) else none
 | _ => none
theorem aAZ (n : Nat) (a x : DV) (h : H) : bR n a x h = dSt n a x h := by unfold bR dSt; simp only [zH]; cases a <;> rfl
def aBB (es : Nat) (rd : Rd) (x : DV) : Option (List DV) :=
 match x with
 | .nils => some []
 | .slE _ _ _ => some []
 | .slc b o n _ _ => nX rd b o (n * es)
 | .str s => bif Nat.beq es 1 then some (s.map λ b => .int .u8 (.ofNat b)) else none
 | _ => none
theorem aIo (es : Nat) (rd : Rd) (x : DV) : aBB es rd x = dP es rd x := by unfold aBB dP; simp only [cH]; cases x <;> rfl
def aOE (o len es : Nat) (B : Blk) (new : List DV) (rd : Rd) (b : Nat) : Option (Tr DV) := bif Nat.beq o 0 then aQe new (len * es) B.t some else (nX rd b o (len * es)).map λ old => Tr.ofL (old ++ new)
def cE (es bytes : Nat) (s x : DV) (h : H) : Option (DV × H) :=
 (srcLen x).bind λ n => (aBB es h.get x).bind λ new =>
 match s with
 | .nils => bif Nat.beq n 0 then some (.nils, h) else
     bif Nat.blt (n * bytes) aR && Nat.blt n aR then h.pushK (.blk ⟨n * es, es, false, true, Tr.ofL new⟩) λ h' => some (.slc h.size 0 n n true, h') else none
 | .slE b o o2 => bif Nat.beq n 0 then some (.slE b o o2, h) else none
 | .slc b o len cap op => eB (len + n) λ need =>
     bif Nat.ble need cap then (aAY new h b (o + len * es)).map λ h => (.slc b o need cap op, h)
     else bif Nat.blt (need * bytes) aR && Nat.blt need aR then
       match h.get b with
       | some (.blk B) =>
         bif op then
           bif Nat.beq (o + cap * es) B.n && Nat.beq B.es es && (!B.ro) && Nat.ble len cap && new.all DV.one then
             (aOE o len es B new h.get b).bind λ t => eB (need * es) λ n' => h.pushK (.blk ⟨n', es, false, false, t⟩) λ h' => h'.putK b .dead λ h'' => some (.slc h.size 0 need need true, h'')
           else none
         else
           (nX h.get b o (len * es)).bind λ old => eB (need * es) λ n' => h.pushK (.blk ⟨n', es, false, true, Tr.ofL (old ++ new)⟩) λ h' => some (.slc h.size 0 need need true, h')
       | _ => none
     else none
 | _ => none
theorem aBC : ∀ (vs : List DV) (o : Nat) (t : Tr DV), aLm vs o t = Tr.ofF vs o t
 | [], _, _ => rfl
 | v :: vs, o, t => aBC vs (o + 1) _
theorem aTu (o len es : Nat) (B : Blk) (new : List DV) (rd : Rd) (b : Nat) : aOE o len es B new rd b = aDf o len es B new rd b := by
 unfold aOE aDf; rw [aEn, aBC, cH]
theorem eV (es bytes : Nat) (s x : DV) (h : H) : cE es bytes s x h = fP es bytes s x h := by
 unfold cE fP; simp only [aIo, zH, cH, aTu]; cases srcLen x with
 | none => rfl
 | some n =>
   simp only [Option.bind_some]; cases dP es h.get x with
   | none => rfl
   | some new =>
     simp only [Option.bind_some]; cases s <;> rfl
def aEk (es k : Nat) (rd : Rd) (x : DV) : Option (List DV) :=
 match x with
 | .nils => some []
 | .slE _ _ _ => some []
 | .slc b o _ _ _ => nX rd b o (k * es)
 | .str s => bif Nat.beq es 1 then some ((s.take k).map λ b => .int .u8 (.ofNat b)) else none
 | _ => none
theorem aLj (es k : Nat) (rd : Rd) (x : DV) : aEk es k rd x = qL es k rd x := by unfold aEk qL; simp only [cH]; cases x <;> rfl
def lT (es : Nat) (d x : DV) (h : H) : Option (DV × H) :=
 (srcLen x).bind λ n => match d with
 | .nils => some (.int .i64 0, h)
 | .slE _ _ _ => some (.int .i64 0, h)
 | .slc b o len _ _ => eB (bif Nat.ble n len then n else len) λ k => (aEk es k h.get x).bind λ new => (aAY new h b o).map λ h => (.int .i64 (.ofNat k), h)
 | _ => none
theorem aBW (es : Nat) (d x : DV) (h : H) : lT es d x h = aFc es d x h := by
 unfold lT aFc; simp only [aLj, zH]; cases srcLen x with
 | none => rfl
 | some n => cases d <;> rfl
def aHZ (x y : DV) : Option DV := match x, y with
 | .str s, .int .u8 (.ofNat c) => bif Nat.blt c 256 then aMg (qG c s) λ n => some (.int .i64 n) else none
 | _, _ => none
def aNy (x y : DV) : Option DV := match x, y with
 | .str s, .int .u8 (.ofNat c) => bif Nat.blt c 256 then eB (aDz c s) λ n => some (.int .i64 (.ofNat n)) else none
 | _, _ => none
def aPV (k : Prm) : DV -> DV -> Option DV := Prm.rec (motive := λ _ => DV -> DV -> Option DV) aHZ aNy k
def aKR (kt : LfK) (z : DV) (ok : Bool) (rd : Rd) (x k : DV) : Option DV := (match x with
   | .nilm => some none
   | .mp b => match rd b with
     | some (.map es _) => aHC kt k es
     | _ => none
   | _ => none).map λ r => match r with
     | some v => bif ok then .tup [v, .bool true] else v
     | none => bif ok then .tup [z, .bool false] else z
def yD (es : Nat) (x : DV) (lo : Option DV) (hi mx : DV) : Option DV := match mx with
   | .int _ (.ofNat k) => (match x with
     | .nils => bif Nat.beq k 0 then dH 0 0 lo (some hi) λ l h => some .nils else none
     | .slc b o len cap op => bif Nat.ble k cap then dH len k lo (some hi) λ l h =>
         bif Nat.blt l k then (eB (o + l * es) λ o => eB (h - l) λ n => eB (k - l) λ c => some (.slc b o n c false)) else some (.slc b o 0 0 false) else none
     | _ => none)
   | _ => none
def aW (c a b : DV) : Option DV := match c with
   | .bool t => some (Bool.rec b a t)
   | _ => none
def dX (t : EqT) (neg : Bool) (rd : Rd) (x y : DV) : Option DV := (dEq rd t x y).bind λ b => eU (bif neg then !b else b)
def aAp (neg : Bool) (s : EqS) (rd : Rd) (x y : DV) : Option DV := match x, y with
   | .agg xs, .agg ys => (rI rd s xs ys).bind λ b => eU (bif neg then !b else b)
   | _, _ => none
def kE (x : DV) : Option DV := match x with
   | .bool b => eU (!b)
   | _ => none
def aKQ (x : DV) : Option DV := match x with
   | .int k n => jO k (0 - n)
   | _ => none
def fE (k : IntKind) (x : DV) : Option DV := match x with
   | .int _ n => jO k n
   | _ => none
def aHX (x : DV) : Option DV := match x with
   | .str s => some (.str s)
   | _ => none
def mU (rd : Rd) (x : DV) : Option DV := match x with
   | .nils => some (.str [])
   | .slE _ _ _ => some (.str [])
   | .slc b o len _ _ => ((nX rd b o len).bind nQ).bind xZ
   | _ => none
def aG (rd : Rd) (x : DV) : Option DV := match x with
   | .ptr b o => aID rd b o
   | _ => none
def aK (n : Nat) (rd : Rd) (x : DV) : Option DV := match x with
   | .ptr b o => (nX rd b o n).map .agg
   | _ => none
def aM (x : DV) : Option DV := match x with
   | .ptr b o => some (.ptr b o)
   | _ => none
def aF (off : Nat) (x : DV) : Option DV := match x with
   | .ptr b o => eB (o + off) λ o => some (.ptr b o)
   | _ => none
def aPX (off n : Nat) (agg : Bool) (x : DV) : Option DV := match x with
   | .agg cs => bif agg then (bif Nat.ble (off + n) cs.length then some (.agg ((cs.drop off).take n)) else none) else cs[off]?
   | _ => none
def lV (len es : Nat) (x i : DV) : Option DV := match x with
   | .ptr b o => rH len i λ n => eB (o + n * es) λ o => some (.ptr b o)
   | _ => none
def bZ (es : Nat) (x i : DV) : Option DV := match x with
   | .slc b o len _ _ => rH len i λ n => eB (o + n * es) λ o => some (.ptr b o)
   | _ => none
def yG (len es : Nat) (agg : Bool) (x i : DV) : Option DV := match x with
   | .agg cs => rH len i λ n => bif agg then (bif Nat.ble (n * es + es) cs.length then some (.agg ((cs.drop (n * es)).take es)) else none) else cs[n * es]?
   | _ => none
def gO (x i : DV) : Option DV := match x with
   | .str s => rH s.length i λ n => (s[n]?).map λ b => .int .u8 (.ofNat b)
   | _ => none
def gV (x : DV) (lo hi : Option DV) : Option DV := match x with
   | .str s => dH s.length s.length lo hi λ l h => xZ ((s.take h).drop l)
   | _ => none
def dM (es : Nat) (x : DV) (lo hi : Option DV) : Option DV := match x with
   | .nils => dH 0 0 lo hi λ l h => some .nils
   | .slc b o len cap op => dH len cap lo hi λ l h =>
       bif Nat.blt l cap then (eB (o + l * es) λ o => eB (h - l) λ n => eB (cap - l) λ c => some (.slc b o n c op))
       else bif op then (eB (o + l * es) λ o2 => some (.slE b o o2)) else some (.slc b o 0 0 false)
   | .slE b o o2 => dH 0 0 lo hi λ l h => some (.slE b o o2)
   | _ => none
def aPT (n es : Nat) (x : DV) (lo hi : Option DV) : Option DV := match x with
   | .ptr b o => dH n n lo hi λ l h =>
       bif Nat.blt l n then (eB (o + l * es) λ o => eB (h - l) λ m => eB (n - l) λ c => some (.slc b o m c false))
       else some (.slc b o 0 0 false)
   | _ => none
def aH (i : Nat) (x : DV) : Option DV := match x with
   | .tup vs => vs[i]?
   | _ => none
def cA (x : DV) : Option DV := match x with
   | .str s => eB s.length λ n => some (.int .i64 (.ofNat n))
   | _ => none
def cB (x : DV) : Option DV := match x with
   | .nils => some (.int .i64 (.ofNat 0))
   | .slc _ _ n _ _ => some (.int .i64 (.ofNat n))
   | .slE _ _ _ => some (.int .i64 (.ofNat 0))
   | _ => none
abbrev aEb (x : DV) : Option DV := aQM x
abbrev aKP (rd : Rd) (x y : DV) : Option DV := aJj rd x y
def aHY (rd : Rd) (x : DV) : Option DV := match x with
   | .nilm => some (.int .i64 (.ofNat 0))
   | .mp b => match rd b with
     | some (.map es _) => eB es.length λ n => some (.int .i64 (.ofNat n))
     | _ => none
   | _ => none
def aAo (a b : DV) : Option DV := match a, b with
   | .int k x, .int k' y => some (.int k (bif iLt y x then y else x))
   | _, _ => none
def aBq (a b : DV) : Option DV := match a, b with
   | .int k x, .int k' y => some (.int k (bif iLt x y then y else x))
   | _, _ => none
def eC (zero : List DV) (parts : List (Nat × Nat × DV)) : Option DV := (iG zero parts).map .agg
def uB (t : Nat) (zero : DV) (ok : Bool) (x : DV) : Option DV := match x with
   | .nili => bif ok then some (.tup [zero, .bool false]) else none
   | .ifc u v => bif Nat.beq u t then some (bif ok then .tup [v, .bool true] else v) else bif ok then some (.tup [zero, .bool false]) else none
   | _ => none
section
variable {R : Type}
def dZ (n es : Nat) (z : Zs) (h : H) (k : DV -> H -> Option R) : Option R := h.pushK (.blk ⟨n, es, false, true, z.tr⟩) λ h' => k (.ptr h.size 0) h'
def dT (x : DV) (h : H) (k : DV -> H -> Option R) : Option R := eB x.cells.length λ n => h.pushK (.blk ⟨n, n, false, true, Tr.ofL x.cells⟩) λ h' => k (.ptr h.size 0) h'
def gI (n es : Nat) (zero : List DV) (parts : List (Nat × Nat × DV)) (h : H) (k : DV -> H -> Option R) : Option R :=
 (iG (gP zero n) parts).bind λ cs => h.pushK (.blk ⟨n * es, es, false, true, Tr.ofL cs⟩) λ h' => k (.slc h.size 0 n n false) h'
def uF (es bytes : Nat) (zero : DV) (l c : DV) (h : H) (k : DV -> H -> Option R) : Option R := match l, c with
   | .int _ (.ofNat l), .int _ (.ofNat c) =>
     bif Nat.ble l c && Nat.blt (bytes * c) 140737488355328 && Nat.blt c 140737488355328 then
       h.pushK (.blk ⟨c, 1, false, true, Tr.full zero 48⟩) λ h' => k (.slc h.size 0 l c false) h'
     else none
   | _, _ => none
def aQA (h : H) (k : DV -> H -> Option R) : Option R := h.pushK (.map [] 0) λ h' => k (.mp h.size) h'
def aHj (x : DV) (h : H) (k : DV -> H -> Option R) : Option R := match x with
   | .str s => eB s.length λ n => h.pushK (.blk ⟨n, 1, false, false, Tr.ofL (s.map λ b => .int .u8 (.ofNat b))⟩) λ h' => k (.slc h.size 0 n n true) h'
   | _ => none
end
end Go.DI
namespace Go.DI
open Go.RowKit
abbrev Rg := Pa -> DV
def e2 (σ : Rg) (x : aU) : DV := aU.rec (motive := λ _ => DV) (λ p => σ p) (λ v => v) x
def fset (p : Pa) (v : DV) (σ : Rg) : Rg := λ q => Bool.rec (σ q) v (yS q p)
def reg (ρ : Tr DV) : Rg := λ p => ev ρ (.r p)
theorem aVW (ρ : Tr DV) (x : aU) : e2 (reg ρ) x = ev ρ x := by cases x <;> rfl
theorem cW (ρ : Tr DV) : e2 (reg ρ) = ev ρ := funext (aVW ρ)
theorem bCe (ρ : Tr DV) (p : Pa) (v : DV) : reg (Tr.set v p ρ) = fset p v (reg ρ) := by
 funext q
 unfold reg fset; rw [zE]; by_cases h : q = p
 · subst h; rw [if_pos rfl, wU]
 · rw [if_neg h]; cases e : yS q p with
   | true => exact absurd (jX e) h
   | false => rfl
section
variable {R : Type}
abbrev bTp (σ : Rg) (h : H) (k : DV -> H -> Option R) : Option R := none
abbrev bST (q : Prm) (x y : aU) (σ : Rg) (h : H) (k : DV -> H -> Option R) : Option R := vK (aPV q (e2 σ x) (e2 σ y)) λ v => k v h
abbrev bTb (kt : LfK) (z : DV) (ok : Bool) (x y : aU) (σ : Rg) (h : H) (k : DV -> H -> Option R) : Option R := vK (aKR kt z ok h.get (e2 σ x) (e2 σ y)) λ v => k v h
abbrev bSP (es : Nat) (x : aU) (lo : Option aU) (hi mx : aU) (σ : Rg) (h : H) (k : DV -> H -> Option R) : Option R := vK (yD es (e2 σ x) (lo.map (e2 σ)) (e2 σ hi) (e2 σ mx)) λ v => k v h
abbrev bJm (c a b : aU) (σ : Rg) (h : H) (k : DV -> H -> Option R) : Option R := vK (aW (e2 σ c) (e2 σ a) (e2 σ b)) λ v => k v h
abbrev bTo (op : BinOp) (x y : aU) (σ : Rg) (h : H) (k : DV -> H -> Option R) : Option R := vK (aPY op (e2 σ x) (e2 σ y)) λ v => k v h
abbrev bTj (t : EqT) (neg : Bool) (x y : aU) (σ : Rg) (h : H) (k : DV -> H -> Option R) : Option R := vK (dX t neg h.get (e2 σ x) (e2 σ y)) λ v => k v h
abbrev bTk (neg : Bool) (s : EqS) (x y : aU) (σ : Rg) (h : H) (k : DV -> H -> Option R) : Option R := vK (aAp neg s h.get (e2 σ x) (e2 σ y)) λ v => k v h
abbrev bSV (x : aU) (σ : Rg) (h : H) (k : DV -> H -> Option R) : Option R := vK (kE (e2 σ x)) λ v => k v h
abbrev bSW (x : aU) (σ : Rg) (h : H) (k : DV -> H -> Option R) : Option R := vK (aKQ (e2 σ x)) λ v => k v h
abbrev bJr (q : IntKind) (x : aU) (σ : Rg) (h : H) (k : DV -> H -> Option R) : Option R := vK (fE q (e2 σ x)) λ v => k v h
abbrev bJl (x : aU) (σ : Rg) (h : H) (k : DV -> H -> Option R) : Option R := vK (aHX (e2 σ x)) λ v => k v h
abbrev bTq (x : aU) (σ : Rg) (h : H) (k : DV -> H -> Option R) : Option R := vK (mU h.get (e2 σ x)) λ v => k v h
abbrev o_ld (x : aU) (σ : Rg) (h : H) (k : DV -> H -> Option R) : Option R := vK (aG h.get (e2 σ x)) λ v => k v h
abbrev bTc (n : Nat) (x : aU) (σ : Rg) (h : H) (k : DV -> H -> Option R) : Option R := vK (aK n h.get (e2 σ x)) λ v => k v h
abbrev aUZ (x : aU) (σ : Rg) (h : H) (k : DV -> H -> Option R) : Option R := vK (aM (e2 σ x)) λ v => k v h
abbrev o_fa (off : Nat) (x : aU) (σ : Rg) (h : H) (k : DV -> H -> Option R) : Option R := vK (aF off (e2 σ x)) λ v => k v h
abbrev bTh (off n : Nat) (agg : Bool) (x : aU) (σ : Rg) (h : H) (k : DV -> H -> Option R) : Option R := vK (aPX off n agg (e2 σ x)) λ v => k v h
abbrev bTg (len es : Nat) (x i : aU) (σ : Rg) (h : H) (k : DV -> H -> Option R) : Option R := vK (lV len es (e2 σ x) (e2 σ i)) λ v => k v h
abbrev bTf (es : Nat) (x i : aU) (σ : Rg) (h : H) (k : DV -> H -> Option R) : Option R := vK (bZ es (e2 σ x) (e2 σ i)) λ v => k v h
abbrev bTe (len es : Nat) (agg : Bool) (x i : aU) (σ : Rg) (h : H) (k : DV -> H -> Option R) : Option R := vK (yG len es agg (e2 σ x) (e2 σ i)) λ v => k v h
abbrev bTd (x i : aU) (σ : Rg) (h : H) (k : DV -> H -> Option R) : Option R := vK (gO (e2 σ x) (e2 σ i)) λ v => k v h
abbrev bSO (x : aU) (lo hi : Option aU) (σ : Rg) (h : H) (k : DV -> H -> Option R) : Option R := vK (gV (e2 σ x) (lo.map (e2 σ)) (hi.map (e2 σ))) λ v => k v h
abbrev bSQ (es : Nat) (x : aU) (lo hi : Option aU) (σ : Rg) (h : H) (k : DV -> H -> Option R) : Option R := vK (dM es (e2 σ x) (lo.map (e2 σ)) (hi.map (e2 σ))) λ v => k v h
abbrev bSR (n es : Nat) (x : aU) (lo hi : Option aU) (σ : Rg) (h : H) (k : DV -> H -> Option R) : Option R := vK (aPT n es (e2 σ x) (lo.map (e2 σ)) (hi.map (e2 σ))) λ v => k v h
abbrev bTi (i : Nat) (x : aU) (σ : Rg) (h : H) (k : DV -> H -> Option R) : Option R := vK (aH i (e2 σ x)) λ v => k v h
abbrev bJn (x : aU) (σ : Rg) (h : H) (k : DV -> H -> Option R) : Option R := vK (cA (e2 σ x)) λ v => k v h
abbrev bJp (x : aU) (σ : Rg) (h : H) (k : DV -> H -> Option R) : Option R := vK (cB (e2 σ x)) λ v => k v h
abbrev bJo (x : aU) (σ : Rg) (h : H) (k : DV -> H -> Option R) : Option R := vK (aHY h.get (e2 σ x)) λ v => k v h
abbrev bJs (x : aU) (σ : Rg) (h : H) (k : DV -> H -> Option R) : Option R := vK (aEb (e2 σ x)) λ v => k v h
abbrev bSU (x y : aU) (σ : Rg) (h : H) (k : DV -> H -> Option R) : Option R := vK (aKP h.get (e2 σ x) (e2 σ y)) λ v => k v h
abbrev o_mn (a b : aU) (σ : Rg) (h : H) (k : DV -> H -> Option R) : Option R := vK (aAo (e2 σ a) (e2 σ b)) λ v => k v h
abbrev o_mx (a b : aU) (σ : Rg) (h : H) (k : DV -> H -> Option R) : Option R := vK (aBq (e2 σ a) (e2 σ b)) λ v => k v h
abbrev bTn (zero : List DV) (parts : List (Nat × Nat × aU)) (σ : Rg) (h : H) (k : DV -> H -> Option R) : Option R := vK (eC zero (parts.map λ p => (p.1, p.2.1, e2 σ p.2.2))) λ v => k v h
abbrev bSN (t : Nat) (zero : DV) (ok : Bool) (x : aU) (σ : Rg) (h : H) (k : DV -> H -> Option R) : Option R := vK (uB t zero ok (e2 σ x)) λ v => k v h
abbrev o_mv (x : aU) (σ : Rg) (h : H) (k : DV -> H -> Option R) : Option R := k (e2 σ x) h
abbrev bSZ (t : Nat) (x : aU) (σ : Rg) (h : H) (k : DV -> H -> Option R) : Option R := k (.ifc t (e2 σ x)) h
abbrev bTa (f : Fn) (a c : List aU) (σ : Rg) (h : H) (k : DV -> H -> Option R) : Option R := k (.fn f (a.map (e2 σ)) (c.map (e2 σ))) h
abbrev bJq (n : Nat) (σ : Rg) (h : H) (k : DV -> H -> Option R) : Option R := k (.int .i64 (.ofNat n)) h
abbrev bTr (n es : Nat) (z : Zs) (σ : Rg) (h : H) (k : DV -> H -> Option R) : Option R := dZ n es z h k
abbrev bTm (x : aU) (σ : Rg) (h : H) (k : DV -> H -> Option R) : Option R := dT (e2 σ x) h k
abbrev bTl (n es : Nat) (zero : List DV) (parts : List (Nat × Nat × aU)) (σ : Rg) (h : H) (k : DV -> H -> Option R) : Option R := gI n es zero (parts.map λ p => (p.1, p.2.1, e2 σ p.2.2)) h k
abbrev bSX (es bytes : Nat) (zero : DV) (l c : aU) (σ : Rg) (h : H) (k : DV -> H -> Option R) : Option R := uF es bytes zero (e2 σ l) (e2 σ c) h k
abbrev bSY  (σ : Rg) (h : H) (k : DV -> H -> Option R) : Option R := aQA h k
abbrev bSS (x : aU) (σ : Rg) (h : H) (k : DV -> H -> Option R) : Option R := aHj (e2 σ x) h k
abbrev bCt (d : EOp) : Rg -> H -> (DV -> H -> Option R) -> Option R :=
 EOp.rec (motive := λ _ => Rg -> H -> (DV -> H -> Option R) -> Option R) bTp bST bTb bSP o_mv bJm bTo bTj bTk bSV bSW bJr bJl bTq bSZ bTa o_ld bTc aUZ o_fa bTh bTg bTf bTe bTd bSO bSQ bSR bTi bJn bJp bJo bJs bSU bJq o_mn o_mx bTn bSN bTr bTm bTl bSX bSY bSS d
end
def bGe (q : Prm) (x y : aU) (σ : Rg) (rd : Rd) : Option DV := aPV q (e2 σ x) (e2 σ y)
def bGk (kt : LfK) (z : DV) (ok : Bool) (x y : aU) (σ : Rg) (rd : Rd) : Option DV := aKR kt z ok rd (e2 σ x) (e2 σ y)
def bGb (es : Nat) (x : aU) (lo : Option aU) (hi mx : aU) (σ : Rg) (rd : Rd) : Option DV := yD es (e2 σ x) (lo.map (e2 σ)) (e2 σ hi) (e2 σ mx)
def aVw (c a b : aU) (σ : Rg) (rd : Rd) : Option DV := aW (e2 σ c) (e2 σ a) (e2 σ b)
def bGv (op : BinOp) (x y : aU) (σ : Rg) (rd : Rd) : Option DV := aPY op (e2 σ x) (e2 σ y)
def bGs (t : EqT) (neg : Bool) (x y : aU) (σ : Rg) (rd : Rd) : Option DV := dX t neg rd (e2 σ x) (e2 σ y)
def bGt (neg : Bool) (s : EqS) (x y : aU) (σ : Rg) (rd : Rd) : Option DV := aAp neg s rd (e2 σ x) (e2 σ y)
def bGg (x : aU) (σ : Rg) (rd : Rd) : Option DV := kE (e2 σ x)
def bGh (x : aU) (σ : Rg) (rd : Rd) : Option DV := aKQ (e2 σ x)
def aVB (q : IntKind) (x : aU) (σ : Rg) (rd : Rd) : Option DV := fE q (e2 σ x)
def aVv (x : aU) (σ : Rg) (rd : Rd) : Option DV := aHX (e2 σ x)
def bGw (x : aU) (σ : Rg) (rd : Rd) : Option DV := mU rd (e2 σ x)
def g_ld (x : aU) (σ : Rg) (rd : Rd) : Option DV := aG rd (e2 σ x)
def bGl (n : Nat) (x : aU) (σ : Rg) (rd : Rd) : Option DV := aK n rd (e2 σ x)
def aMa (x : aU) (σ : Rg) (rd : Rd) : Option DV := aM (e2 σ x)
def g_fa (off : Nat) (x : aU) (σ : Rg) (rd : Rd) : Option DV := aF off (e2 σ x)
def bGq (off n : Nat) (agg : Bool) (x : aU) (σ : Rg) (rd : Rd) : Option DV := aPX off n agg (e2 σ x)
def bGp (len es : Nat) (x i : aU) (σ : Rg) (rd : Rd) : Option DV := lV len es (e2 σ x) (e2 σ i)
def bGo (es : Nat) (x i : aU) (σ : Rg) (rd : Rd) : Option DV := bZ es (e2 σ x) (e2 σ i)
def bGn (len es : Nat) (agg : Bool) (x i : aU) (σ : Rg) (rd : Rd) : Option DV := yG len es agg (e2 σ x) (e2 σ i)
def bGm (x i : aU) (σ : Rg) (rd : Rd) : Option DV := gO (e2 σ x) (e2 σ i)
def bGa (x : aU) (lo hi : Option aU) (σ : Rg) (rd : Rd) : Option DV := gV (e2 σ x) (lo.map (e2 σ)) (hi.map (e2 σ))
def bGc (es : Nat) (x : aU) (lo hi : Option aU) (σ : Rg) (rd : Rd) : Option DV := dM es (e2 σ x) (lo.map (e2 σ)) (hi.map (e2 σ))
def bGd (n es : Nat) (x : aU) (lo hi : Option aU) (σ : Rg) (rd : Rd) : Option DV := aPT n es (e2 σ x) (lo.map (e2 σ)) (hi.map (e2 σ))
def bGr (i : Nat) (x : aU) (σ : Rg) (rd : Rd) : Option DV := aH i (e2 σ x)
def aVx (x : aU) (σ : Rg) (rd : Rd) : Option DV := cA (e2 σ x)
def aVz (x : aU) (σ : Rg) (rd : Rd) : Option DV := cB (e2 σ x)
def aVy (x : aU) (σ : Rg) (rd : Rd) : Option DV := aHY rd (e2 σ x)
def aVC (x : aU) (σ : Rg) (rd : Rd) : Option DV := aEb (e2 σ x)
def bGf (x y : aU) (σ : Rg) (rd : Rd) : Option DV := aKP rd (e2 σ x) (e2 σ y)
def g_mn (a b : aU) (σ : Rg) (rd : Rd) : Option DV := aAo (e2 σ a) (e2 σ b)
def g_mx (a b : aU) (σ : Rg) (rd : Rd) : Option DV := aBq (e2 σ a) (e2 σ b)
def bGu (zero : List DV) (parts : List (Nat × Nat × aU)) (σ : Rg) (rd : Rd) : Option DV := eC zero (parts.map λ p => (p.1, p.2.1, e2 σ p.2.2))
def bFZ (t : Nat) (zero : DV) (ok : Bool) (x : aU) (σ : Rg) (rd : Rd) : Option DV := uB t zero ok (e2 σ x)
def g_mv (x : aU) (σ : Rg) (rd : Rd) : Option DV := some (e2 σ x)
def bGi (t : Nat) (x : aU) (σ : Rg) (rd : Rd) : Option DV := some (.ifc t (e2 σ x))
def bGj (f : Fn) (a c : List aU) (σ : Rg) (rd : Rd) : Option DV := some (.fn f (a.map (e2 σ)) (c.map (e2 σ)))
def aVA (n : Nat) (σ : Rg) (rd : Rd) : Option DV := some (.int .i64 (.ofNat n))
def bUe (n es : Nat) (z : Zs) (σ : Rg) (rd : Rd) : Option DV := none
def bUc (x : aU) (σ : Rg) (rd : Rd) : Option DV := none
def bUb (n es : Nat) (zero : List DV) (parts : List (Nat × Nat × aU)) (σ : Rg) (rd : Rd) : Option DV := none
def bTX (es bytes : Nat) (zero : DV) (l c : aU) (σ : Rg) (rd : Rd) : Option DV := none
def bTY  (σ : Rg) (rd : Rd) : Option DV := none
def bTT (x : aU) (σ : Rg) (rd : Rd) : Option DV := none
def bUd  (σ : Rg) (rd : Rd) : Option DV := none
def eR (d : EOp) : Rg -> Rd -> Option DV :=
 EOp.rec (motive := λ _ => Rg -> Rd -> Option DV) bUd bGe bGk bGb g_mv aVw bGv bGs bGt bGg bGh aVB aVv bGw bGi bGj g_ld bGl aMa g_fa bGq bGp bGo bGn bGm bGa bGc bGd bGr aVx aVz aVy aVC bGf aVA g_mn g_mx bGu bFZ bUe bUc bUb bTX bTY bTT d
def aQE : EOp -> Bool
 | .alc _ _ _ | .box _ | .bsl _ _ _ _ | .mks _ _ _ _ _ | .mkm | .s2b _ | .bad => true
 | _ => false
theorem bCW (q : Prm) (x y : aU) (ρ : Tr DV) (rd : Rd) : dF (.prm q x y) ρ rd = (aPV q (ev ρ x) (ev ρ y)).map .val := by
 simp only [dF, aPV]; generalize ev ρ x = x'; generalize ev ρ y = y'; cases x' <;> (try (cases q <;> rfl))
 cases y' <;> (try (cases q <;> rfl))
 rename_i s kk n; cases kk <;> (try (cases q <;> rfl))
 cases n <;> (try (cases q <;> rfl))
 rename_i c; cases q
 · show (bif Nat.blt c 256 then _ else none) = (bif Nat.blt c 256 then _ else none : Option DV).map _; cases Nat.blt c 256 <;> simp only [cond_false, cond_true, oZ] <;> rfl
 · show (bif Nat.blt c 256 then _ else none) = (bif Nat.blt c 256 then _ else none : Option DV).map _; cases Nat.blt c 256 <;> simp only [cond_false, cond_true, bE] <;> rfl
theorem bDc (kt : LfK) (z : DV) (ok : Bool) (x y : aU) (ρ : Tr DV) (rd : Rd) : dF (.lkp kt z ok x y) ρ rd = (aKR kt z ok rd (ev ρ x) (ev ρ y)).map .val := by
 simp only [dF, aKR, Option.map_map]
 congr 1; funext r; cases r <;> rfl
theorem bCS (es : Nat) (x : aU) (lo : Option aU) (hi mx : aU) (ρ : Tr DV) (rd : Rd) : dF (.slM es x lo hi mx) ρ rd = (yD es (ev ρ x) (lo.map (ev ρ)) (ev ρ hi) (ev ρ mx)).map .val := by
 simp only [dF, yD]; generalize ev ρ x = x'; generalize ev ρ hi = hi'; generalize ev ρ mx = mx'; cases mx' <;> try rfl
 rename_i k n; cases n <;> try rfl
 rename_i n; cases x' <;> try rfl
 · show (bif Nat.beq n 0 then _ else none) = (bif Nat.beq n 0 then _ else none : Option DV).map _; cases Nat.beq n 0 <;> rfl
 · rename_i a b c d e; show (bif Nat.ble n d then _ else none) = (bif Nat.ble n d then _ else none : Option DV).map _; cases Nat.ble n d <;> rfl
theorem aVO (c a b : aU) (ρ : Tr DV) (rd : Rd) : dF (.pick c a b) ρ rd = (aW (ev ρ c) (ev ρ a) (ev ρ b)).map .val := by
 simp only [dF, aW]; generalize ev ρ c = c'; generalize ev ρ a = a'; generalize ev ρ b = b'; cases c' <;> try rfl
 rename_i t; cases t <;> rfl
theorem bDn (op : BinOp) (x y : aU) (ρ : Tr DV) (rd : Rd) : dF (.bin op x y) ρ rd = (aPY op (ev ρ x) (ev ρ y)).map .val := by
 rw [aUj]; rfl
theorem bDk (t : EqT) (neg : Bool) (x y : aU) (ρ : Tr DV) (rd : Rd) : dF (.eqv t neg x y) ρ rd = (dX t neg rd (ev ρ x) (ev ρ y)).map .val := by
 rfl
theorem bDl (neg : Bool) (s : EqS) (x y : aU) (ρ : Tr DV) (rd : Rd) : dF (.eqs neg s x y) ρ rd = (aAp neg s rd (ev ρ x) (ev ρ y)).map .val := by
 simp only [dF, aAp]; generalize ev ρ x = x'; generalize ev ρ y = y'; cases x' <;> cases y' <;> rfl
theorem bCY (x : aU) (ρ : Tr DV) (rd : Rd) : dF (.not x) ρ rd = (kE (ev ρ x)).map .val := by
 simp only [dF, kE, cI, cH]; generalize ev ρ x = x'; cases x' <;> rfl
theorem bCZ (x : aU) (ρ : Tr DV) (rd : Rd) : dF (.neg x) ρ rd = (aKQ (ev ρ x)).map .val := by
 simp only [dF, aKQ, cI, cH]; generalize ev ρ x = x'; cases x' <;> rfl
theorem aVT (q : IntKind) (x : aU) (ρ : Tr DV) (rd : Rd) : dF (.conv q x) ρ rd = (fE q (ev ρ x)).map .val := by
 simp only [dF, fE, cI, cH]; generalize ev ρ x = x'; cases x' <;> rfl
theorem aVN (x : aU) (ρ : Tr DV) (rd : Rd) : dF (.same x) ρ rd = (aHX (ev ρ x)).map .val := by
 simp only [dF, aHX, cI, cH]; generalize ev ρ x = x'; cases x' <;> rfl
theorem bDo (x : aU) (ρ : Tr DV) (rd : Rd) : dF (.b2s x) ρ rd = (mU rd (ev ρ x)).map .val := by
 simp only [dF, mU, cI, cH]; generalize ev ρ x = x'; cases x' <;> rfl
theorem bJT (x : aU) (ρ : Tr DV) (rd : Rd) : dF (.ld x) ρ rd = (aG rd (ev ρ x)).map .val := by
 simp only [dF, aG, cI, cH]; generalize ev ρ x = x'; cases x' <;> rfl
theorem bDd (n : Nat) (x : aU) (ρ : Tr DV) (rd : Rd) : dF (.ldN n x) ρ rd = (aK n rd (ev ρ x)).map .val := by
 simp only [dF, aK, cI, cH]; generalize ev ρ x = x'; cases x' <;> rfl
theorem aOR (x : aU) (ρ : Tr DV) (rd : Rd) : dF (.nilchk x) ρ rd = (aM (ev ρ x)).map .val := by
 simp only [dF, aM, cI, cH]; generalize ev ρ x = x'; cases x' <;> rfl
theorem bJU (off : Nat) (x : aU) (ρ : Tr DV) (rd : Rd) : dF (.fa off x) ρ rd = (aF off (ev ρ x)).map .val := by
 simp only [dF, aF, bE]; generalize ev ρ x = x'; cases x' <;> rfl
theorem bDi (off n : Nat) (agg : Bool) (x : aU) (ρ : Tr DV) (rd : Rd) : dF (.fld off n agg x) ρ rd = (aPX off n agg (ev ρ x)).map .val := by
 simp only [dF, aPX]; generalize ev ρ x = x'; cases x' <;> try rfl
 rename_i cs; cases agg <;> try rfl
 show (bif Nat.ble (off + n) cs.length then _ else none) = (bif Nat.ble (off + n) cs.length then _ else none : Option DV).map _; cases Nat.ble (off + n) cs.length <;> rfl
theorem bDh (len es : Nat) (x i : aU) (ρ : Tr DV) (rd : Rd) : dF (.iaA len es x i) ρ rd = (lV len es (ev ρ x) (ev ρ i)).map .val := by
 simp only [dF, lV, cI, cH]; generalize ev ρ x = x'; generalize ev ρ i = i'; cases x' <;> rfl
theorem bDg (es : Nat) (x i : aU) (ρ : Tr DV) (rd : Rd) : dF (.iaS es x i) ρ rd = (bZ es (ev ρ x) (ev ρ i)).map .val := by
 simp only [dF, bZ, cI, cH]; generalize ev ρ x = x'; generalize ev ρ i = i'; cases x' <;> rfl
theorem bDf (len es : Nat) (agg : Bool) (x i : aU) (ρ : Tr DV) (rd : Rd) : dF (.ixA len es agg x i) ρ rd = (yG len es agg (ev ρ x) (ev ρ i)).map .val := by
 simp only [dF, yG, cI, cH]; generalize ev ρ x = x'; generalize ev ρ i = i'; cases x' <;> rfl
theorem bDe (x i : aU) (ρ : Tr DV) (rd : Rd) : dF (.ixS x i) ρ rd = (gO (ev ρ x) (ev ρ i)).map .val := by
 simp only [dF, gO, cI, cH]; generalize ev ρ x = x'; generalize ev ρ i = i'; cases x' <;> rfl
theorem bCR (x : aU) (lo hi : Option aU) (ρ : Tr DV) (rd : Rd) : dF (.slS x lo hi) ρ rd = (gV (ev ρ x) (lo.map (ev ρ)) (hi.map (ev ρ))).map .val := by
 simp only [dF, gV, cI, cH]; generalize ev ρ x = x'; cases x' <;> rfl
theorem bCT (es : Nat) (x : aU) (lo hi : Option aU) (ρ : Tr DV) (rd : Rd) : dF (.slL es x lo hi) ρ rd = (dM es (ev ρ x) (lo.map (ev ρ)) (hi.map (ev ρ))).map .val := by
 simp only [dF, dM, cI, cH]; generalize ev ρ x = x'; cases x' <;> rfl
theorem bCU (n es : Nat) (x : aU) (lo hi : Option aU) (ρ : Tr DV) (rd : Rd) : dF (.slA n es x lo hi) ρ rd = (aPT n es (ev ρ x) (lo.map (ev ρ)) (hi.map (ev ρ))).map .val := by
 simp only [dF, aPT, cI, cH]; generalize ev ρ x = x'; cases x' <;> rfl
theorem bDj (i : Nat) (x : aU) (ρ : Tr DV) (rd : Rd) : dF (.ext i x) ρ rd = (aH i (ev ρ x)).map .val := by
 simp only [dF, aH, cI, cH]; generalize ev ρ x = x'; cases x' <;> rfl
theorem aVP (x : aU) (ρ : Tr DV) (rd : Rd) : dF (.lenS x) ρ rd = (cA (ev ρ x)).map .val := by
 simp only [dF, cA, bE]; generalize ev ρ x = x'; cases x' <;> rfl
theorem aVR (x : aU) (ρ : Tr DV) (rd : Rd) : dF (.lenL x) ρ rd = (cB (ev ρ x)).map .val := by
 simp only [dF, cB, cI, cH]; generalize ev ρ x = x'; cases x' <;> rfl
theorem aVQ (x : aU) (ρ : Tr DV) (rd : Rd) : dF (.lenM x) ρ rd = (aHY rd (ev ρ x)).map .val := by
 simp only [dF, aHY, bE]; generalize ev ρ x = x'; cases x' <;> try rfl
 rename_i b; simp only []; cases rd b with
 | none => rfl
 | some o => cases o <;> rfl
theorem aVU (x : aU) (ρ : Tr DV) (rd : Rd) : dF (.capL x) ρ rd = (aEb (ev ρ x)).map .val := by
 rfl
theorem bCX (x y : aU) (ρ : Tr DV) (rd : Rd) : dF (.ovl x y) ρ rd = (aKP rd (ev ρ x) (ev ρ y)).map .val := by
 rfl
theorem bJS (a b : aU) (ρ : Tr DV) (rd : Rd) : dF (.mn a b) ρ rd = (aAo (ev ρ a) (ev ρ b)).map .val := by
 simp only [dF, aAo]; generalize ev ρ a = a'; generalize ev ρ b = b'; cases a' <;> cases b' <;> rfl
theorem bJQ (a b : aU) (ρ : Tr DV) (rd : Rd) : dF (.mx a b) ρ rd = (aBq (ev ρ a) (ev ρ b)).map .val := by
 simp only [dF, aBq]; generalize ev ρ a = a'; generalize ev ρ b = b'; cases a' <;> cases b' <;> rfl
theorem bDm (zero : List DV) (parts : List (Nat × Nat × aU)) (ρ : Tr DV) (rd : Rd) : dF (.bld zero parts) ρ rd = (eC zero (parts.map λ p => (p.1, p.2.1, ev ρ p.2.2))).map .val := by
 rfl
theorem bCQ (t : Nat) (zero : DV) (ok : Bool) (x : aU) (ρ : Tr DV) (rd : Rd) : dF (.tas t zero ok x) ρ rd = (uB t zero ok (ev ρ x)).map .val := by
 simp only [dF, uB]; generalize ev ρ x = x'; cases x' <;> try rfl
 · cases ok <;> rfl
 · rename_i u v; simp only []; cases Nat.beq u t <;> cases ok <;> rfl
theorem bJR (x : aU) (ρ : Tr DV) (rd : Rd) : dF (.mv x) ρ rd = (some (ev ρ x) : Option DV).map .val := rfl
theorem bDa (t : Nat) (x : aU) (ρ : Tr DV) (rd : Rd) : dF (.mkI t x) ρ rd = (some (.ifc t (ev ρ x)) : Option DV).map .val := rfl
theorem bDb (f : Fn) (a c : List aU) (ρ : Tr DV) (rd : Rd) : dF (.mkF f a c) ρ rd = (some (.fn f (a.map (ev ρ)) (c.map (ev ρ))) : Option DV).map .val := rfl
theorem aVS (n : Nat) (ρ : Tr DV) (rd : Rd) : dF (.lenA n) ρ rd = (some (.int .i64 (.ofNat n)) : Option DV).map .val := rfl
theorem aHy {d : EOp} (hd : aQE d = false) (ρ : Tr DV) (rd : Rd) : dF d ρ rd = (eR d (reg ρ) rd).map .val := by
 cases d
 · cases hd
 · rw [bCW]; simp only [eR, bGe, cW]
 · rw [bDc]; simp only [eR, bGk, cW]
 · rw [bCS]; simp only [eR, bGb, cW]
 · rw [bJR]; simp only [eR, g_mv, cW]
 · rw [aVO]; simp only [eR, aVw, cW]
 · rw [bDn]; simp only [eR, bGv, cW]
 · rw [bDk]; simp only [eR, bGs, cW]
 · rw [bDl]; simp only [eR, bGt, cW]
 · rw [bCY]; simp only [eR, bGg, cW]
 · rw [bCZ]; simp only [eR, bGh, cW]
 · rw [aVT]; simp only [eR, aVB, cW]
 · rw [aVN]; simp only [eR, aVv, cW]
 · rw [bDo]; simp only [eR, bGw, cW]
 · rw [bDa]; simp only [eR, bGi, cW]
 · rw [bDb]; simp only [eR, bGj, cW]
 · rw [bJT]; simp only [eR, g_ld, cW]
 · rw [bDd]; simp only [eR, bGl, cW]
 · rw [aOR]; simp only [eR, aMa, cW]
 · rw [bJU]; simp only [eR, g_fa, cW]
 · rw [bDi]; simp only [eR, bGq, cW]
 · rw [bDh]; simp only [eR, bGp, cW]
 · rw [bDg]; simp only [eR, bGo, cW]
 · rw [bDf]; simp only [eR, bGn, cW]
 · rw [bDe]; simp only [eR, bGm, cW]
 · rw [bCR]; simp only [eR, bGa, cW]
 · rw [bCT]; simp only [eR, bGc, cW]
 · rw [bCU]; simp only [eR, bGd, cW]
 · rw [bDj]; simp only [eR, bGr, cW]
 · rw [aVP]; simp only [eR, aVx, cW]
 · rw [aVR]; simp only [eR, aVz, cW]
 · rw [aVQ]; simp only [eR, aVy, cW]
 · rw [aVU]; simp only [eR, aVC, cW]
 · rw [bCX]; simp only [eR, bGf, cW]
 · rw [aVS]; simp only [eR, aVA, cW]
 · rw [bJS]; simp only [eR, g_mn, cW]
 · rw [bJQ]; simp only [eR, g_mx, cW]
 · rw [bDm]; simp only [eR, bGu, cW]
 · rw [bCQ]; simp only [eR, bFZ, cW]
 · cases hd
 · cases hd
 · cases hd
 · cases hd
 · cases hd
 · cases hd
section
variable {R : Type}
theorem aUX {d : EOp} (hd : aQE d = false) (σ : Rg) (h : H) (k : DV -> H -> Option R) : bCt d σ h k = vK (eR d σ h.get) λ v => k v h := by
 cases d <;> first | (cases hd; done) | rfl
theorem bCs (E : bN) (d : EOp) (ρ : Tr DV) (h : H) (k : DV -> H -> Option R) : bCt d (reg ρ) h k = (odo E (.e d) ρ h).bind λ x => k x.1 x.2 := by
 cases hd : aQE d with
 | false =>
   rw [aUX hd]; simp only [odo, aDK]; rw [aHy hd]; cases eR d (reg ρ) h.get <;> rfl
 | true =>
   simp only [odo, aDK]; cases d <;> first | (cases hd; done) | skip
   · rfl
   · rename_i n es z; simp only [dF, H.pushK_eq, Option.bind_some]; show dZ n es z h k = _; simp only [dZ, H.pushK_eq]
   · rename_i x; simp only [dF, H.pushK_eq, bE, Option.bind_some]; show dT (e2 (reg ρ) x) h k = _; simp only [dT, H.pushK_eq, bE, cW]
   · rename_i n es zero parts; show gI n es zero (parts.map λ p => (p.1, p.2.1, e2 (reg ρ) p.2.2)) h k = _
     simp only [dF, gI, cW]; cases iG (gP zero n) (parts.map λ p => (p.1, p.2.1, ev ρ p.2.2)) with
     | none => rfl
     | some cs => simp only [Option.bind_some, Option.map_some, H.pushK_eq]
   · rename_i es bytes zero l c; show uF es bytes zero (e2 (reg ρ) l) (e2 (reg ρ) c) h k = _; simp only [dF, uF, cW]; generalize ev ρ l = l'; generalize ev ρ c = c'; cases l' <;> try rfl
     rename_i k1 n1; cases n1 <;> try rfl
     rename_i n1; cases c' <;> try rfl
     rename_i k2 n2; cases n2 <;> try rfl
     rename_i n2; simp only []; cases (Nat.ble n1 n2 && Nat.blt (bytes * n2) 140737488355328 && Nat.blt n2 140737488355328) with
     | false => rfl
     | true => simp only [cond_true, H.pushK_eq, Option.bind_some]
   · simp only [dF, H.pushK_eq, Option.bind_some]; show aQA h k = _; simp only [aQA, H.pushK_eq]
   · rename_i x; show aHj (e2 (reg ρ) x) h k = _; simp only [dF, aHj, cW]; generalize ev ρ x = x'; cases x' <;> try rfl
     simp only [bE, H.pushK_eq, Option.bind_some]
end
end Go.DI
namespace Go.DI
open Go.RowKit
def oQ (E : bN) (f : DV) (args : List DV) (h : H) : Option (DV × H) := match f with
 | .fn (.func g) first captured => aD E g (first ++ args ++ captured) h
 | _ => none
def vS (E : bN) (tbl : List (Nat × Nat)) (x : DV) (args : List DV) (h : H) : Option (DV × H) := match x with
 | .ifc t v => match look t tbl with
   | some f => aD E f (v :: args) h
   | none => none
 | _ => none
def aAL (dst : Option Pa) (v : DV) (σ : Rg) : Rg := Option.rec (motive := λ _ => Rg) σ (λ p => fset p v σ) dst
section
variable {R : Type}
def odoW (d : WOp) : Rg -> H -> (DV -> H -> Option R) -> Option R :=
 WOp.rec (motive := λ _ => Rg -> H -> (DV -> H -> Option R) -> Option R)
   (λ n a x σ h k => wK (bR n (e2 σ a) (e2 σ x) h) k)
   (λ es bytes x y σ h k => wK (cE es bytes (e2 σ x) (e2 σ y) h) k)
   (λ es x y σ h k => wK (lT es (e2 σ x) (e2 σ y) h) k)
   (λ kt x q y σ h k => wK (aTE kt (e2 σ x) (e2 σ q) (e2 σ y) h) k)
   (λ zs x σ h k => wK (vP zs (e2 σ x) h) k)
   (λ x σ h k => wK (aBa (e2 σ x) h) k)
   (λ es bytes zs x y σ h k => wK (aMx es bytes zs (e2 σ x) (e2 σ y) h) k) d
def odoC (E : bN) (d : COp) : Rg -> H -> (DV -> H -> Option R) -> Option R :=
 COp.rec (motive := λ _ => Rg -> H -> (DV -> H -> Option R) -> Option R)
   (λ f args σ h k => wK (aD E f (args.map (e2 σ)) h) k)
   (λ f args σ h k => wK (oQ E (e2 σ f) (args.map (e2 σ)) h) k)
   (λ tbl x args σ h k => wK (vS E tbl (e2 σ x) (args.map (e2 σ)) h) k) d
def aUY (E : bN) (d : DOp) : Rg -> H -> (DV -> H -> Option R) -> Option R :=
 DOp.rec (motive := λ _ => Rg -> H -> (DV -> H -> Option R) -> Option R) bCt odoW (odoC E) d
def bA (c : DV) (t : Bool) (op : (DV -> H -> Option R) -> Option R) (h : H) (k : DV -> H -> Option R) : Option R := gK c t (op k) (k (.tup []) h)
def aOQ (E : bN) (g : DG) (σ : Rg) (h : H) (k : Rg -> H -> Option R) : Option R :=
 Option.rec (motive := λ _ => Option R) (aUY E g.op σ h λ v h => k (aAL g.dst v σ) h)
   (λ x => bA (σ x.1) x.2 (λ kk => aUY E g.op σ h kk) h λ v h => k (aAL g.dst v σ) h) g.guard
def aIX (E : bN) (l : List DG) : Rg -> H -> (Rg -> H -> Option R) -> Option R :=
 List.rec (motive := λ _ => Rg -> H -> (Rg -> H -> Option R) -> Option R) (λ σ h k => k σ h) (λ g _ ih σ h k => aOQ E g σ h λ σ h => ih σ h k) l
def gB (c : DV) (t : Bool) (x : Bool) : Bool := match c with
 | .bool c => Bool.rec (Bool.rec x true t) (Bool.rec true x t) c
 | _ => true
def bCg (d : DOp) (dst : Option Pa) (σ : Rg) (h : H) : Bool :=
 DOp.rec (motive := λ _ => Bool) (λ e => Option.rec (motive := λ _ => Bool) false (λ p => rcK (eR e σ h.get) (σ p)) dst) (λ _ => false) (λ _ => false) d
def pC (g : DG) (σ : Rg) (h : H) : Bool :=
 Option.rec (motive := λ _ => Bool) (bCg g.op g.dst σ h) (λ x => gB (σ x.1) x.2 (bCg g.op g.dst σ h)) g.guard
def rK (b : Bool) (x : Option R) : Option R := Bool.rec none x b
def reK (pre : List DR) (σ : Rg) (h : H) (x : Option R) (l : Ln) : Option R :=
 List.rec (motive := λ _ => Option R) x (λ q _ ih => rK (Option.rec (motive := λ _ => Bool) false (λ g => pC g σ h) (aAN q pre)) ih) l
def aOP (E : bN) (l : List DR) : List DR -> Rg -> H -> (Rg -> H -> Option R) -> Option R :=
 List.rec (motive := λ _ => List DR -> Rg -> H -> (Rg -> H -> Option R) -> Option R) (λ _ σ h k => k σ h)
   (λ x _ ih pre σ h k => aOQ E x.g σ h λ σ h => reK pre σ h (ih (x :: pre) σ h k) x.re) l
abbrev gT (R : Type) := DX -> Rg -> H -> Option R
def aBz (k : Rg -> H -> Option R) (K : gT R) : gT R := λ x σ h =>
 DX.rec (motive := λ _ => Option R) (k σ h) (λ id => K (.exit id) σ h) (K .ret σ h) x
def aQS (id : Nat) (K : gT R) : gT R := λ x σ h =>
 DX.rec (motive := λ _ => Option R) (K .normal σ h) (λ i => Bool.rec (K (.exit i) σ h) (K .normal σ h) (Nat.beq i id)) (K .ret σ h) x
def aQf (K : gT R) : gT R := λ x σ h =>
 DX.rec (motive := λ _ => Option R) (K .normal σ h) (λ i => Bool.rec none (K (.exit i) σ h) (Nat.blt i 4294967296)) (K .ret σ h) x
def aBM (g : Nat) (k : Rg -> H -> Option R) (K : gT R) : gT R := λ x σ h =>
 DX.rec (motive := λ _ => Option R) (K .normal σ h) (λ i => Bool.rec (Bool.rec none (K (.exit i) σ h) (Nat.blt i 4294967296)) (k σ h) (Nat.beq i g)) (K .ret σ h) x
def zA (body : Rg -> H -> gT R -> Option R) (g : Nat) (K : gT R) (n : Nat) : Rg -> H -> Option R :=
 Nat.rec (motive := λ _ => Rg -> H -> Option R) (λ _ _ => none) (λ _ ih σ h => body σ h (aBM g ih K)) n
def vF (body : Rg -> H -> gT R -> Option R) (K : gT R) (n : Nat) : Rg -> H -> Option R :=
 Nat.rec (motive := λ _ => Rg -> H -> Option R) (λ _ _ => none) (λ _ ih σ h => body σ h (aBz ih K)) n
def kM (E : bN) (c : DC) : Rg -> H -> gT R -> Option R :=
 DC.rec (motive := λ _ => Rg -> H -> gT R -> Option R)
   (λ σ h K => K .normal σ h)
   (λ l σ h K => aIX E l σ h λ σ h => K .normal σ h)
   (λ _ _ ia ib σ h K => ia σ h (aBz (λ σ h => ib σ h K) K))
   (λ c _ _ ia ib σ h K => bK (e2 σ c) (ia σ h K) (ib σ h K))
   (λ id _ ia σ h K => ia σ h (aQS id K))
   (λ _ ia σ h K => vF ia K aT σ h)
   (λ id σ h K => K (.exit id) σ h)
   (λ σ h K => K .ret σ h)
   (λ _ ia σ h K => ia σ h (aQf K))
   (λ l σ h K => aOP E l [] σ h λ σ h => K .normal σ h)
   (λ _ _ _ => none)
   (λ g _ _ ia ir σ h K => ia σ h (aBM g (zA ir g K aT) K)) c
end
def rv2 (σ : Rg) (h : H) (r : RV) (k : DV -> Option (DV × H)) : Option (DV × H) :=
 RV.rec (motive := λ _ => Option (DV × H)) (λ p => k (σ p)) (λ p => vK (aG h.get (σ p)) k) (λ p n => vK (aK n h.get (σ p)) k) r
def aUC (σ : Rg) (h : H) (l : List RV) : (List DV -> Option (DV × H)) -> Option (DV × H) :=
 List.rec (motive := λ _ => (List DV -> Option (DV × H)) -> Option (DV × H)) (λ k => k []) (λ r _ ih k => rv2 σ h r λ v => ih λ vs => k (v :: vs)) l
def aQn (res : List RV) : gT (DV × H) := λ x σ h =>
 DX.rec (motive := λ _ => Option (DV × H)) (aUC σ h res λ vs => some (rS vs, h)) (λ _ => none) (aUC σ h res λ vs => some (rS vs, h)) x
def aNR (E : bN) (d : DF) : cD := λ args h => Bool.rec none (kM E d.body (reg (Tr.ofL args)) h (aQn d.res)) (Nat.beq args.length d.np)
section
variable {R : Type} {E : bN} {ρ : Tr DV}
theorem aQw (d : DOp) (ρ : Tr DV) (h : H) (k : DV -> H -> Option R) : aUY E d (reg ρ) h k = (odo E d ρ h).bind λ x => k x.1 x.2 := by
 cases d with
 | e d => exact bCs E d ρ h k
 | w d =>
   rw [<- bFI]; cases d <;> (show wK _ k = wK _ k; simp only [odo, wdo, cW, aAZ, eV, aBW])
 | c d =>
   rw [<- bFI]; cases d with
   | f f args => show wK (aD E f (args.map (e2 (reg ρ))) h) k = wK (aD E f (args.map (ev ρ)) h) k; rw [cW]
   | v f args => show wK (oQ E (e2 (reg ρ) f) (args.map (e2 (reg ρ))) h) k = wK (oQ E (ev ρ f) (args.map (ev ρ)) h) k; rw [cW]
   | m tbl x args => show wK (vS E tbl (e2 (reg ρ) x) (args.map (e2 (reg ρ))) h) k = wK (vS E tbl (ev ρ x) (args.map (ev ρ)) h) k; rw [cW]
theorem aUK (dst : Option Pa) (v : DV) (ρ : Tr DV) : reg (sY dst v ρ) = aAL dst v (reg ρ) := by
 cases dst with
 | none => rfl
 | some p => exact bCe ρ p v
theorem bUf (p : Pa) (t : Bool) (a b : Option R) : gK (reg ρ p) t a b = bif fA ρ (some (p, t)) then a else b := by
 show gK (ev ρ (.r p)) t a b = _; unfold fA; simp only []; generalize ev ρ (.r p) = x; cases x <;> try rfl
 rename_i c; cases c <;> cases t <;> rfl
theorem bUh (p : Pa) (t : Bool) (x : Bool) : gB (reg ρ p) t x = bif fA ρ (some (p, t)) then x else true := by
 show gB (ev ρ (.r p)) t x = _; unfold fA; simp only []; generalize ev ρ (.r p) = y; cases y <;> try rfl
 rename_i c; cases c <;> cases t <;> rfl
theorem aHw (g : DG) (h : H) (k : Tr DV -> H -> Option R) (k2 : Rg -> H -> Option R) (hk : ∀ ρ h, k ρ h = k2 (reg ρ) h) : vH E g ρ h k = aOQ E g (reg ρ) h k2 := by
 obtain ⟨dst, guard, op⟩ := g; unfold vH; simp only [qM, hk, aUK]; cases guard with
 | none =>
   show (odo E op ρ h).bind (λ x => k2 (aAL dst x.1 (reg ρ)) x.2) = aUY E op (reg ρ) h λ v h => k2 (aAL dst v (reg ρ)) h
   rw [aQw]
 | some x =>
   obtain ⟨p, t⟩ := x; show _ = gK (reg ρ p) t (aUY E op (reg ρ) h λ v h => k2 (aAL dst v (reg ρ)) h) (k2 (aAL dst (.tup []) (reg ρ)) h)
   rw [bUf, aQw]
theorem aEX : ∀ (l : List DG) (ρ : Tr DV) (h : H) (k : Tr DV -> H -> Option R) (k2 : Rg -> H -> Option R), (∀ ρ h, k ρ h = k2 (reg ρ) h) -> aIY E l ρ h k = aIX E l (reg ρ) h k2
 | [], ρ, h, k, k2, hk => hk ρ h
 | g :: l, ρ, h, k, k2, hk => aHw g h _ (λ σ h => aIX E l σ h k2) λ ρ h => aEX l ρ h k k2 hk
theorem bCf (g : DG) (h : H) : aAF g ρ h = pC g (reg ρ) h := by
 obtain ⟨dst, guard, op⟩ := g; have key : (match op, dst with
     | .e d, some p => match dF d ρ h.get with
       | some (.val v) => qH v (ev ρ (.r p))
       | _ => false
     | _, _ => false) = bCg op dst (reg ρ) h := by
   cases op with
   | w d => rfl
   | c d => rfl
   | e d =>
     cases dst with
     | none => rfl
     | some p =>
       show _ = rcK (eR d (reg ρ) h.get) (reg ρ p); simp only []; cases hd : aQE d with
       | false =>
         rw [aHy hd]; cases eR d (reg ρ) h.get <;> rfl
       | true =>
         have e1 : eR d (reg ρ) h.get = none := by cases d <;> first | (cases hd; done) | rfl
         rw [e1]; show _ = false; split
         · rename_i v hv
           exfalso
           cases d <;> first | (cases hd; done) | skip
           · cases hv
           · cases hv
           · simp only [dF, bE] at hv; cases hv
           · rename_i a b c d; simp only [dF] at hv; cases hq : iG (gP c a) (d.map λ p => (p.1, p.2.1, ev ρ p.2.2)) with
             | none => rw [hq] at hv; cases hv
             | some cs => rw [hq] at hv; cases hv
           · simp only [dF] at hv; split at hv
             · obtain ⟨_, hv⟩ := bJ hv; cases hv
             · cases hv
           · cases hv
           · simp only [dF, bE] at hv; split at hv <;> cases hv
         · rfl
 unfold aAF pC; cases guard with
 | none => exact key
 | some x =>
   obtain ⟨p, t⟩ := x; show _ = gB (reg ρ p) t (bCg op dst (reg ρ) h); rw [bUh, <- key]
   rfl
theorem aUM (pre : List DR) (h : H) (x : Option R) : ∀ l : Ln, (bif l.all (nM pre ρ h) then x else none) = reK pre (reg ρ) h x l
 | [] => rfl
 | q :: l => by
   show _ = rK (Option.rec (motive := λ _ => Bool) false (λ g => pC g (reg ρ) h) (aAN q pre)) (reK pre (reg ρ) h x l)
   rw [<- aUM pre h x l]; have e : nM pre ρ h q = Option.rec (motive := λ _ => Bool) false (λ g => pC g (reg ρ) h) (aAN q pre) := by
     unfold nM; cases aAN q pre with
     | none => rfl
     | some g => exact bCf g h
   rw [<- e, List.all_cons]; cases nM pre ρ h q <;> rfl
theorem aHv : ∀ (l pre : List DR) (ρ : Tr DV) (h : H) (k : Tr DV -> H -> Option R) (k2 : Rg -> H -> Option R), (∀ ρ h, k ρ h = k2 (reg ρ) h) -> uH E l pre ρ h k = aOP E l pre (reg ρ) h k2
 | [], pre, ρ, h, k, k2, hk => hk ρ h
 | x :: l, pre, ρ, h, k, k2, hk => by
   refine aHw x.g h (λ ρ h => bif x.re.all (nM pre ρ h) then uH E l (x :: pre) ρ h k else none) (λ σ h => reK pre σ h (aOP E l (x :: pre) σ h k2) x.re) λ ρ h => ?_
   rw [<- aHv l (x :: pre) ρ h k k2 hk]; exact aUM pre h _ x.re
theorem aVL : ∀ (d : DC) (ρ : Tr DV) (h : H) (K : KT R) (K2 : gT R), (∀ x ρ h, K x ρ h = K2 x (reg ρ) h) -> vI E d ρ h K = kM E d (reg ρ) h K2 := by
 intro d
 induction d with
 | skip => intro ρ h K K2 hk; exact hk .normal ρ h
 | reg l => intro ρ h K K2 hk; exact aEX l ρ h _ _ λ ρ h => hk .normal ρ h
 | seq a b iha ihb =>
   intro ρ h K K2 hk; refine iha ρ h _ (aBz (λ σ h => kM E b σ h K2) K2) λ x ρ h => ?_
   cases x with
   | normal => exact ihb ρ h K K2 hk
   | exit i => exact hk (.exit i) ρ h
   | ret => exact hk .ret ρ h
 | cond c a b iha ihb =>
   intro ρ h K K2 hk; show aDV c a b (vI E a) (vI E b) ρ h K = bK (e2 (DI.reg ρ) c) (kM E a (DI.reg ρ) h K2) (kM E b (DI.reg ρ) h K2); rw [<- iha ρ h K K2 hk, <- ihb ρ h K K2 hk, aVW]; unfold aDV bK; cases ev ρ c <;> try rfl
   rename_i t; cases t <;> rfl
 | block id a iha =>
   intro ρ h K K2 hk; refine iha ρ h _ (aQS id K2) λ x ρ h => ?_
   cases x with
   | normal => exact hk .normal ρ h
   | exit i =>
     show (bif Nat.beq i id then K .normal ρ h else K (.exit i) ρ h) = Bool.rec (K2 (.exit i) (DI.reg ρ) h) (K2 .normal (DI.reg ρ) h) (Nat.beq i id); cases Nat.beq i id
     · exact hk (.exit i) ρ h
     · exact hk .normal ρ h
   | ret => exact hk .ret ρ h
 | loop a iha =>
   intro ρ h K K2 hk; show aQD (vI E a) K aT ρ h = vF (kM E a) K2 aT (DI.reg ρ) h; generalize aT = n
   induction n generalizing ρ h with
   | zero => rfl
   | succ n ih =>
     refine iha ρ h _ (aBz (vF (kM E a) K2 n) K2) λ x ρ h => ?_
     cases x with
     | normal => exact ih ρ h
     | exit i => exact hk (.exit i) ρ h
     | ret => exact hk .ret ρ h
 | exit id => intro ρ h K K2 hk; exact hk (.exit id) ρ h
 | ret => intro ρ h K K2 hk; exact hk .ret ρ h
 | scope a iha =>
   intro ρ h K K2 hk; refine iha ρ h _ (aQf K2) λ x ρ h => ?_
   cases x with
   | normal => exact hk .normal ρ h
   | exit i =>
     show (bif Nat.blt i 4294967296 then K (.exit i) ρ h else none) = Bool.rec none (K2 (.exit i) (DI.reg ρ) h) (Nat.blt i 4294967296); cases Nat.blt i 4294967296
     · rfl
     · exact hk (.exit i) ρ h
   | ret => exact hk .ret ρ h
 | jump g a r iha ihr =>
   intro ρ h K K2 hk; have jk : ∀ (k : Tr DV -> H -> Option R) (k2 : Rg -> H -> Option R), (∀ ρ h, k ρ h = k2 (DI.reg ρ) h) -> ∀ x ρ h, aLT g k K x ρ h = aBM g k2 K2 x (DI.reg ρ) h := by
     intro k k2 hkk x ρ h; cases x with
     | normal => exact hk .normal ρ h
     | exit i =>
       show (bif Nat.beq i g then k ρ h else bif Nat.blt i 4294967296 then K (.exit i) ρ h else none) = Bool.rec (Bool.rec none (K2 (.exit i) (DI.reg ρ) h) (Nat.blt i 4294967296)) (k2 (DI.reg ρ) h) (Nat.beq i g); cases Nat.beq i g
       · cases Nat.blt i 4294967296
         · rfl
         · exact hk (.exit i) ρ h
       · exact hkk ρ h
     | ret => exact hk .ret ρ h
   have key : ∀ n ρ h, aHl (vI E r) g K n ρ h = zA (kM E r) g K2 n (DI.reg ρ) h := by
     intro n
     induction n with
     | zero => intro ρ h; rfl
     | succ n ih => intro ρ h; exact ihr ρ h _ (aBM g (zA (kM E r) g K2 n) K2) (jk _ _ ih)
   exact iha ρ h _ (aBM g (zA (kM E r) g K2 aT) K2) (jk _ _ (key aT))
 | drg l => intro ρ h K K2 hk; exact aHv l [] ρ h _ _ λ ρ h => hk .normal ρ h
 | bad => intro ρ h K K2 hk; rfl
theorem aQj (h : H) : ∀ (l : List RV) (k : List DV -> Option (DV × H)), aUC (reg ρ) h l k = (qN ρ h l).bind k
 | [], k => rfl
 | r :: l, k => by
   show rv2 (reg ρ) h r (λ v => aUC (reg ρ) h l λ vs => k (v :: vs)) = _
   simp only [aQj h l]; have e : ∀ q : DV -> Option (DV × H), rv2 (reg ρ) h r q = (aIs ρ h r).bind q := by
     intro q; cases r with
     | r p => rfl
     | cell p =>
       show vK (aG h.get (ev ρ (.r p))) q = _; rw [bFJ]; simp only [aIs, aG, cI]; generalize ev ρ (.r p) = y; cases y <;> rfl
     | cells p n =>
       show vK (aK n h.get (ev ρ (.r p))) q = _; rw [bFJ]; simp only [aIs, aK, cH]; generalize ev ρ (.r p) = y; cases y <;> rfl
   rw [e]; simp only [qN]; cases aIs ρ h r with
   | none => rfl
   | some v =>
     simp only [Option.bind_some]; cases qN ρ h l <;> rfl
theorem aSR (E : bN) (d : DF) (args : List DV) (h : H) : mG E d args h = aNR E d args h := by
 unfold mG aNR; cases Nat.beq args.length d.np with
 | false => rfl
 | true =>
   show vI E d.body (Tr.ofL args) h (retK d.res) = kM E d.body (reg (Tr.ofL args)) h (aQn d.res); refine aVL d.body _ h _ _ λ x ρ h => ?_
   have e : ((qN ρ h d.res).map λ vs => (rS vs, h)) = aUC (reg ρ) h d.res λ vs => some (rS vs, h) := by
     rw [aQj]; cases qN ρ h d.res <;> rfl
   cases x with
   | normal => exact e
   | exit i => rfl
   | ret => exact e
end
section
variable {R : Type}
abbrev bSK (d : WOp) : Rg -> H -> (DV -> H -> Option R) -> Option R :=
 WOp.rec (motive := λ _ => Rg -> H -> (DV -> H -> Option R) -> Option R)
   (λ n a x σ h k => wK (bR n (e2 σ a) (e2 σ x) h) k)
   (λ es bytes x y σ h k => wK (cE es bytes (e2 σ x) (e2 σ y) h) k)
   (λ es x y σ h k => wK (lT es (e2 σ x) (e2 σ y) h) k)
   (λ kt x q y σ h k => wK (aTE kt (e2 σ x) (e2 σ q) (e2 σ y) h) k)
   (λ zs x σ h k => wK (vP zs (e2 σ x) h) k)
   (λ x σ h k => wK (aBa (e2 σ x) h) k)
   (λ es bytes zs x y σ h k => wK (aMx es bytes zs (e2 σ x) (e2 σ y) h) k) d
abbrev bSL (E : bN) (d : COp) : Rg -> H -> (DV -> H -> Option R) -> Option R :=
 COp.rec (motive := λ _ => Rg -> H -> (DV -> H -> Option R) -> Option R)
   (λ f args σ h k => wK (aD E f (args.map (e2 σ)) h) k)
   (λ f args σ h k => wK (oQ E (e2 σ f) (args.map (e2 σ)) h) k)
   (λ tbl x args σ h k => wK (vS E tbl (e2 σ x) (args.map (e2 σ)) h) k) d
abbrev odo3 (E : bN) (d : DOp) : Rg -> H -> (DV -> H -> Option R) -> Option R :=
 DOp.rec (motive := λ _ => Rg -> H -> (DV -> H -> Option R) -> Option R) bCt bSK (bSL E) d
abbrev aVJ (E : bN) (g : DG) (σ : Rg) (h : H) (k : Rg -> H -> Option R) : Option R :=
 Option.rec (motive := λ _ => Option R) (odo3 E g.op σ h λ v h => k (aAL g.dst v σ) h)
   (λ x => bA (σ x.1) x.2 (λ kk => odo3 E g.op σ h kk) h λ v h => k (aAL g.dst v σ) h) g.guard
abbrev bCN (E : bN) (l : List DG) : Rg -> H -> (Rg -> H -> Option R) -> Option R :=
 List.rec (motive := λ _ => Rg -> H -> (Rg -> H -> Option R) -> Option R) (λ σ h k => k σ h) (λ g _ ih σ h k => aVJ E g σ h λ σ h => ih σ h k) l
abbrev reK3 (pre : List DR) (σ : Rg) (h : H) (x : Option R) (l : Ln) : Option R :=
 List.rec (motive := λ _ => Option R) x (λ q _ ih => rK (Option.rec (motive := λ _ => Bool) false (λ g => pC g σ h) (aAN q pre)) ih) l
abbrev bJP (E : bN) (l : List DR) : List DR -> Rg -> H -> (Rg -> H -> Option R) -> Option R :=
 List.rec (motive := λ _ => List DR -> Rg -> H -> (Rg -> H -> Option R) -> Option R) (λ _ σ h k => k σ h)
   (λ x _ ih pre σ h k => aVJ E x.g σ h λ σ h => reK3 pre σ h (ih (x :: pre) σ h k) x.re) l
abbrev cG (k : Rg -> H -> Option R) (K : gT R) : gT R := λ x σ h =>
 DX.rec (motive := λ _ => Option R) (k σ h) (λ id => K (.exit id) σ h) (K .ret σ h) x
abbrev bM (id : Nat) (K : gT R) : gT R := λ x σ h =>
 DX.rec (motive := λ _ => Option R) (K .normal σ h) (λ i => Bool.rec (K (.exit i) σ h) (K .normal σ h) (Nat.beq i id)) (K .ret σ h) x
abbrev aDF (K : gT R) : gT R := λ x σ h =>
 DX.rec (motive := λ _ => Option R) (K .normal σ h) (λ i => Bool.rec none (K (.exit i) σ h) (Nat.blt i 4294967296)) (K .ret σ h) x
abbrev aVp (g : Nat) (k : Rg -> H -> Option R) (K : gT R) : gT R := λ x σ h =>
 DX.rec (motive := λ _ => Option R) (K .normal σ h) (λ i => Bool.rec (Bool.rec none (K (.exit i) σ h) (Nat.blt i 4294967296)) (k σ h) (Nat.beq i g)) (K .ret σ h) x
abbrev mM (E : bN) (c : DC) : Rg -> H -> gT R -> Option R :=
 DC.rec (motive := λ _ => Rg -> H -> gT R -> Option R)
   (λ σ h K => K .normal σ h)
   (λ l σ h K => bCN E l σ h λ σ h => K .normal σ h)
   (λ _ _ ia ib σ h K => ia σ h (cG (λ σ h => ib σ h K) K))
   (λ c _ _ ia ib σ h K => bK (e2 σ c) (ia σ h K) (ib σ h K))
   (λ id _ ia σ h K => ia σ h (bM id K))
   (λ _ ia σ h K => vF ia K aT σ h)
   (λ id σ h K => K (.exit id) σ h)
   (λ σ h K => K .ret σ h)
   (λ _ ia σ h K => ia σ h (aDF K))
   (λ l σ h K => bJP E l [] σ h λ σ h => K .normal σ h)
   (λ _ _ _ => none)
   (λ g _ _ ia ir σ h K => ia σ h (aVp g (zA ir g K aT) K)) c
end
abbrev rv3 (σ : Rg) (h : H) (r : RV) (k : DV -> Option (DV × H)) : Option (DV × H) :=
 RV.rec (motive := λ _ => Option (DV × H)) (λ p => k (σ p)) (λ p => vK (aG h.get (σ p)) k) (λ p n => vK (aK n h.get (σ p)) k) r
abbrev rvs3 (σ : Rg) (h : H) (l : List RV) : (List DV -> Option (DV × H)) -> Option (DV × H) :=
 List.rec (motive := λ _ => (List DV -> Option (DV × H)) -> Option (DV × H)) (λ k => k []) (λ r _ ih k => rv3 σ h r λ v => ih λ vs => k (v :: vs)) l
abbrev bO (res : List RV) : gT (DV × H) := λ x σ h =>
 DX.rec (motive := λ _ => Option (DV × H)) (rvs3 σ h res λ vs => some (rS vs, h)) (λ _ => none) (rvs3 σ h res λ vs => some (rS vs, h)) x
theorem aVK {R : Type} (E : bN) (c : DC) (σ : Rg) (h : H) (K : gT R) : mM E c σ h K = kM E c σ h K := by
 induction c generalizing σ h K with
 | skip => rfl
 | reg l => rfl
 | seq a b iha ihb =>
   show mM E a σ h (cG (λ σ h => mM E b σ h K) K) = kM E a σ h (aBz (λ σ h => kM E b σ h K) K)
   rw [iha, show (λ σ h => mM E b σ h K) = λ σ h => kM E b σ h K from funext λ σ => funext λ h => ihb σ h K]
   rfl
 | cond c a b iha ihb =>
   show bK (e2 σ c) (mM E a σ h K) (mM E b σ h K) = bK (e2 σ c) (kM E a σ h K) (kM E b σ h K); rw [iha, ihb]
 | block id a iha => exact iha σ h _
 | loop a iha =>
   have e : mM (R := R) E a = kM E a := funext λ σ => funext λ h => funext λ K => iha σ h K
   show vF (mM E a) K aT σ h = vF (kM E a) K aT σ h; rw [e]
 | exit id => rfl
 | ret => rfl
 | scope a iha => exact iha σ h _
 | drg l => rfl
 | bad => rfl
 | jump g a r iha ihr =>
   have e : mM (R := R) E r = kM E r := funext λ σ => funext λ h => funext λ K => ihr σ h K
   show mM E a σ h (aVp g (zA (mM E r) g K aT) K) = kM E a σ h (aBM g (zA (kM E r) g K aT) K); rw [e, iha]; rfl
def Is {R : Type} (E : bN) (c : DC) (K : gT R) (S : Rg -> H -> Option R) : Prop := ∀ σ h, mM E c σ h K = S σ h
section
variable {R : Type} {E : bN} {K : gT R}
theorem Is.leaf (c : DC) : Is E c K λ σ h => mM E c σ h K := λ _ _ => rfl
theorem Is.seq {a b : DC} {Sa Sb : Rg -> H -> Option R} (hb : Is E b K Sb) (ha : Is E a (cG Sb K) Sa) : Is E (.seq a b) K Sa := λ σ h => by
 have e : (λ σ h => mM E b σ h K) = Sb := funext λ σ => funext λ h => hb σ h
 show mM E a σ h (cG (λ σ h => mM E b σ h K) K) = _
 rw [e]; exact ha σ h
theorem Is.block {id : Nat} {a : DC} {Sa : Rg -> H -> Option R} (ha : Is E a (bM id K) Sa) : Is E (.block id a) K Sa := ha
theorem Is.scope {a : DC} {Sa : Rg -> H -> Option R} (ha : Is E a (aDF K) Sa) : Is E (.scope a) K Sa := ha
theorem Is.loop {a : DC} (S : Nat -> Rg -> H -> Option R) (h0 : S 0 = λ _ _ => none) (hs : ∀ n, Is E a (cG (S n) K) (S (n + 1))) : Is E (.loop a) K (S aT) := by
 have key : ∀ n, vF (mM E a) K n = S n := by
   intro n
   induction n with
   | zero => exact h0.symm
   | succ n ih =>
     funext σ h
     show mM E a σ h (aBz (vF (mM E a) K n) K) = _; rw [ih]; exact hs n σ h
 exact λ σ h => congrFun (congrFun (key aT) σ) h
theorem Is.as {c : DC} {S T : Rg -> H -> Option R} (h : Is E c K S) (e : ∀ σ m, S σ m = T σ m) : Is E c K T := λ σ m => (h σ m).trans (e σ m)
end
end Go.DI
namespace Go.DI
open Go.RowKit
def a0 {R : Type} (args : List DV) (x : Option R) : Option R := List.rec (motive := λ _ => Option R) x (λ _ _ _ => none) args
def aS {R : Type} (args : List DV) (k : DV -> List DV -> Option R) : Option R := List.rec (motive := λ _ => Option R) none (λ v vs _ => k v vs) args
abbrev aV := Option (DV × H)
theorem Is.fn {E : bN} {d : DF} {S : Rg -> H -> aV} (h : Is E d.body (bO d.res) S) {np : Nat} (hn : d.np = np) (F : cD) (hF : ∀ args h, args.length = np -> S (reg (Tr.ofL args)) h = F args h) (h0 : ∀ args h, args.length ≠ np -> F args h = none) (args : List DV) (m : H) : mG E d args m = F args m := by
 rw [aSR]; unfold aNR; have e0 : ∀ σ m, kM E d.body σ m (aQn d.res) = S σ m := λ σ m => (aVK E d.body σ m (aQn d.res)).symm.trans (h σ m)
 subst hn; by_cases e : args.length = d.np
 · rw [e, Nat.beq_refl]; exact (e0 _ m).trans (hF args m e)
 · have : Nat.beq args.length d.np = false := by
     cases hb : Nat.beq args.length d.np
     · rfl
     · exact absurd (Nat.eq_of_beq_eq_true hb) e
   rw [this]; exact (h0 args m e).symm
theorem Is.fn0 {E : bN} {d : DF} {S : Rg -> H -> aV} (h : Is E d.body (bO d.res) S) (hn : d.np = 0) (J : H -> aV) (e : ∀ h, S (reg (Tr.ofL [])) h = J h) (args : List DV) (m : H) : mG E d args m = a0 args (J m) :=
 h.fn hn (λ args h => a0 args (J h)) (λ args h hl => by
   match args, hl with
   | [], _ => exact e h) (λ args h hl => by
   match args, hl with
   | [], hl => exact absurd rfl hl
   | _ :: _, _ => rfl) args m
theorem Is.fn1 {E : bN} {d : DF} {S : Rg -> H -> aV} (h : Is E d.body (bO d.res) S) (hn : d.np = 1) (J : DV -> H -> aV) (e : ∀ r0 h, S (reg (Tr.ofL [r0])) h = J r0 h) (args : List DV) (m : H) : mG E d args m = (λ args h => aS args λ r0 args => a0 args (J r0 h)) args m :=
 h.fn hn (λ args h => aS args λ r0 args => a0 args (J r0 h)) (λ args h hl => by
   match args, hl with
   | [r0], _ => exact e r0 h) (λ args h hl => by
   match args, hl with
   | [], _ => rfl
   | [r0], hl => exact absurd rfl hl
   | _ :: _ :: _, _ => rfl) args m
theorem Is.fn2 {E : bN} {d : DF} {S : Rg -> H -> aV} (h : Is E d.body (bO d.res) S) (hn : d.np = 2) (J : DV -> DV -> H -> aV) (e : ∀ r0 r1 h, S (reg (Tr.ofL [r0, r1])) h = J r0 r1 h) (args : List DV) (m : H) : mG E d args m = (λ args h => aS args λ r0 args => aS args λ r1 args => a0 args (J r0 r1 h)) args m :=
 h.fn hn (λ args h => aS args λ r0 args => aS args λ r1 args => a0 args (J r0 r1 h)) (λ args h hl => by
   match args, hl with
   | [r0, r1], _ => exact e r0 r1 h) (λ args h hl => by
   match args, hl with
   | [], _ => rfl
   | [_], _ => rfl
   | [r0, r1], hl => exact absurd rfl hl
   | _ :: _ :: _ :: _, _ => rfl) args m
theorem Is.fn3 {E : bN} {d : DF} {S : Rg -> H -> aV} (h : Is E d.body (bO d.res) S) (hn : d.np = 3) (J : DV -> DV -> DV -> H -> aV) (e : ∀ r0 r1 r2 h, S (reg (Tr.ofL [r0, r1, r2])) h = J r0 r1 r2 h) (args : List DV) (m : H) : mG E d args m = (λ args h => aS args λ r0 args => aS args λ r1 args => aS args λ r2 args => a0 args (J r0 r1 r2 h)) args m :=
 h.fn hn (λ args h => aS args λ r0 args => aS args λ r1 args => aS args λ r2 args => a0 args (J r0 r1 r2 h)) (λ args h hl => by
   match args, hl with
   | [r0, r1, r2], _ => exact e r0 r1 r2 h) (λ args h hl => by
   match args, hl with
   | [], _ => rfl
   | [_], _ => rfl
   | [_, _], _ => rfl
   | [r0, r1, r2], hl => exact absurd rfl hl
   | _ :: _ :: _ :: _ :: _, _ => rfl) args m
theorem Is.fn4 {E : bN} {d : DF} {S : Rg -> H -> aV} (h : Is E d.body (bO d.res) S) (hn : d.np = 4) (J : DV -> DV -> DV -> DV -> H -> aV) (e : ∀ r0 r1 r2 r3 h, S (reg (Tr.ofL [r0, r1, r2, r3])) h = J r0 r1 r2 r3 h) (args : List DV) (m : H) : mG E d args m = (λ args h => aS args λ r0 args => aS args λ r1 args => aS args λ r2 args => aS args λ r3 args => a0 args (J r0 r1 r2 r3 h)) args m :=
 h.fn hn (λ args h => aS args λ r0 args => aS args λ r1 args => aS args λ r2 args => aS args λ r3 args => a0 args (J r0 r1 r2 r3 h)) (λ args h hl => by
   match args, hl with
   | [r0, r1, r2, r3], _ => exact e r0 r1 r2 r3 h) (λ args h hl => by
   match args, hl with
   | [], _ => rfl
   | [_], _ => rfl
   | [_, _], _ => rfl
   | [_, _, _], _ => rfl
   | [r0, r1, r2, r3], hl => exact absurd rfl hl
   | _ :: _ :: _ :: _ :: _ :: _, _ => rfl) args m
structure FD where
 f : Nat
 d : DF
 s : bN -> cD
def sT : List FD -> Prop
 | [] => True
 | x :: l => (∀ E args h, mG E x.d args h = x.s E args h) /\ sT l
theorem sT.mem : ∀ {l : List FD}, sT l -> ∀ x ∈ l, ∀ E args h, mG E x.d args h = x.s E args h
 | y :: l, h, x, hx => by
   rcases List.mem_cons.1 hx with rfl | hx
   · exact h.1
   · exact h.2.mem x hx
theorem sT.append : ∀ {l m : List FD}, sT l -> sT m -> sT (l ++ m)
 | [], _, _, h => h
 | _ :: _, _, h, k => ⟨h.1, h.2.append k⟩
def aDo (P : Program) (l : List FD) : Bool := l.all λ x => aMz P x.f x.d
theorem aBb {P : Program} {l m : List FD} (h : aDo P l = true) (k : aDo P m = true) : aDo P (l ++ m) = true := by
 unfold aDo at *; rw [List.all_append, h, k]; rfl
def bCh : List FD -> Tr (bN -> cD) -> Tr (bN -> cD)
 | [], t => t
 | x :: l, t => bCh l (Tr.set x.s (Pa.of x.f) t)
theorem aQr : ∀ (l : List FD) (t : Tr (bN -> cD)) (f : Nat) (s : bN -> cD), (bCh l t).at_ f = some s -> t.at_ f = some s \/ ∃ x ∈ l, x.f = f /\ x.s = s
 | [], t, f, d, h => .inl h
 | x :: l, t, f, d, h => by
   rcases aQr l _ f d h with h | ⟨y, hy, h⟩
   · have := Tr.at_put t x.f f x.s; unfold Tr.put at this; rw [this] at h; split at h
     · rename_i hh; cases h; exact .inr ⟨x, by simp, hh.symm, rfl⟩
     · exact .inl h
   · exact .inr ⟨y, List.mem_cons_of_mem _ hy, h⟩
def SE (B : bN) (T : Tr (bN -> cD)) (n : Nat) : bN := Nat.rec (motive := λ _ => bN) (λ _ => none) (λ _ ih f =>
 Option.rec (motive := λ _ => Option cD) (Option.rec (motive := λ _ => Option cD) none (λ s => some (s ih)) (T.at_ f)) some (B f)) n
structure aHJ (P : Program) (T : Tr (bN -> cD)) : Prop where
 ok : ∀ f s, T.at_ f = some s -> mO P f = true /\ ∀ E, lD P E -> gD P f (s E)
theorem bSs {P : Program} {l : List FD} {T : Tr (bN -> cD)} (hT : bCh l .e = T) (hc : aDo P l = true) (he : sT l) : aHJ P T := by
 refine ⟨λ f s h => ?_⟩
 rw [<- hT] at h; rcases aQr l _ f s h with h | ⟨x, hx, rfl, rfl⟩
 · rw [Tr.at_e] at h; cases h
 · have hk := List.all_eq_true.1 hc x hx; refine ⟨aMB hk, λ E hE => ?_⟩
   have e : x.s E = mG E x.d := funext λ args => funext λ h => (he.mem x hx E args h).symm
   rw [e]; exact aVD hE hk
theorem aRg {P : Program} {B : bN} {T : Tr (bN -> cD)} (hB : lD P B) (hT : aHJ P T) : ∀ n, lD P (SE B T n)
 | 0 => λ f F hF => by cases hF
 | n + 1 => λ f F hF => by
   replace hF : Option.rec (motive := λ _ => Option cD) (Option.rec (motive := λ _ => Option cD) none (λ s => some (s (SE B T n))) (T.at_ f)) some (B f) = some F := hF
   cases hb : B f with
   | some G => rw [hb] at hF; cases hF; exact hB f F hb
   | none =>
     rw [hb] at hF; cases hs : T.at_ f with
     | none => rw [hs] at hF; cases hF
     | some s =>
       rw [hs] at hF; cases hF; exact ⟨(hT.ok f s hs).1, (hT.ok f s hs).2 _ (aRg hB hT n)⟩
theorem aMA {P : Program} {B : bN} {T : Tr (bN -> cD)} {f : FuncId} {s : bN -> cD} (hB : lD P B) (hT : aHJ P T) (hf : T.at_ f = some s) {n : Nat} {args : List DV} {args' : List Value} (hargs : trs (λ _ => none) args = some args')
   (hrun : (s (SE B T n) args H0).map (·.1) = some (.bool true)) (w : World) :
   Calls P f args'.toArray w λ e w' => e = .returned (.bool true) /\ Below w.heap.size w w' := by
 cases hr : s (SE B T n) args H0 with
 | none => rw [hr] at hrun; cases hrun
 | some r =>
   obtain ⟨v, h'⟩ := r; rw [hr] at hrun; simp only [Option.map_some, Option.some.injEq] at hrun; subst hrun; refine ((hT.ok f s hf).2 _ (aRg hB hT n) w.heap.size w _ H0 w args args' _ h' hr hargs (cY.start w)).mono λ e w' hh => ?_
   obtain ⟨m', v', rfl, h2, h3, h4⟩ := hh; rw [jW h2]; exact ⟨rfl, h3.below⟩
end Go.DI
namespace Go.DI
open Go.RowKit
section
variable {R : Type}
@[simp] theorem aA (v : DV) (k : DV -> Option R) : vK (some v) k = k v := id rfl
@[simp] theorem bZJ (k : DV -> Option R) : vK none k = none := id rfl
@[simp] theorem aB (v : DV) (h : H) (k : DV -> H -> Option R) : wK (some (v, h)) k = k v h := id rfl
@[simp] theorem bZI (k : DV -> H -> Option R) : wK none k = none := id rfl
@[simp] theorem aE (a b : Option R) : bK (.bool true) a b = a := id rfl
@[simp] theorem aC (a b : Option R) : bK (.bool false) a b = b := id rfl
@[simp] theorem fU (a : Option R) : rK true a = a := id rfl
@[simp] theorem cAc (v : DV) (vs : List DV) (k : DV -> List DV -> Option R) : aS (v :: vs) k = k v vs := id rfl
@[simp] theorem aS_nil (k : DV -> List DV -> Option R) : aS [] k = none := id rfl
@[simp] theorem a0_nil (x : Option R) : a0 [] x = x := id rfl
@[simp] theorem cAd (v : DV) (vs : List DV) (x : Option R) : a0 (v :: vs) x = none := id rfl
end
theorem dR {a b : Nat} (h : a < b) : Nat.blt a b = true := by rw [Nat.blt_eq]; exact h
theorem cP {E : bN} {f : Nat} {F : cD} (h : E f = some F) (args : List DV) (m : H) : aD E f args m = F args m := by unfold aD; rw [h]
theorem jL (k : IntKind) : kEq k k = true := by cases k <;> rfl
theorem aBw (k : IntKind) (a b : Int) : bL (.int k a) (.int k b) = some (.int k (k.wrap (a + b))) := by
 show (bif kEq k k then aRd k a b else none) = _; rw [jL]; show jO k (aVt a b) = _; rw [aIV, jZ]
theorem aBp (k : IntKind) (a b : Int) : fB (.int k a) (.int k b) = some (.int k (k.wrap (a - b))) := by
 show (bif kEq k k then aQU k a b else none) = _; rw [jL]; show jO k (a - b) = _; rw [jZ]
theorem eZ (k : IntKind) (a b : Int) : cR (.int k a) (.int k b) = some (.bool (decide (a < b))) := by
 show (bif kEq k k then aQX k a b else none) = _; rw [jL]; show eU (iLt a b) = _; rw [fK, nD]
theorem aBv (k : IntKind) (a b : Int) : eJ (.int k a) (.int k b) = some (.bool (decide (b < a))) := by
 show (bif kEq k k then aQZ k a b else none) = _; rw [jL]; show eU (iLt b a) = _; rw [fK, nD]
theorem aSD (k : IntKind) (a b : Nat) (ha : a < 2 ^ k.bits) (hb : b < 2 ^ k.bits) : aEc (.int k (.ofNat a)) (.int k (.ofNat b)) = some (.int k (k.wrap (.ofNat (a &&& b)))) := by
 show (bif kEq k k then aQG k (.ofNat a) (.ofNat b) else none) = _; rw [jL]; show (bif Nat.blt a (2 ^ k.bits) && Nat.blt b (2 ^ k.bits) then jO k (.ofNat (Nat.land a b)) else _) = _; rw [dR ha, dR hb]; exact jZ _ _
theorem aBo (k : IntKind) (a b : Nat) (ha : a < 2 ^ k.bits) (hb : b < 2 ^ k.bits) : aDX (.int k (.ofNat a)) (.int k (.ofNat b)) = some (.int k (k.wrap (.ofNat (a ^^^ b)))) := by
 show (bif kEq k k then aQF k (.ofNat a) (.ofNat b) else none) = _; rw [jL]; show (bif Nat.blt a (2 ^ k.bits) && Nat.blt b (2 ^ k.bits) then jO k (.ofNat (Nat.xor a b)) else _) = _; rw [dR ha, dR hb]; exact jZ _ _
theorem aSx (k k' : IntKind) (a b : Nat) (hb : b <= k.bits) : yE (.int k (.ofNat a)) (.int k' (.ofNat b)) = some (.int k (.ofNat (a / 2 ^ b))) := by
 show pW .shr k (.ofNat a) (.ofNat b) = _; unfold pW; rw [show iLt (.ofNat b) 0 = false from by rw [nD]; simp]
 simp only [cond_false, oZ]; rw [show min (Int.ofNat b).toNat k.bits = b from by simp [Nat.min_eq_left hb]]
 congr 2
 show Int.fdiv (a : Int) (2 ^ b) = ((a / 2 ^ b : Nat) : Int); rw [Int.fdiv_eq_ediv_of_nonneg _ (by exact_mod_cast Nat.zero_le _)]
 simp
theorem pI (k k' : IntKind) (a : Int) : fE k (.int k' a) = some (.int k (k.wrap a)) := jZ _ _
theorem bB (s : Ln) : cA (.str s) = some (.int .i64 (.ofNat s.length)) := by
 simp only [cA, bE]
theorem pB {s : Ln} {i b : Nat} (h : s[i]? = some b) (k : IntKind) : gO (.str s) (.int k (.ofNat i)) = some (.int .u8 (.ofNat b)) := by
 have hi : i < s.length := by
   rcases Nat.lt_or_ge i s.length with h1 | h1
   · exact h1
   · rw [List.getElem?_eq_none h1] at h; cases h
 simp only [gO, rH]; rw [dR hi, h]; rfl
theorem wrap_i64 {n : Nat} (h : n < 9223372036854775808) : IntKind.i64.wrap (.ofNat n) = .ofNat n := by
 rw [uO] <;> simp only [Int.ofNat_eq_natCast] <;> omega
@[simp] theorem eI {R : Type} (op : (DV -> H -> Option R) -> Option R) (h : H) (k : DV -> H -> Option R) : bA (.bool false) false op h k = op k := id rfl
@[simp] theorem iK {R : Type} (op : (DV -> H -> Option R) -> Option R) (h : H) (k : DV -> H -> Option R) : bA (.bool true) true op h k = op k := id rfl
@[simp] theorem iL {R : Type} (op : (DV -> H -> Option R) -> Option R) (h : H) (k : DV -> H -> Option R) : bA (.bool true) false op h k = k (.tup []) h := id rfl
@[simp] theorem aBR {R : Type} (op : (DV -> H -> Option R) -> Option R) (h : H) (k : DV -> H -> Option R) : bA (.bool false) true op h k = k (.tup []) h := id rfl
@[simp] theorem cL (a b : DV) : aW (.bool true) a b = some a := id rfl
@[simp] theorem cM (a b : DV) : aW (.bool false) a b = some b := id rfl
theorem fD (b : Bool) : kE (.bool b) = some (.bool (!b)) := fK _
theorem aSA (k : IntKind) (a b : Int) : dC (.int k a) (.int k b) = some (.bool (a != b)) := by
 show (bif kEq k k then aQW k a b else none) = _; rw [jL]; show eU (!iEq a b) = _; rw [fK, rF]; rfl
theorem jS (k : IntKind) (a b : Int) : bS (.int k a) (.int k b) = some (.bool (a == b)) := by
 show (bif kEq k k then aRb k a b else none) = _; rw [jL]; show eU (iEq a b) = _; rw [fK, rF]
def eQ (b : Nat) : DV := .int .u8 (.ofNat b)
def bX (s : Ln) : List DV := s.map eQ
theorem vU : ∀ {s : Ln}, bH s = true -> nQ (bX s) = some s
 | [], _ => rfl
 | b :: s, h => by
   simp only [bH, Bool.and_eq_true, Nat.blt_eq] at h; have hb : aFi (eQ b) = some b := by
     show (bif Nat.blt b 256 then some b else none) = some b; rw [dR h.1]; rfl
   show (match aFi (eQ b), nQ (bX s) with
     | some b, some bs => some (b :: bs)
     | _, _ => none) = _
   rw [hb, vU h.2]
theorem rL (s : Ln) : (bX s).all DV.one = true := by
 rw [List.all_eq_true]; intro x hx; obtain ⟨b, _, rfl⟩ := List.mem_map.1 hx
 rfl
theorem lP {rd : Rd} {b : Nat} : ∀ (vs : List DV) (j : Nat), (∀ i v, vs[i]? = some v -> rdCell rd b (j + i) = some v) -> rdCells rd b j vs.length = some vs
 | [], j, _ => rfl
 | v :: vs, j, h => by
   simp only [List.length_cons, rdCells]; have h0 := h 0 v rfl; rw [Nat.add_zero] at h0; rw [h0, lP vs (j + 1) (λ i u hi => by rw [show j + 1 + i = j + (i + 1) from by omega]; exact h (i + 1) u hi)]
theorem qX {h : H} {b o : Nat} {B : Blk} {vs : List DV} (hg : h.get b = some (.blk B)) (hr : B.ro = false) (hl : o + vs.length <= B.n) (h1 : vs.all DV.one = true) :
   ∃ h' t', gY vs h b o = some h' /\ h'.size = h.size /\ (∀ c, c ≠ b -> h'.get c = h.get c) /\ h'.get b = some (.blk { B with t := t' }) /\ ∀ j, t'.at_ j = if o <= j /\ j < o + vs.length then vs[j - o]? else B.t.at_ j := by
 cases vs with
 | nil => exact ⟨h, B.t, rfl, rfl, λ _ _ => rfl, hg, λ j => by rw [if_neg (by simp only [List.length_nil]; omega)]⟩
 | cons v vs =>
   refine ⟨_, aLm (v :: vs) o B.t, by rw [aBV (v :: vs) h b o B hg (by simp), if_pos ⟨by simp [hr], hl, h1⟩], by simp, λ c hc => by rw [H.get_put, if_neg hc], by rw [H.get_put, if_pos rfl], λ j => ?_⟩
   rw [aBC, Tr.at_ofF]
theorem kJ {rd : Rd} {b j : Nat} {B : Blk} (h : rd b = some (.blk B)) (hj : j < B.n) : rdCell rd b j = B.t.at_ j := by
 unfold rdCell; rw [h]; simp only []; rw [if_pos hj]
theorem lY {rd rd' : Rd} {b j : Nat} (h : rd' b = rd b) : rdCell rd' b j = rdCell rd b j := by unfold rdCell; rw [h]
theorem gD.or {P : Program} {f : FuncId} {F G : cD} (hF : gD P f F) (hG : gD P f G) : gD P f λ args h => Option.rec (motive := λ _ => Option (DV × H)) (G args h) some (F args h) := by
 intro N0 w0 m h w args args' v h' hr ht hw; cases hf : F args h with
 | some r =>
   have hr' : some r = some (v, h') := by rw [<- hr]; show _ = Option.rec (motive := λ _ => Option (DV × H)) (G args h) some (F args h); rw [hf]
   cases hr'; exact hF N0 w0 m h w args args' v h' hf ht hw
 | none =>
   have hr' : G args h = some (v, h') := by rw [<- hr]; show _ = Option.rec (motive := λ _ => Option (DV × H)) (G args h) some (F args h); rw [hf]
   exact hG N0 w0 m h w args args' v h' hr' ht hw
def aBJ (s : Ln) : Bool := List.rec (motive := λ _ => Bool) true (λ b _ ih => bif Nat.blt b 256 then ih else false) s
theorem wV : ∀ s, aBJ s = bH s
 | [] => rfl
 | b :: s => by
   show (bif Nat.blt b 256 then aBJ s else false) = (Nat.blt b 256 && bH s); rw [wV s]; cases Nat.blt b 256 <;> rfl
end Go.DI
namespace Go.DI
open Go.RowKit
section
variable {P : Program} {N0 : Nat} {w0 : World} {E : bN}
end
end Go.DI
namespace Go.DI
open Go.RowKit
section
variable {P : Program} {N0 : Nat} {w0 : World} {E : bN}
section
variable {n : Nat} {ds : List Deferred} {ops : Array Oper} {m0 : Mp} {h0 : H} {σ pfx rest0 : List DR} {x : DR} {res : Tr DV × H} {Q : Exit -> Act -> World -> Prop}
end
end
end Go.DI
namespace Go.DI
open Go.RowKit
section
variable {P : Program} {N0 : Nat} {w0 : World} {E : bN}
end
section
variable {P : Program} {N0 : Nat} {w0 : World} {E : bN}
end
end Go.DI
namespace Go.DI
open Go.RowKit
theorem aCT (n : Nat) : bH (List.replicate n 0) = true := by
 rw [gM]; intro b hb; have := List.eq_of_mem_replicate hb; omega
structure But (b : Nat) (h h' : H) : Prop where
 size : h'.size = h.size
 get : ∀ c, c ≠ b -> h'.get c = h.get c
theorem But.trans {b : Nat} {x y z : H} (h : But b x y) (k : But b y z) : But b x z := ⟨k.size.trans h.size, λ c hc => (k.get c hc).trans (h.get c hc)⟩
theorem But.grown {h0 h h' : H} (g : aJ h0 h) {b : Nat} (hb : h0.size <= b) (k : But b h h') : aJ h0 h' :=
 ⟨by rw [k.size]; exact g.size, λ i hi => (k.get i (by omega)).trans (g.get i hi)⟩
theorem aEK {R : Type} {h : H} {n : Nat} (hn : n < 140737488355328) (k : DV -> H -> Option R) : uF 1 1 (.int .u8 (.ofNat 0)) (.int .i64 (.ofNat n)) (.int .i64 (.ofNat n)) h k = k (.slc h.size 0 n n false) (h.push (.blk ⟨n, 1, false, true, Tr.full (.int .u8 (.ofNat 0)) 48⟩)) := by
 simp only [uF]; rw [Nat.ble_eq_true_of_le (Nat.le_refl _), dR (show 1 * n < 140737488355328 by omega), dR hn]
 simp only [Bool.and_self, cond_true, H.pushK_eq]
theorem wrap_u8 {n : Nat} (h : n < 256) : IntKind.u8.wrap (.ofNat n) = .ofNat n := by
 rw [IntKind.wrap_u8]; simp only [Int.ofNat_eq_natCast]; omega
theorem aEa (k k' : IntKind) (a b : Nat) : aBq (.int k (.ofNat a)) (.int k' (.ofNat b)) = some (.int k (.ofNat (max a b))) := by
 simp only [aBq, nD]
 congr 2
 by_cases h : a < b
 · rw [show decide (Int.ofNat a < Int.ofNat b) = true from by simp only [Int.ofNat_eq_natCast, decide_eq_true_iff]; omega]
   show Int.ofNat b = _; congr 1; omega
 · rw [show decide (Int.ofNat a < Int.ofNat b) = false from by simp only [Int.ofNat_eq_natCast, decide_eq_false_iff_not]; omega]
   show Int.ofNat a = _; congr 1; omega
theorem aBu {b n c j : Nat} {op : Bool} (hj : j < n) (k : IntKind) : bZ 1 (.slc b 0 n c op) (.int k (.ofNat j)) = some (.ptr b j) := by
 simp only [bZ, rH, bE]; rw [dR hj]; simp
theorem aVh (a b : Nat) : decide (Int.ofNat a < Int.ofNat b) = decide (a < b) := by
 rw [decide_eq_decide]; simp only [Int.ofNat_eq_natCast]; omega
theorem fH {i : Nat} (h : i + 1 < 9223372036854775808) : bL (.int .i64 (.ofNat i)) (.int .i64 (.ofNat 1)) = some (.int .i64 (.ofNat (i + 1))) := by
 rw [aBw, show Int.ofNat i + Int.ofNat 1 = Int.ofNat (i + 1) from rfl, wrap_i64 h]
theorem aAn {s : Ln} {j : Nat} (h : j <= s.length) (k : IntKind) : gV (.str s) none (some (.int k (.ofNat j))) = some (.str (s.take j)) := by
 simp only [gV, dH, dHi, dLo]; rw [Nat.ble_eq_true_of_le h, cond_true, Nat.ble_eq_true_of_le (Nat.zero_le _), cond_true, iF]; rfl
theorem yL {s : Ln} {j : Nat} (h : j <= s.length) (k : IntKind) : gV (.str s) (some (.int k (.ofNat j))) none = some (.str (s.drop j)) := by
 simp only [gV, dH, dHi, dLo]; rw [Nat.ble_eq_true_of_le (Nat.le_refl _), cond_true, Nat.ble_eq_true_of_le h, cond_true, iF, List.take_length]
theorem fM (s t : Ln) : bS (.str s) (.str t) = some (.bool (s == t)) := by
 show eU (sEq s t) = _; rw [fK, tD]
theorem cC (k : IntKind) (a b : Nat) : bS (.int k (.ofNat a)) (.int k (.ofNat b)) = some (.bool (decide (a = b))) := by
 rw [jS]; congr 2; rw [Bool.eq_iff_iff, beq_iff_eq, decide_eq_true_iff]; simp only [Int.ofNat_eq_natCast]; omega
end Go.DI
namespace Go.DI
open Go.RowKit
theorem aBK {a b : Nat} (h : a ≠ b) : Nat.beq a b = false := by
 cases hb : Nat.beq a b
 · rfl
 · exact absurd (Nat.eq_of_beq_eq_true hb) h
theorem jD {a b : Nat} (h : ¬ a <= b) : Nat.ble a b = false := by
 cases hb : Nat.ble a b
 · rfl
 · exact absurd (Nat.le_of_ble_eq_true hb) h
def cV (h : H) (b : Nat) (L : List DV) : Prop := b < h.size /\ ∃ pl t, h.get b = some (.blk ⟨L.length, 1, false, pl, t⟩) /\ ∀ j x, L[j]? = some x -> t.at_ j = some x
section
variable {h h' : H} {b : Nat} {L : List DV}
theorem cV.rd (hb : cV h b L) {j : Nat} {x : DV} (hj : L[j]? = some x) : rdCell h.get b j = some x := by
 obtain ⟨hlt, pl, t, h1, h2⟩ := hb; have hjl : j < L.length := by
   rcases Nat.lt_or_ge j L.length with h3 | h3
   · exact h3
   · rw [List.getElem?_eq_none h3] at hj; cases hj
 rw [kJ h1 hjl]; exact h2 j x hj
theorem cV.cells (hb : cV h b L) {o k : Nat} (hk : o + k <= L.length) : rdCells h.get b o k = some ((L.drop o).take k) := by
 have hl : ((L.drop o).take k).length = k := by simp; omega
 have := lP (rd := h.get) (b := b) ((L.drop o).take k) o λ i v hi => hb.rd (by
   rw [List.getElem?_take] at hi; split at hi
   · rw [List.getElem?_drop] at hi; exact hi
   · cases hi)
 rw [hl] at this; exact this
theorem cV.cells_all (hb : cV h b L) : rdCells h.get b 0 L.length = some L := by
 have := hb.cells (o := 0) (k := L.length) (by omega)
 simpa using this
theorem cV.but (hb : cV h b L) {c : Nat} (hc : b ≠ c) (k : But c h h') : cV h' b L := by
 obtain ⟨hlt, pl, t, h1, h2⟩ := hb; exact ⟨by rw [k.size]; exact hlt, pl, t, by rw [k.get b hc]; exact h1, h2⟩
theorem cV.store (hb : cV h b L) {vs : List DV} {o : Nat} (hv : vs.all DV.one = true) (ho : o + vs.length <= L.length) :
   ∃ h', gY vs h b o = some h' /\ cV h' b (L.take o ++ vs ++ L.drop (o + vs.length)) /\ But b h h' := by
 obtain ⟨hlt, pl, t, h1, h2⟩ := hb; obtain ⟨h', t', f1, f2, f3, f4, f5⟩ := qX (h := h) (b := b) (o := o) (vs := vs) h1 rfl ho hv; have hlen : (L.take o ++ vs ++ L.drop (o + vs.length)).length = L.length := by simp; omega
 refine ⟨h', f1, ⟨by rw [f2]; exact hlt, pl, t', by rw [f4, hlen], λ j x hj => ?_⟩, ⟨f2, f3⟩⟩
 rw [f5]; have ht : (L.take o).length = o := by simp; omega
 by_cases hjo : o <= j /\ j < o + vs.length
 · rw [if_pos hjo]; rw [List.append_assoc, List.getElem?_append_right (by omega), ht, List.getElem?_append_left (by omega)] at hj
   exact hj
 · rw [if_neg hjo]; apply h2; rcases Nat.lt_or_ge j o with hlt | hge
   · rw [List.append_assoc, List.getElem?_append_left (by omega), List.getElem?_take, if_pos hlt] at hj
     exact hj
   · have hge2 : o + vs.length <= j := by
       rcases Nat.lt_or_ge j (o + vs.length) with h3 | h3
       · exact absurd ⟨hge, h3⟩ hjo
       · exact h3
     rw [List.getElem?_append_right (by simp only [List.length_append, ht]; omega), List.length_append, ht, List.getElem?_drop] at hj
     rw [show j = o + vs.length + (j - (o + vs.length)) from by omega]; exact hj
theorem cV.set (hb : cV h b L) {j : Nat} {v : DV} (hv : v.one = true) (hj : j < L.length) :
   ∃ h', bR 1 (.ptr b j) v h = some (.tup [], h') /\ cV h' b (L.set j v) /\ But b h h' := by
 obtain ⟨h', f1, f2, f3⟩ := hb.store (vs := [v]) (o := j) (by simp [hv]) (by simp; omega)
 refine ⟨h', ?_, ?_, f3⟩
 · rw [aAZ]; have hc : v.cells = [v] := by cases v <;> first | rfl | cases hv
   simp only [dSt, hc, List.length_singleton, Nat.beq_refl, cond_true, f1, Option.map_some]
 · have : L.take j ++ [v] ++ L.drop (j + [v].length) = L.set j v := by
     rw [List.set_eq_take_append_cons_drop, if_pos hj]; simp
   rw [<- this]; exact f2
theorem cV.text {s : Ln} (hb : cV h b (bX s)) (hok : bH s = true) (c : Nat) (op : Bool) : mU h.get (.slc b 0 s.length c op) = some (.str s) := by
 have hr := hb.cells_all; have hlen : (bX s).length = s.length := by simp [bX]
 rw [hlen] at hr; simp only [mU, cH, hr, Option.bind_some, vU hok, iF]
theorem cV.copy_str (hb : cV h b L) {s : Ln} {o n c : Nat} {op : Bool} (hs : s.length <= n) (ho : o + s.length <= L.length) :
   ∃ h', lT 1 (.slc b o n c op) (.str s) h = some (.int .i64 (.ofNat s.length), h') /\ cV h' b (L.take o ++ bX s ++ L.drop (o + s.length)) /\ But b h h' := by
 have hbl : (bX s).length = s.length := by simp [bX]
 obtain ⟨h', f1, f2, f3⟩ := hb.store (vs := bX s) (o := o) (rL s) (by omega)
 rw [hbl] at f2; refine ⟨h', ?_, f2, f3⟩; rw [aBW]; simp only [aFc, srcLen, bE, Option.bind_some]; rw [Nat.ble_eq_true_of_le hs]; simp only [cond_true, qL, Nat.beq_refl, List.take_length, Option.bind_some]; have : (s.map λ b => DV.int .u8 (.ofNat b)) = bX s := rfl
 rw [this, f1]; rfl
end
theorem cV.pushed {h : H} {L : List DV} {pl : Bool} : cV (h.push (.blk ⟨L.length, 1, false, pl, Tr.ofL L⟩)) h.size L :=
 ⟨by rw [H.size_push]; omega, pl, _, by rw [H.get_push, if_pos rfl], λ j x hj => by rw [Tr.at_ofL]; exact hj⟩
theorem cV.push {h : H} {b : Nat} {L : List DV} (hb : cV h b L) (o : iY) : cV (h.push o) b L := by
 obtain ⟨hlt, pl, t, h1, h2⟩ := hb; exact ⟨by rw [H.size_push]; omega, pl, t, by rw [H.get_push, if_neg (by omega)]; exact h1, h2⟩
theorem cV.made {h : H} {z : DV} {n : Nat} (hn : n < 140737488355328) : cV (h.push (.blk ⟨n, 1, false, true, Tr.full z 48⟩)) h.size (List.replicate n z) := by
 refine ⟨by rw [H.size_push]; omega, true, _, by rw [H.get_push, if_pos rfl, List.length_replicate], λ j x hj => ?_⟩
 have hlt : j < n := by
   rcases Nat.lt_or_ge j n with h3 | h3
   · exact h3
   · rw [List.getElem?_eq_none (by simpa using h3)] at hj; cases hj
 have hx : x = z := by
   rw [List.getElem?_replicate, if_pos hlt] at hj; exact (Option.some.inj hj).symm
 subst hx; exact Tr.at_full _ (by omega)
structure cF (n0 : Nat) (h h' : H) : Prop where
 size : h.size <= h'.size
 get : ∀ c, c < n0 -> h'.get c = h.get c
theorem cF.refl (n0 : Nat) (h : H) : cF n0 h h := ⟨Nat.le_refl _, λ _ _ => rfl⟩
theorem cF.trans {n0 : Nat} {x y z : H} (a : cF n0 x y) (c : cF n0 y z) : cF n0 x z := ⟨Nat.le_trans a.size c.size, λ i hi => (c.get i hi).trans (a.get i hi)⟩
theorem cF.grown {h h' : H} (a : cF h.size h h') : aJ h h' := ⟨a.size, a.get⟩
theorem But.keeps {n0 b : Nat} {h h' : H} (k : But b h h') (hb : n0 <= b) : cF n0 h h' := ⟨by rw [k.size]; exact Nat.le_refl _, λ c hc => k.get c (by omega)⟩
theorem cF.push {n0 : Nat} {h : H} (hn : n0 <= h.size) (o : iY) : cF n0 h (h.push o) := ⟨by rw [H.size_push]; omega, λ c hc => by rw [H.get_push, if_neg (by omega)]⟩
def cJ (n0 : Nat) (h : H) (v : DV) (L : List DV) : Prop := (v = .nils /\ L = []) \/ ∃ b, n0 <= b /\ v = .slc b 0 L.length L.length true /\ cV h b L
theorem cJ.nil (n0 : Nat) (h : H) : cJ n0 h .nils [] := .inl ⟨rfl, rfl⟩
theorem cJ.len {n0 : Nat} {h : H} {v : DV} {L : List DV} (o : cJ n0 h v L) : cB v = some (.int .i64 (.ofNat L.length)) := by
 rcases o with ⟨rfl, rfl⟩ | ⟨b, _, rfl, _⟩ <;> rfl
theorem cJ.append {n0 : Nat} {h : H} {v x : DV} {L new : List DV} {bytes : Nat} (o : cJ n0 h v L) (hn0 : n0 <= h.size) (hl : srcLen x = some new.length) (hc : dP 1 h.get x = some new) (h1 : new.all DV.one = true) (hne : new ≠ [])
   (hs : (L.length + new.length) * bytes < aR) (hs2 : L.length + new.length < aR) : ∃ v' h', cE 1 bytes v x h = some (v', h') /\ cJ n0 h' v' (L ++ new) /\ cF n0 h h' := by
 have hpos : 0 < new.length := List.length_pos_iff.2 hne; rcases o with ⟨rfl, rfl⟩ | ⟨b, hb0, rfl, hb⟩
 · refine ⟨.slc h.size 0 new.length new.length true, h.push (.blk ⟨new.length, 1, false, true, Tr.ofL new⟩), ?_, .inr ⟨h.size, hn0, ?_, ?_⟩, cF.push hn0 _⟩
   · rw [eV]; simp only [fP, hl, hc, Option.bind_some]; simp only [List.length_nil, Nat.zero_add] at hs hs2; rw [aBK (show new.length ≠ 0 by omega), dR hs, dR hs2]
     simp only [cond_false, Bool.and_self, cond_true, H.pushK_eq, Nat.mul_one]
   · simp
   · simpa using cV.pushed
 · obtain ⟨hlt, pl, t, g1, g2⟩ := hb; refine ⟨.slc h.size 0 (L.length + new.length) (L.length + new.length) true, (h.push (.blk ⟨(L.length + new.length) * 1, 1, false, false, Tr.ofF new (L.length * 1) t⟩)).put b .dead, ?_, .inr ⟨h.size, hn0, ?_, ?_⟩, ?_⟩
   · rw [eV]; simp only [fP, hl, hc, Option.bind_some, bE]; rw [jD (show ¬ L.length + new.length <= L.length by omega), dR hs, dR hs2]
     simp only [cond_false, Bool.and_self, cond_true, g1, h1, Nat.zero_add, Nat.mul_one, Nat.beq_refl, Bool.not_false, Nat.ble_eq_true_of_le (Nat.le_refl _), aDf, Option.bind_some, H.pushK_eq, H.putK_eq]
   · simp
   · refine ⟨by rw [H.size_put, H.size_push]; omega, false, Tr.ofF new (L.length * 1) t, ?_, λ j x hj => ?_⟩
     · rw [H.get_put, if_neg (by omega), H.get_push, if_pos rfl, List.length_append, Nat.mul_one]
     · rw [Tr.at_ofF, Nat.mul_one]; rcases Nat.lt_or_ge j L.length with hj1 | hj1
       · rw [if_neg (by omega)]
         rw [List.getElem?_append_left hj1] at hj; exact g2 j x hj
       · rw [List.getElem?_append_right hj1] at hj; have : j - L.length < new.length := by
           rcases Nat.lt_or_ge (j - L.length) new.length with h3 | h3
           · exact h3
           · rw [List.getElem?_eq_none h3] at hj; cases hj
         rw [if_pos ⟨hj1, by omega⟩]; exact hj
   · refine ⟨by rw [H.size_put, H.size_push]; omega, λ c hc' => ?_⟩
     rw [H.get_put, if_neg (by omega), H.get_push, if_neg (by omega)]
theorem cJ.push1 {n0 : Nat} {h : H} {v x z : DV} {L : List DV} {bytes : Nat} (o : cJ n0 h v L) (hn0 : n0 <= h.size) (h1 : x.one = true)
   (hs : (L.length + 1) * bytes < aR) (hs2 : L.length + 1 < aR) : ∃ v' h', (∀ (R : Type) (k : DV -> H -> Option R), (gI 1 1 [z] [(0, 1, x)] h λ y h' => wK (cE 1 bytes v y h') k) = k v' h') /\ cJ n0 h' v' (L ++ [x]) /\ cF n0 h h' := by
 let h1' := h.push (.blk ⟨1 * 1, 1, false, true, Tr.ofL [x]⟩)
 have hp : cV h1' h.size [x] := cV.pushed (h := h) (L := [x]) (pl := true); have o' : cJ n0 h1' v L := by
   rcases o with ⟨rfl, rfl⟩ | ⟨b, hb0, rfl, hb⟩
   · exact .inl ⟨rfl, rfl⟩
   · exact .inr ⟨b, hb0, rfl, hb.push _⟩
 obtain ⟨v', h', f1, f2, f3⟩ := o'.append (x := .slc h.size 0 1 1 false) (new := [x]) (bytes := bytes) (by show n0 <= (h.push _).size; rw [H.size_push]; omega) rfl
   (by simpa [dP] using hp.cells_all) (by simp [h1]) (by simp) hs hs2
 refine ⟨v', h', λ R k => ?_, f2, (cF.push hn0 _).trans f3⟩
 have hf : iG (gP [z] 1) [(0, 1, x)] = some [x] := by
   have hc : x.cells = [x] := by cases x <;> first | rfl | cases h1
   simp [iG, gP, hc, uV]; rfl
 simp only [gI, hf, Option.bind_some, H.pushK_eq]; show wK (cE 1 bytes v (.slc h.size 0 1 1 false) h1') k = _; rw [f1]; rfl
theorem cJ.lt {n0 : Nat} {h : H} {v : DV} {L : List DV} (o : cJ n0 h v L) (hL : L ≠ []) : ∃ b, n0 <= b /\ v = .slc b 0 L.length L.length true /\ cV h b L := by
 rcases o with ⟨rfl, rfl⟩ | o
 · exact absurd rfl hL
 · exact o
theorem cJ.store1 {n0 : Nat} {h : H} {v x : DV} {L : List DV} {j : Nat} (o : cJ n0 h v L) (hj : j < L.length) (hx : x.one = true) (k : IntKind) :
   ∃ b h', bZ 1 v (.int k (.ofNat j)) = some (.ptr b j) /\ bR 1 (.ptr b j) x h = some (.tup [], h') /\ cJ n0 h' v (L.set j x) /\ cF n0 h h' := by
 obtain ⟨b, hb0, rfl, hb⟩ := o.lt (by intro e; subst e; simp at hj)
 obtain ⟨h', f1, f2, f3⟩ := hb.set hx hj; exact ⟨b, h', aBu hj k, f1, .inr ⟨b, hb0, by simp, f2⟩, f3.keeps hb0⟩
theorem cJ.text {n0 : Nat} {h : H} {v : DV} {s : Ln} (o : cJ n0 h v (bX s)) (hok : bH s = true) : mU h.get v = some (.str s) := by
 have hl : (bX s).length = s.length := by simp [bX]
 rcases o with ⟨rfl, e⟩ | ⟨b, _, rfl, hb⟩
 · have : s = [] := by
     cases s with
     | nil => rfl
     | cons _ _ => cases e
   subst this; rfl
 · rw [hl]; exact hb.text hok _ _
theorem cJ.s2b {n0 : Nat} {h : H} (hn0 : n0 <= h.size) (s : Ln) : ∃ v' h', (∀ (R : Type) (k : DV -> H -> Option R), aHj (.str s) h k = k v' h') /\ cJ n0 h' v' (bX s) /\ cF n0 h h' /\ v' ≠ .nils := by
 have hl : (bX s).length = s.length := by simp [bX]
 refine ⟨.slc h.size 0 s.length s.length true, h.push (.blk ⟨s.length, 1, false, false, Tr.ofL (bX s)⟩), λ R k => ?_, .inr ⟨h.size, hn0, by rw [hl], ?_⟩, cF.push hn0 _, by simp⟩
 · simp only [aHj, bE, H.pushK_eq]; rfl
 · have := cV.pushed (h := h) (L := bX s) (pl := false); rw [hl] at this; exact this
def fZ (s : Ln) (n : Nat) : Ln := s ++ List.replicate (n - s.length) 0
def xV (s : Ln) (at_ : Nat) (t : Ln) : Ln := (fZ s (max s.length (at_ + t.length))).take at_ ++ t ++ (fZ s (max s.length (at_ + t.length))).drop (at_ + t.length)
theorem kW {s : Ln} {n : Nat} (h : s.length <= n) : (fZ s n).length = n := by unfold fZ; simp; omega
theorem qQ (s t : Ln) (at_ : Nat) : (xV s at_ t).length = max s.length (at_ + t.length) := by
 have := kW (s := s) (n := max s.length (at_ + t.length)) (by omega)
 unfold xV; simp only [List.length_append, List.length_take, List.length_drop, this]; omega
theorem vD {s : Ln} (h : bH s = true) (n : Nat) : bH (fZ s n) = true := cX h (aCT _)
theorem yW {s : Ln} (h : bH s = true) (n : Nat) : bH (s.take n) = true := by
 rw [gM] at h ⊢; intro b hb; exact h b (List.mem_of_mem_take hb)
theorem yX {s : Ln} (h : bH s = true) (n : Nat) : bH (s.drop n) = true := by
 rw [gM] at h ⊢; intro b hb; exact h b (List.mem_of_mem_drop hb)
theorem aEC {s t : Ln} (hs : bH s = true) (ht : bH t = true) (a : Nat) : bH (xV s a t) = true :=
 cX (cX (yW (vD hs _) _) ht) (yX (vD hs _) _)
theorem eE (s t : Ln) : bX (s ++ t) = bX s ++ bX t := by simp [bX]
theorem aMC (s : Ln) (n : Nat) : bX (s.take n) = (bX s).take n := by simp [bX, List.map_take]
theorem aMD (s : Ln) (n : Nat) : bX (s.drop n) = (bX s).drop n := by simp [bX, List.map_drop]
theorem bU (s : Ln) : (bX s).length = s.length := by simp [bX]
theorem aBc (n : Nat) : bX (List.replicate n 0) = List.replicate n (eQ 0) := by simp [bX]
theorem aPa (s : Ln) (j x : Nat) : bX (s.set j x) = (bX s).set j (eQ x) := by simp [bX, List.map_set]
theorem dK (k : IntKind) (a b : Nat) : eJ (.int k (.ofNat a)) (.int k (.ofNat b)) = some (.bool (decide (b < a))) := by rw [aBv, aVh]
theorem aO (k : IntKind) (a b : Nat) : cR (.int k (.ofNat a)) (.int k (.ofNat b)) = some (.bool (decide (a < b))) := by rw [eZ, aVh]
theorem fL {a b : Nat} (h : b <= a) (ha : a < 9223372036854775808) : fB (.int .i64 (.ofNat a)) (.int .i64 (.ofNat b)) = some (.int .i64 (.ofNat (a - b))) := by
 rw [aBp, show Int.ofNat a - Int.ofNat b = Int.ofNat (a - b) from by simp only [Int.ofNat_eq_natCast]; omega, wrap_i64 (by omega)]
theorem bV {a b : Nat} (h : a + b < 9223372036854775808) : bL (.int .i64 (.ofNat a)) (.int .i64 (.ofNat b)) = some (.int .i64 (.ofNat (a + b))) := by
 rw [aBw, show Int.ofNat a + Int.ofNat b = Int.ofNat (a + b) from rfl, wrap_i64 h]
theorem aBs (k : IntKind) {a : Int} (h : a < 0) : cR (.int k a) (.int k (.ofNat 0)) = some (.bool true) := by
 rw [eZ]; simp [h]
theorem aNv {b o n : Nat} {op : Bool} {j : Nat} (h : j <= n) (k : IntKind) : dM 1 (.slc b o n n op) (some (.int k (.ofNat j))) none = some (if j < n then .slc b (o + j) (n - j) (n - j) op else if op then .slE b o (o + j) else .slc b o 0 0 false) := by
 simp only [dM, dH, dHi, dLo]; rw [Nat.ble_eq_true_of_le (Nat.le_refl n), cond_true, Nat.ble_eq_true_of_le h, cond_true]; simp only [bE, Nat.mul_one]; by_cases hj : j < n
 · rw [dR hj, if_pos hj]; rfl
 · rw [if_neg hj, show Nat.blt j n = false from jD (by omega)]
   cases op <;> rfl
def aFG : cD := λ args h => match args with
 | [] => some (.bool true, h)
 | _ => none
theorem aNC {P : Program} {B : bN} {T : Tr (bN -> cD)} {f : FuncId} {s : bN -> cD} (hB : lD P B) (hT : aHJ P T) (hf : T.at_ f = some s) {n : Nat} (hrun : (s (SE B T n) [] H0).map (·.1) = some (.bool true)) : gD P f aFG := by
 refine aLk λ args hh v h' hr => ?_
 unfold aFG at hr; split at hr
 · cases hr; refine ⟨rfl, λ m args' w ht => ?_⟩
   simp only [trs, Option.some.injEq] at ht; subst ht; exact ⟨.bool true, rfl, (aMA hB hT hf (args := []) (args' := []) rfl hrun w)⟩
 · cases hr
def cU (l : List (Ln)) : List DV := l.map DV.str
theorem strsV_append (a b : List (Ln)) : cU (a ++ b) = cU a ++ cU b := by simp [cU]
theorem bG (l : List (Ln)) : (cU l).length = l.length := by simp [cU]
theorem jT {l : List (Ln)} {j : Nat} {s : Ln} (h : l[j]? = some s) : (cU l)[j]? = some (.str s) := by simp [cU, h]
theorem cJ.keep {n0 n1 : Nat} {h h' : H} {v : DV} {L : List DV} (o : cJ n0 h v L) (k : cF n1 h h') (hn : h.size <= n1) : cJ n0 h' v L := by
 rcases o with o | ⟨b, hb, e, hlt, pl, t, g1, g2⟩
 · exact .inl o
 · exact .inr ⟨b, hb, e, Nat.lt_of_lt_of_le hlt k.size, pl, t, by rw [k.get b (by omega)]; exact g1, g2⟩
theorem cJ.mono {n0 n1 : Nat} {h : H} {v : DV} {L : List DV} (o : cJ n0 h v L) (hn : n1 <= n0) : cJ n1 h v L := by
 rcases o with o | ⟨b, hb, e⟩
 · exact .inl o
 · exact .inr ⟨b, by omega, e⟩
theorem gJ {s t : Ln} (h : s.length + t.length < gS) : bL (.str s) (.str t) = some (.str (s ++ t)) := by
 show (bif Nat.blt (s.length + t.length) gS then xZ (s ++ t) else none) = _; rw [dR h, iF]; rfl
theorem aOl (n : Nat) : gP [0] n = List.replicate n 0 := by
 induction n with
 | zero => rfl
 | succ n ih => rw [List.replicate_succ, <- ih]; rfl
theorem aKB (n : Nat) (hn : n <= 140737488355328) (h : H) : sP [.str [0], .int .i64 (.ofNat n)] h = some (.str (List.replicate n 0), h) := by
 show (bif Nat.ble n 9223372036854775807 && Nat.ble (([0] : Ln).length * n) 140737488355328 then (xZ (gP [0] n)).map λ v => (v, h) else none) = _
 rw [Nat.ble_eq_true_of_le (by omega), Nat.ble_eq_true_of_le (by simp; omega), iF, aOl]; rfl
end Go.DI
namespace Go.DI
open Go.RowKit
theorem lZ {α : Type} {l : List α} {j : Nat} {x : α} (h : l[j]? = some x) : j < l.length := by
 rcases Nat.lt_or_ge j l.length with h1 | h1
 · exact h1
 · rw [List.getElem?_eq_none h1] at h; cases h
def dJ (h : H) (v : DV) (L : List DV) : Prop :=
 (L = [] /\ (v = .nils \/ ∃ b o o2, v = .slE b o o2)) \/ ∃ b o c op, v = .slc b o L.length c op /\ L.length <= c /\ b < h.size /\ ∀ j x, L[j]? = some x -> rdCell h.get b (o + j) = some x
section
variable {h h' : H} {v : DV} {L : List DV}
theorem dJ.nil (h : H) : dJ h .nils [] := .inl ⟨rfl, .inl rfl⟩
theorem dJ.len (r : dJ h v L) : cB v = some (.int .i64 (.ofNat L.length)) := by
 rcases r with ⟨rfl, rfl | ⟨b, o, o2, rfl⟩⟩ | ⟨b, o, c, op, rfl, _⟩ <;> rfl
theorem dJ.grown (r : dJ h v L) (g : aJ h h') : dJ h' v L := by
 rcases r with r | ⟨b, o, c, op, e, hc, hb, hx⟩
 · exact .inl r
 · exact .inr ⟨b, o, c, op, e, hc, Nat.lt_of_lt_of_le hb g.size, λ j x hj => by rw [lY (g.get b hb)]; exact hx j x hj⟩
theorem aUi {b o n c j : Nat} {op : Bool} (hj : j < n) (k : IntKind) : bZ 1 (.slc b o n c op) (.int k (.ofNat j)) = some (.ptr b (o + j)) := by
 simp only [bZ, rH, bE]; rw [dR hj]; simp
theorem dJ.at (r : dJ h v L) {j : Nat} {x : DV} (hj : L[j]? = some x) (k : IntKind) : ∃ b o, bZ 1 v (.int k (.ofNat j)) = some (.ptr b o) /\ aG h.get (.ptr b o) = some x := by
 rcases r with ⟨rfl, _⟩ | ⟨b, o, c, op, rfl, _, _, hx⟩
 · cases hj
 · exact ⟨b, o + j, aUi (lZ hj) k, by simp only [aG, cI]; exact hx j x hj⟩
theorem dJ.srcLen (r : dJ h v L) : srcLen v = some L.length := by
 rcases r with ⟨rfl, rfl | ⟨b, o, o2, rfl⟩⟩ | ⟨b, o, c, op, rfl, _⟩ <;> rfl
theorem dJ.src (r : dJ h v L) : dP 1 h.get v = some L := by
 rcases r with ⟨rfl, rfl | ⟨b, o, o2, rfl⟩⟩ | ⟨b, o, c, op, rfl, _, _, hx⟩
 · rfl
 · rfl
 · simp only [dP, Nat.mul_one]; exact lP L o hx
theorem dJ.cut (r : dJ h v L) {l m : Nat} (hlm : l <= m) (hm : m <= L.length) (k k' : IntKind) :
   ∃ v', dM 1 v (some (.int k (.ofNat l))) (some (.int k' (.ofNat m))) = some v' /\ dJ h v' ((L.take m).drop l) := by
 rcases r with ⟨rfl, hv⟩ | ⟨b, o, c, op, rfl, hc, hb, hx⟩
 · have h0 : m = 0 := by simpa using hm
   subst h0; have h1 : l = 0 := by omega
   subst h1; rcases hv with rfl | ⟨b, o, o2, rfl⟩
   · exact ⟨.nils, rfl, by simpa using dJ.nil h⟩
   · exact ⟨.slE b o o2, rfl, .inl ⟨by simp, .inr ⟨b, o, o2, rfl⟩⟩⟩
 · simp only [dM, dH, dHi, dLo]; rw [Nat.ble_eq_true_of_le (show m <= c by omega), cond_true, Nat.ble_eq_true_of_le hlm, cond_true]
   simp only [bE, Nat.mul_one]; have hlen : ((L.take m).drop l).length = m - l := by simp; omega
   by_cases hl : l < c
   · rw [dR hl, cond_true]; refine ⟨_, rfl, .inr ⟨b, o + l, c - l, op, by rw [hlen], by rw [hlen]; omega, hb, λ j x hj => ?_⟩⟩
     rw [List.getElem?_drop, List.getElem?_take] at hj; split at hj
     · rw [Nat.add_assoc]; exact hx _ _ hj
     · cases hj
   · have hl2 : l = m := by omega
     have he : (L.take m).drop l = [] := List.eq_nil_of_length_eq_zero (by omega)
     rw [show Nat.blt l c = false from jD (by omega), cond_false, he]
     cases op
     · exact ⟨_, rfl, .inr ⟨b, o, 0, false, rfl, Nat.le_refl _, hb, λ j x hj => by cases hj⟩⟩
     · exact ⟨_, rfl, .inl ⟨rfl, .inr ⟨b, o, _, rfl⟩⟩⟩
theorem dJ.cutTo (r : dJ h v L) {m : Nat} (hm : m <= L.length) (k : IntKind) : ∃ v', dM 1 v none (some (.int k (.ofNat m))) = some v' /\ dJ h v' (L.take m) := by
 obtain ⟨v', e, r'⟩ := r.cut (l := 0) (Nat.zero_le m) hm .i64 k; exact ⟨v', by rw [<- e]; cases v <;> rfl, by simpa using r'⟩
end
theorem cV.row {h : H} {b : Nat} {L : List DV} (hb : cV h b L) (op : Bool) : dJ h (.slc b 0 L.length L.length op) L :=
 .inr ⟨b, 0, _, op, rfl, Nat.le_refl _, hb.1, λ j x hj => by rw [Nat.zero_add]; exact hb.rd hj⟩
theorem cJ.row {n0 : Nat} {h : H} {v : DV} {L : List DV} (o : cJ n0 h v L) : dJ h v L := by
 rcases o with ⟨rfl, rfl⟩ | ⟨b, hb0, rfl, hb⟩
 · exact dJ.nil h
 · exact hb.row true
theorem calls_true3 {P : Program} {B : bN} {T : Tr (bN -> cD)} {f : FuncId} {s : bN -> cD} (hB : lD P B) (hT : aHJ P T) (hf : T.at_ f = some s) {n : Nat} {args : List DV} {args' : List Value} {m : Mp} {h : H} {w : World} (hw : cY w.heap.size w m h w) (hargs : trs m args = some args')
   (hrun : (s (SE B T n) args h).map (·.1) = some (.bool true)) :
   Calls P f args'.toArray w λ e w' => e = .returned (.bool true) /\ Below w.heap.size w w' := by
 cases hr : s (SE B T n) args h with
 | none => rw [hr] at hrun; cases hrun
 | some r =>
   obtain ⟨v, h'⟩ := r; rw [hr] at hrun; simp only [Option.map_some, Option.some.injEq] at hrun; subst hrun; refine ((hT.ok f s hf).2 _ (aRg hB hT n) w.heap.size w m h w args args' _ h' hr hargs hw).mono λ e w' hh => ?_
   obtain ⟨m', v', rfl, h2, h3, h4⟩ := hh; rw [jW h2]; exact ⟨rfl, h3.below⟩
def aYq (CL : List DV) : H := H0.push (.blk ⟨CL.length, 1, true, false, Tr.ofL CL⟩)
theorem xT (CL : List DV) : (aYq CL).size = 1 := rfl
theorem aMV (CL : List DV) : (aYq CL).get 0 = some (.blk ⟨CL.length, 1, true, false, Tr.ofL CL⟩) := by
 unfold aYq; rw [H.get_push]; rfl
theorem cY.startRow {w : World} {a : Addr} {len cap : Nat} {CL : List DV} {t : TypeId} {k : Nat} (ha : a.spot = none) (hs : w.shape? a.block = some (t, k)) (hlen : CL.length = 0 -> len = 0)
   (hc : ∀ j x, CL[j]? = some x -> ∃ v', tr (λ _ => none) x = some v' /\ w.cell? (a.add j) = some v') :
   ∃ m o, cY w.heap.size w m (aYq CL) w /\ tr m (.slc 0 o len cap false) = some (.slice (some a) len cap) /\ (CL ≠ [] -> o = 0) := by
 unfold World.shape? at hs; split at hs
 rotate_left
 · cases hs
 rename_i c el fr hh; have hlt : a.block < w.heap.size := by
   rcases Nat.lt_or_ge a.block w.heap.size with h1 | h1
   · exact h1
   · rw [Array.getElem?_eq_none (by simpa using h1)] at hh; cases hh
 obtain ⟨ab, ao, as⟩ := a; simp only [] at ha hh hlt; subst ha; have cellAt : ∀ j, w.cell? ((⟨ab, ao, none⟩ : Addr).add j) = c[ao + j]? := λ j => by
   rw [iH]; simp [World.cell?, hh]
 let i : sO := if CL = [] then ⟨ab, c.size, 0⟩ else ⟨ab, c.size - ao - CL.length, ao⟩
 let m : Mp := λ b => if b = 0 then some i else none
 have hir : i.r = ab := by by_cases h0 : CL = [] <;> simp [i, h0]
 have m_some : ∀ {b j}, m b = some j -> b = 0 /\ j = i := by
   intro b j e; simp only [m] at e; split at e
   · rename_i h0; cases e; exact ⟨h0, rfl⟩
   · cases e
 have mle : Mp.le (λ _ => none) m := λ _ _ e => by cases e
 refine ⟨m, if CL = [] then ao else 0, ?_, ?_, λ h => by rw [if_neg h]⟩
 · refine ⟨λ b j e => ?_, λ b j e => ?_, λ b b' j j' o o' e e' _ _ _ _ _ => ?_, Below.refl _ _, Nat.le_refl _, λ b hb => ?_⟩
   · obtain ⟨rfl, rfl⟩ := m_some e; exact ⟨by rw [xT]; omega, by rw [hir]; exact hlt⟩
   · obtain ⟨rfl, rfl⟩ := m_some e; refine ⟨_, aMV CL, ⟨⟨c, el, fr, by rw [hir]; exact hh, ?_, λ j hj => ?_⟩, (λ h => nomatch h), (λ h => nomatch h)⟩, (λ h => nomatch h)⟩
     · by_cases h0 : CL = []
       · simp [i, h0]
       · have hpos : 0 < CL.length := List.length_pos_iff.2 h0; obtain ⟨v', _, h2⟩ := hc (CL.length - 1) _ (List.getElem?_eq_getElem (by omega))
         rw [cellAt] at h2; have hlt2 : ao + (CL.length - 1) < c.size := by
           rcases Nat.lt_or_ge (ao + (CL.length - 1)) c.size with h3 | h3
           · exact h3
           · rw [Array.getElem?_eq_none (by simpa using h3)] at h2; cases h2
         simp only [i, h0, if_false]; omega
     · simp only [] at hj; have h0 : CL ≠ [] := by intro h0; subst h0; simp at hj
       obtain ⟨v', h1, h2⟩ := hc j _ (List.getElem?_eq_getElem hj); refine .inl ⟨_, v', by rw [Tr.at_ofL]; exact List.getElem?_eq_getElem hj, fF mle _ _ h1, ?_⟩
       rw [cellAt] at h2; simp only [i, h0, if_false]; exact h2
   · rw [(m_some e).1, (m_some e').1]
   · rw [xT] at hb; unfold aYq; rw [H.get_push, if_neg (show b ≠ H0.size from by show b ≠ 0; omega)]
     exact Tr.at_e b
 · simp only [tr, m, if_true]; by_cases h0 : CL = []
   · simp [i, h0]
   · simp [i, h0]
theorem aSy {a b : Nat} (hb : 0 < b) (ha : a < 9223372036854775808) : aPU (.int .i64 (.ofNat a)) (.int .i64 (.ofNat b)) = some (.int .i64 (.ofNat (a / b))) := by
 show (bif kEq .i64 .i64 then aQV .i64 (.ofNat a) (.ofNat b) else none) = _; rw [jL]; show (bif iEq (.ofNat b) 0 then none else jO .i64 ((Int.ofNat a).tdiv (.ofNat b))) = _; rw [rF, show ((Int.ofNat b) == 0) = false from by simp; omega, cond_false, jZ]
 rw [show (Int.ofNat a).tdiv (.ofNat b) = .ofNat (a / b) from rfl, wrap_i64 (by have := Nat.div_le_self a b; omega)]
theorem aSB (k : IntKind) (a b : Int) : nS (.int k a) (.int k b) = some (.bool (decide (b <= a))) := by
 show (bif kEq k k then aRa k a b else none) = _; rw [jL]; show eU (iLe b a) = _; rw [fK, aOC]
theorem aBt (k : IntKind) (a b : Int) : yF (.int k a) (.int k b) = some (.bool (decide (a <= b))) := by
 show (bif kEq k k then aQY k a b else none) = _; rw [jL]; show eU (iLe a b) = _; rw [fK, aOC]
theorem aIS (a b : Nat) : decide (Int.ofNat a <= Int.ofNat b) = decide (a <= b) := by
 rw [decide_eq_decide]; simp only [Int.ofNat_eq_natCast]; omega
theorem fT (k : IntKind) (a b : Nat) : nS (.int k (.ofNat a)) (.int k (.ofNat b)) = some (.bool (decide (b <= a))) := by rw [aSB, aIS]
theorem wP (k : IntKind) (a b : Nat) : yF (.int k (.ofNat a)) (.int k (.ofNat b)) = some (.bool (decide (a <= b))) := by rw [aBt, aIS]
theorem aAq (n : Int) : IntKind.u64.wrap n = n % 18446744073709551616 := by simp [IntKind.wrap, IntKind.bits, IntKind.signed]
theorem uN {n : Nat} (h : n < 18446744073709551616) : IntKind.u64.wrap (.ofNat n) = .ofNat n := by
 rw [aAq]; simp only [Int.ofNat_eq_natCast]; omega
theorem pM (l : List (Ln)) (n : Nat) : (cU l).take n = cU (l.take n) := by simp [cU, List.map_take]
theorem aSK (l : List (Ln)) : (cU l).all DV.one = true := by
 rw [List.all_eq_true]; intro x hx; obtain ⟨s, _, rfl⟩ := List.mem_map.1 hx; rfl
theorem aJ.keeps {h h' : H} (g : aJ h h') {n : Nat} (hn : n <= h.size) : cF n h h' := ⟨g.size, λ c hc => g.get c (by omega)⟩
end Go.DI
namespace Go.DI
open Go.RowKit
theorem Trod_lt {H : Type} {enc : TypeId × Value -> H} {P : Program} {W : World} {base : Nat} {sp : Nat -> Bool} {held : Bool} {t : TypeId} {v : Value} {d : DataW H} {ps : List MemPlace} (h : DataW.Trod enc P W base sp held t v d ps) : ∀ x ∈ ps, x.block < W.heap.size := λ x hx => by
 obtain ⟨n, e⟩ := h; exact DataW.trod_lt n _ _ _ e x hx
theorem tr_str_any (m : Mp) (s : ByteArray) : tr m (.str (aOv s)) = some (.string s) := by simp [tr, toBA_ofBA, okStr_ofBA]
end Go.DI
namespace Go.DI
open Go.RowKit
def fI (n0 : Nat) (h : H) (v : DV) (L : List DV) : Prop := (v = .nils /\ L = []) \/
 ∃ b c pl t, n0 <= b /\ b < h.size /\ v = .slc b 0 L.length c true /\ L.length <= c /\ 0 < c /\ h.get b = some (.blk ⟨c, 1, false, pl, t⟩) /\ ∀ j x, L[j]? = some x -> t.at_ j = some x
theorem fI.nil (n0 : Nat) (h : H) : fI n0 h .nils [] := .inl ⟨rfl, rfl⟩
section
variable {n0 : Nat} {h h' : H} {v : DV} {L : List DV}
theorem fI.row (g : fI n0 h v L) : dJ h v L := by
 rcases g with ⟨rfl, rfl⟩ | ⟨b, c, pl, t, hb0, hb, rfl, hc, hc0, hg, ht⟩
 · exact dJ.nil h
 · exact .inr ⟨b, 0, c, true, rfl, hc, hb, λ j x hj => by rw [Nat.zero_add, kJ hg (Nat.lt_of_lt_of_le (lZ hj) hc)]; exact ht j x hj⟩
theorem fI.keep {n1 : Nat} (g : fI n0 h v L) (k : cF n1 h h') (hn : h.size <= n1) : fI n0 h' v L := by
 rcases g with g | ⟨b, c, pl, t, hb0, hb, e, hc, hc0, hg, ht⟩
 · exact .inl g
 · exact .inr ⟨b, c, pl, t, hb0, Nat.lt_of_lt_of_le hb k.size, e, hc, hc0, by rw [k.get b (by omega)]; exact hg, ht⟩
theorem fI.cut (g : fI n0 h v L) {m : Nat} (hm : m <= L.length) (k : IntKind) : ∃ v', dM 1 v none (some (.int k (.ofNat m))) = some v' /\ fI n0 h v' (L.take m) := by
 rcases g with ⟨rfl, rfl⟩ | ⟨b, c, pl, t, hb0, hb, rfl, hc, hc0, hg, ht⟩
 · have : m = 0 := by simpa using hm
   subst this; exact ⟨.nils, rfl, by simpa using fI.nil n0 h⟩
 · refine ⟨.slc b 0 m c true, ?_, .inr ⟨b, c, pl, t, hb0, hb, by simp; omega, by simp; omega, hc0, hg, λ j x hj => ?_⟩⟩
   · simp only [dM, dH, dHi, dLo]; rw [Nat.ble_eq_true_of_le (show m <= c by omega), cond_true, Nat.ble_eq_true_of_le (Nat.zero_le _), cond_true, dR hc0, cond_true]
     simp [bE]
   · rw [List.getElem?_take] at hj; split at hj
     · exact ht j x hj
     · cases hj
theorem fI.appendRow {x : DV} {new : List DV} {bytes : Nat} (g : fI n0 h v L) (hn0 : n0 <= h.size) (r : dJ h x new) (h1 : new.all DV.one = true)
   (hs : (L.length + new.length) * bytes < aR) (hs2 : L.length + new.length < aR) : ∃ v' h', cE 1 bytes v x h = some (v', h') /\ fI n0 h' v' (L ++ new) /\ cF n0 h h' := by
 rcases g with ⟨rfl, rfl⟩ | ⟨b, c, pl, t, hb0, hb, rfl, hc, hc0, hg, ht⟩
 · by_cases hne : new = []
   · subst hne; refine ⟨.nils, h, ?_, fI.nil _ _, cF.refl _ _⟩; rw [eV]; simp only [fP, r.srcLen, r.src, Option.bind_some, List.length_nil]; rfl
   · have hpos : 0 < new.length := List.length_pos_iff.2 hne; refine ⟨.slc h.size 0 new.length new.length true, h.push (.blk ⟨new.length, 1, false, true, Tr.ofL new⟩), ?_, .inr ⟨h.size, new.length, true, Tr.ofL new, hn0, by simp, by simp, by simp, hpos, by rw [H.get_push, if_pos rfl], λ j y hj => by rw [Tr.at_ofL]; exact hj⟩, cF.push hn0 _⟩
     rw [eV]; simp only [fP, r.srcLen, r.src, Option.bind_some]; simp only [List.length_nil, Nat.zero_add] at hs hs2; rw [aBK (show new.length ≠ 0 by omega), dR hs, dR hs2]
     simp only [cond_false, Bool.and_self, cond_true, H.pushK_eq, Nat.mul_one]
 · rw [eV]; simp only [fP, r.srcLen, r.src, Option.bind_some, bE, Nat.zero_add, Nat.mul_one]; by_cases hfit : L.length + new.length <= c
   · rw [Nat.ble_eq_true_of_le hfit, cond_true]; obtain ⟨h1', t', f1, f2, f3, f4, f5⟩ := qX (h := h) (b := b) (o := L.length) (vs := new) hg rfl hfit h1; refine ⟨_, h1', by rw [f1]; rfl, .inr ⟨b, c, pl, t', hb0, by rw [f2]; exact hb, by simp, by simpa using hfit, hc0, f4, λ j y hj => ?_⟩, ⟨by rw [f2]; exact Nat.le_refl _, λ d hd => f3 d (by omega)⟩⟩
     rw [f5]; rcases Nat.lt_or_ge j L.length with h2 | h2
     · rw [if_neg (by omega)]
       rw [List.getElem?_append_left h2] at hj; exact ht j y hj
     · rw [List.getElem?_append_right h2] at hj; have := lZ hj; rw [if_pos ⟨h2, by omega⟩]; exact hj
   · rw [jD hfit, cond_false, dR hs, dR hs2]; simp only [Bool.and_self, cond_true, hg, Nat.beq_refl, h1, Nat.ble_eq_true_of_le hc, Bool.not_false, aDf, Nat.mul_one, Option.bind_some, H.pushK_eq, H.putK_eq]; refine ⟨_, _, rfl, .inr ⟨h.size, L.length + new.length, false, Tr.ofF new L.length t, hn0, by simp, by simp, by simp, by omega, by rw [H.get_put, if_neg (by omega), H.get_push, if_pos rfl], λ j y hj => ?_⟩, ⟨by simp, λ d hd => by rw [H.get_put, if_neg (by omega), H.get_push, if_neg (by omega)]⟩⟩
     rw [Tr.at_ofF]; rcases Nat.lt_or_ge j L.length with h2 | h2
     · rw [if_neg (by omega)]
       rw [List.getElem?_append_left h2] at hj; exact ht j y hj
     · rw [List.getElem?_append_right h2] at hj; have := lZ hj; rw [if_pos ⟨h2, by omega⟩]; exact hj
theorem fI.push1 {x z : DV} {bytes : Nat} (g : fI n0 h v L) (hn0 : n0 <= h.size) (h1 : x.one = true)
   (hs : (L.length + 1) * bytes < aR) (hs2 : L.length + 1 < aR) : ∃ v' h', (∀ (R : Type) (k : DV -> H -> Option R), (gI 1 1 [z] [(0, 1, x)] h λ y h' => wK (cE 1 bytes v y h') k) = k v' h') /\ fI n0 h' v' (L ++ [x]) /\ cF n0 h h' := by
 have hp : cV (h.push (.blk ⟨1 * 1, 1, false, true, Tr.ofL [x]⟩)) h.size [x] := cV.pushed (h := h) (L := [x]) (pl := true); have g' : fI n0 (h.push (.blk ⟨1 * 1, 1, false, true, Tr.ofL [x]⟩)) v L := g.keep (cF.push (Nat.le_refl _) _) (Nat.le_refl _); obtain ⟨v', h', f1, f2, f3⟩ := g'.appendRow (x := .slc h.size 0 1 1 false) (new := [x]) (bytes := bytes) (by rw [H.size_push]; omega) (hp.row false) (by simp [h1]) hs hs2
 refine ⟨v', h', λ R k => ?_, f2, (cF.push hn0 _).trans f3⟩
 have hf : iG (gP [z] 1) [(0, 1, x)] = some [x] := by
   have hc : x.cells = [x] := by cases x <;> first | rfl | cases h1
   simp [iG, gP, hc, uV]; rfl
 simp only [gI, hf, Option.bind_some, H.pushK_eq]; rw [f1]; rfl
end
end Go.DI
namespace Go.DI
open Go.RowKit
theorem fJ {R : Type} (l : List DV) (t : Bool) (op : (DV -> H -> Option R) -> Option R) (h : H) (k : DV -> H -> Option R) : bA (.tup l) t op h k = k (.tup []) h := id rfl
theorem aY (a : DV) (l : List DV) : aH 0 (.tup (a :: l)) = some a := id rfl
theorem aX (a b : DV) (l : List DV) : aH 1 (.tup (a :: b :: l)) = some b := id rfl
theorem oR (a b c : DV) (l : List DV) : aH 2 (.tup (a :: b :: c :: l)) = some c := rfl
theorem aDY {s : Ln} {i j : Nat} (hi : i <= j) (hj : j <= s.length) (k k' : IntKind) : gV (.str s) (some (.int k (.ofNat i))) (some (.int k' (.ofNat j))) = some (.str ((s.take j).drop i)) := by
 simp only [gV, dH, dHi, dLo]; rw [Nat.ble_eq_true_of_le hj, cond_true, Nat.ble_eq_true_of_le hi, cond_true, iF]
theorem pG (k k' : IntKind) (a b : Nat) : aAo (.int k (.ofNat a)) (.int k' (.ofNat b)) = some (.int k (.ofNat (min a b))) := by
 simp only [aAo, nD]
 congr 2
 by_cases h : b < a
 · rw [show decide (Int.ofNat b < Int.ofNat a) = true from by simp only [Int.ofNat_eq_natCast, decide_eq_true_iff]; omega]
   show Int.ofNat b = _; congr 1; omega
 · rw [show decide (Int.ofNat b < Int.ofNat a) = false from by simp only [Int.ofNat_eq_natCast, decide_eq_false_iff_not]; omega]
   show Int.ofNat a = _; congr 1; omega
theorem bQ (k : IntKind) (a b : Nat) : dC (.int k (.ofNat a)) (.int k (.ofNat b)) = some (.bool (!decide (a = b))) := by
 rw [aSA]; congr 2; rw [Bool.eq_iff_iff]; simp only [bne_iff_ne, ne_eq, Int.ofNat_eq_natCast, Bool.not_eq_true', decide_eq_false_iff_not]; omega
theorem kR (s t : Ln) : dC (.str s) (.str t) = some (.bool (s != t)) := by
 show eU (!sEq s t) = _; rw [fK, tD]; rfl
end Go.DI
namespace Go.DI
open Go.RowKit
def bC (h : H) (b : Nat) (L : List DV) : Prop := b < h.size /\ ∃ es t, h.get b = some (.blk ⟨L.length, es, false, true, t⟩) /\ ∀ j x, L[j]? = some x -> t.at_ j = some x
section
variable {h h' : H} {b : Nat} {L : List DV}
theorem bC.rd (hb : bC h b L) {j : Nat} {x : DV} (hj : L[j]? = some x) : rdCell h.get b j = some x := by
 obtain ⟨hlt, es, t, h1, h2⟩ := hb; rw [kJ h1 (lZ hj)]; exact h2 j x hj
theorem bC.read (hb : bC h b L) {j : Nat} {x : DV} (hj : L[j]? = some x) : aG h.get (.ptr b j) = some x := by
 simp only [aG, cI]; exact hb.rd hj
theorem bC.cells (hb : bC h b L) {o k : Nat} (hk : o + k <= L.length) : rdCells h.get b o k = some ((L.drop o).take k) := by
 have hl : ((L.drop o).take k).length = k := by simp; omega
 have := lP (rd := h.get) (b := b) ((L.drop o).take k) o λ i v hi => hb.rd (by
   rw [List.getElem?_take] at hi; split at hi
   · rw [List.getElem?_drop] at hi; exact hi
   · cases hi)
 rw [hl] at this; exact this
theorem bC.readN (hb : bC h b L) {o k : Nat} (hk : o + k <= L.length) : aK k h.get (.ptr b o) = some (.agg ((L.drop o).take k)) := by
 simp only [aK, cH, hb.cells hk]; rfl
theorem bC.but (hb : bC h b L) {c : Nat} (hc : b ≠ c) (k : But c h h') : bC h' b L := by
 obtain ⟨hlt, es, t, h1, h2⟩ := hb; exact ⟨by rw [k.size]; exact hlt, es, t, by rw [k.get b hc]; exact h1, h2⟩
theorem bC.grown (hb : bC h b L) (g : aJ h h') : bC h' b L := by
 obtain ⟨hlt, es, t, h1, h2⟩ := hb; exact ⟨Nat.lt_of_lt_of_le hlt g.size, es, t, by rw [g.get b hlt]; exact h1, h2⟩
theorem bC.keep {n : Nat} (hb : bC h b L) (k : cF n h h') (hn : b < n) : bC h' b L := by
 obtain ⟨hlt, es, t, h1, h2⟩ := hb; exact ⟨Nat.lt_of_lt_of_le hlt k.size, es, t, by rw [k.get b hn]; exact h1, h2⟩
theorem bC.store (hb : bC h b L) {vs : List DV} {o : Nat} (hv : vs.all DV.one = true) (ho : o + vs.length <= L.length) :
   ∃ h', gY vs h b o = some h' /\ bC h' b (L.take o ++ vs ++ L.drop (o + vs.length)) /\ But b h h' := by
 obtain ⟨hlt, es, t, h1, h2⟩ := hb; obtain ⟨h', t', f1, f2, f3, f4, f5⟩ := qX (h := h) (b := b) (o := o) (vs := vs) h1 rfl ho hv; have hlen : (L.take o ++ vs ++ L.drop (o + vs.length)).length = L.length := by simp; omega
 refine ⟨h', f1, ⟨by rw [f2]; exact hlt, es, t', by rw [f4, hlen], λ j x hj => ?_⟩, ⟨f2, f3⟩⟩
 rw [f5]; have ht : (L.take o).length = o := by simp; omega
 by_cases hjo : o <= j /\ j < o + vs.length
 · rw [if_pos hjo]; rw [List.append_assoc, List.getElem?_append_right (by omega), ht, List.getElem?_append_left (by omega)] at hj
   exact hj
 · rw [if_neg hjo]; apply h2; rcases Nat.lt_or_ge j o with hlt | hge
   · rw [List.append_assoc, List.getElem?_append_left (by omega), List.getElem?_take, if_pos hlt] at hj
     exact hj
   · have hge2 : o + vs.length <= j := by
       rcases Nat.lt_or_ge j (o + vs.length) with h3 | h3
       · exact absurd ⟨hge, h3⟩ hjo
       · exact h3
     rw [List.getElem?_append_right (by simp only [List.length_append, ht]; omega), List.length_append, ht, List.getElem?_drop] at hj
     rw [show j = o + vs.length + (j - (o + vs.length)) from by omega]; exact hj
theorem xL {v : DV} (hv : v.one = true) : v.cells = [v] := by cases v <;> first | rfl | cases hv
theorem bC.set (hb : bC h b L) {j : Nat} {v : DV} (hv : v.one = true) (hj : j < L.length) :
   ∃ h', bR 1 (.ptr b j) v h = some (.tup [], h') /\ bC h' b (L.set j v) /\ But b h h' := by
 obtain ⟨h', f1, f2, f3⟩ := hb.store (vs := [v]) (o := j) (by simp [hv]) (by simp; omega)
 refine ⟨h', ?_, ?_, f3⟩
 · rw [aAZ]; simp only [dSt, xL hv, List.length_singleton, Nat.beq_refl, cond_true, f1, Option.map_some]
 · have : L.take j ++ [v] ++ L.drop (j + [v].length) = L.set j v := by
     rw [List.set_eq_take_append_cons_drop, if_pos hj]; simp
   rw [<- this]; exact f2
theorem bC.setN (hb : bC h b L) {o n : Nat} {cs : List DV} (hn : cs.length = n) (hv : cs.all DV.one = true) (ho : o + n <= L.length) :
   ∃ h', bR n (.ptr b o) (.agg cs) h = some (.tup [], h') /\ bC h' b (L.take o ++ cs ++ L.drop (o + n)) /\ But b h h' := by
 subst hn; obtain ⟨h', f1, f2, f3⟩ := hb.store (vs := cs) (o := o) hv ho; refine ⟨h', ?_, f2, f3⟩; rw [aAZ]; have : (DV.agg cs).cells = cs := rfl; simp only [dSt, this, Nat.beq_refl, cond_true, f1, Option.map_some]
theorem jU {R : Type} (cs : List DV) (h : H) (k : DV -> H -> Option R) : dT (.agg cs) h k = k (.ptr h.size 0) (h.push (.blk ⟨cs.length, cs.length, false, true, Tr.ofL cs⟩)) := by
 simp only [dT, bE, H.pushK_eq]; rfl
theorem wZ {R : Type} {v : DV} (hv : v.one = true) (h : H) (k : DV -> H -> Option R) : dT v h k = k (.ptr h.size 0) (h.push (.blk ⟨1, 1, false, true, Tr.ofL [v]⟩)) := by
 simp only [dT, bE, H.pushK_eq, xL hv]; rfl
theorem bC.pushed {L : List DV} {es : Nat} : bC (h.push (.blk ⟨L.length, es, false, true, Tr.ofL L⟩)) h.size L :=
 ⟨by rw [H.size_push]; omega, es, _, by rw [H.get_push, if_pos rfl], λ j x hj => by rw [Tr.at_ofL]; exact hj⟩
end
@[simp] theorem bI (b o : Nat) : aM (.ptr b o) = some (.ptr b o) := id rfl
theorem aL (off b o : Nat) : aF off (.ptr b o) = some (.ptr b (o + off)) := by simp only [aF, bE]
theorem aGT {len es b o j : Nat} (hj : j < len) (k : IntKind) : lV len es (.ptr b o) (.int k (.ofNat j)) = some (.ptr b (o + j * es)) := by
 simp only [lV, rH, bE]; rw [dR hj]; rfl
end Go.DI
namespace Go.DI
open Go.RowKit
theorem wO (k' : IntKind) {a b : Nat} (hb : b <= 64) : aDZ (.int .u64 (.ofNat a)) (.int k' (.ofNat b)) = some (.int .u64 (.ofNat (a * 2 ^ b % 18446744073709551616))) := by
 show pW .shl .u64 (.ofNat a) (.ofNat b) = _; unfold pW; rw [show iLt (.ofNat b) 0 = false from by rw [nD]; simp]
 simp only [cond_false, jZ]; rw [show min (Int.ofNat b).toNat IntKind.u64.bits = b from by show min b 64 = b; omega, aAq]
 congr 2
theorem aSw {a : Nat} (ha : a < 9223372036854775808) (k' : IntKind) : yE (.int .i64 (.negSucc a)) (.int k' (.ofNat 63)) = some (.int .i64 (.negSucc 0)) := by
 show pW .shr .i64 (.negSucc a) (.ofNat 63) = _; unfold pW; rw [show iLt (.ofNat 63) 0 = false from by rw [nD]; simp]
 simp only [cond_false, oZ]; rw [show min (Int.ofNat 63).toNat IntKind.i64.bits = 63 from rfl]
 congr 2
 rw [Int.fdiv_eq_ediv_of_nonneg _ (by omega)]
 omega
theorem aUl {u : Nat} (h : u < 18446744073709551616) : aEc (.int .u64 (.ofNat u)) (.int .u64 (.ofNat 127)) = some (.int .u64 (.ofNat (u % 128))) := by
 have e : u &&& 127 = u % 128 := Nat.and_two_pow_sub_one_eq_mod u 7; rw [aSD .u64 u 127 (by show u < 2 ^ 64; omega) (by decide), e, uN (by omega)]
theorem aUh (k : IntKind) (a b : Nat) (ha : a < 2 ^ k.bits) (hb : b < 2 ^ k.bits) : aSz (.int k (.ofNat a)) (.int k (.ofNat b)) = some (.int k (k.wrap (.ofNat (a ||| b)))) := by
 show (bif kEq k k then bCM k (.ofNat a) (.ofNat b) else none) = _; rw [jL]; show (bif Nat.blt a (2 ^ k.bits) && Nat.blt b (2 ^ k.bits) then jO k (.ofNat (Nat.lor a b)) else _) = _; rw [dR ha, dR hb]; exact jZ _ _
set_option maxRecDepth 100000 in
theorem bJh : ∀ x, x < 256 -> x ||| 128 = x % 128 + 128 := by decide
theorem aPW {x : Nat} (h : x < 256) : aSz (.int .u8 (.ofNat x)) (.int .u8 (.ofNat 128)) = some (eQ (x % 128 + 128)) := by
 rw [aUh .u8 x 128 (by show x < 2 ^ 8; omega) (by decide), bJh x h]
 unfold eQ; rw [wrap_u8 (by omega)]
theorem qY (u : Nat) (k : IntKind) : fE .u8 (.int k (.ofNat u)) = some (.int .u8 (.ofNat (u % 256))) := by
 rw [pI, IntKind.wrap_u8]
 congr 2
theorem rJ {b : Nat} (h : b < 18446744073709551616) (k : IntKind) : fE .u64 (.int k (.ofNat b)) = some (.int .u64 (.ofNat b)) := by
 rw [pI, uN h]
theorem aIp {a b : Nat} (k k' : IntKind) (hb : b <= k.bits) : yE (.int k (.ofNat a)) (.int k' (.ofNat b)) = some (.int k (.ofNat (a / 2 ^ b))) := aSx k k' a b hb
theorem aKK {x : Nat} (h : x < 18446744073709551616) : x ^^^ 18446744073709551615 = 18446744073709551615 - x := by
 apply Nat.eq_of_testBit_eq; intro i; rw [Nat.testBit_xor, show 18446744073709551615 - x = 2 ^ 64 - (x + 1) from by omega, Nat.testBit_two_pow_sub_succ h, show 18446744073709551615 = 2 ^ 64 - 1 from rfl, Nat.testBit_two_pow_sub_one]
 by_cases hi : i < 64
 · simp [hi]
 · have : x.testBit i = false := Nat.testBit_lt_two_pow (Nat.lt_of_lt_of_le h (by
     show 2 ^ 64 <= 2 ^ i; exact Nat.pow_le_pow_right (by omega) (by omega)))
   simp [hi, this]
def zz (n : Int) : Nat := match n with
 | .ofNat a => 2 * a
 | .negSucc a => 2 * a + 1
theorem bIK {n : Int} (h1 : -9223372036854775808 <= n) (h2 : n < 9223372036854775808) : ∃ (x y z : DV), fE .u64 (.int .i64 n) = some x /\ aDZ x (.int .u64 (.ofNat 1)) = some y /\ yE (.int .i64 n) (.int .u64 (.ofNat 63)) = some z /\
   ∃ w, fE .u64 z = some w /\ aDX y w = some (.int .u64 (.ofNat (zz n))) := by
 cases n with
 | ofNat a =>
   simp only [Int.ofNat_eq_natCast] at h2; refine ⟨_, _, _, rJ (by omega) _, wO _ (by omega), aIp _ _ (by decide), _, rJ (by omega) _, ?_⟩
   have e1 : a * 2 ^ 1 % 18446744073709551616 = 2 * a := by omega
   have e2 : a / 2 ^ 63 = 0 := by omega
   rw [e1, e2, aBo .u64 _ _ (by show 2 * a < 2 ^ 64; omega) (by decide), Nat.xor_zero, uN (by omega)]; rfl
 | negSucc a =>
   have ha : a < 9223372036854775808 := by omega
   have e0 : IntKind.u64.wrap (.negSucc a) = .ofNat (18446744073709551615 - a) := by
     rw [aAq]; simp only [Int.ofNat_eq_natCast]; omega
   have e3 : IntKind.u64.wrap (.negSucc 0) = .ofNat 18446744073709551615 := by rw [aAq]; rfl
   refine ⟨.int .u64 (.ofNat (18446744073709551615 - a)), _, _, by rw [pI, e0], wO _ (by omega), aSw ha _, .int .u64 (.ofNat 18446744073709551615), by rw [pI, e3], ?_⟩
   have e1 : (18446744073709551615 - a) * 2 ^ 1 % 18446744073709551616 = 18446744073709551614 - 2 * a := by omega
   rw [e1, aBo .u64 _ _ (by show 18446744073709551614 - 2 * a < 2 ^ 64; omega) (by decide), aKK (by omega), uN (by omega)]
   have e5 : 18446744073709551615 - (18446744073709551614 - 2 * a) = 2 * a + 1 := by omega
   rw [e5]; rfl
theorem bBN {n : Int} (h1 : -9223372036854775808 <= n) (h2 : n < 9223372036854775808) : ∃ (x y : DV), fE .u64 (.int .i64 n) = some x /\ aDZ x (.int .u64 (.ofNat 1)) = some y /\
   (0 <= n -> y = .int .u64 (.ofNat (zz n))) /\ (n < 0 -> aDX y (.int .u64 (.ofNat 18446744073709551615)) = some (.int .u64 (.ofNat (zz n)))) := by
 cases n with
 | ofNat a =>
   simp only [Int.ofNat_eq_natCast] at h2; refine ⟨_, _, rJ (by omega) _, wO _ (by omega), λ _ => ?_, λ h => absurd h (by simp only [Int.ofNat_eq_natCast]; omega)⟩
   have e1 : a * 2 ^ 1 % 18446744073709551616 = 2 * a := by omega
   rw [e1]; rfl
 | negSucc a =>
   have ha : a < 9223372036854775808 := by omega
   have e0 : IntKind.u64.wrap (.negSucc a) = .ofNat (18446744073709551615 - a) := by
     rw [aAq]; simp only [Int.ofNat_eq_natCast]; omega
   refine ⟨.int .u64 (.ofNat (18446744073709551615 - a)), _, by rw [pI, e0], wO _ (by omega), λ h => absurd h (by omega), λ _ => ?_⟩
   have e1 : (18446744073709551615 - a) * 2 ^ 1 % 18446744073709551616 = 18446744073709551614 - 2 * a := by omega
   rw [e1, aBo .u64 _ _ (by show 18446744073709551614 - 2 * a < 2 ^ 64; omega) (by decide), aKK (by omega), uN (by omega)]
   have e5 : 18446744073709551615 - (18446744073709551614 - 2 * a) = 2 * a + 1 := by omega
   rw [e5]; rfl
theorem bT {R : Type} {n es : Nat} (L : List DV) (h : H) (k : DV -> H -> Option R) : dZ n es (.list L) h k = k (.ptr h.size 0) (h.push (.blk ⟨n, es, false, true, Tr.ofL L⟩)) := by
 simp only [dZ, H.pushK_eq]; rfl
theorem oU (k : IntKind) (n : Int) : rcK (some (.int k n)) (.int k n) = true := by
 show qH (.int k n) (.int k n) = true; simp only [qH, Bool.and_eq_true]
 first | (constructor <;> simp) | simp
theorem aIE (s : Ln) : rcK (some (.str s)) (.str s) = true := by
 show qH (.str s) (.str s) = true; simp [qH]
theorem dE (rd : Rd) (b o : Nat) : dX .ptr false rd (.ptr b o) .nilp = some (.bool false) := rfl
theorem uP (rd : Rd) (b o : Nat) : dX .ptr true rd (.ptr b o) .nilp = some (.bool true) := rfl
def aSs (n0 : Nat) (h : H) (v : DV) (L : List DV) : Prop := cJ n0 h v L \/
 ∃ b o B, v = .slc b o L.length L.length false /\ h.get b = some (.blk B) /\ ∀ j x, L[j]? = some x -> rdCell h.get b (o + j) = some x
theorem aSs.push1 {n0 : Nat} {h : H} {v x z : DV} {L : List DV} {bytes : Nat} (o : aSs n0 h v L) (hlt : ∀ b o n c op, v = .slc b o n c op -> b < h.size) (hn0 : n0 <= h.size) (h1 : x.one = true)
   (hs : (L.length + 1) * bytes < aR) (hs2 : L.length + 1 < aR) : ∃ v' h', (∀ (R : Type) (k : DV -> H -> Option R), (gI 1 1 [z] [(0, 1, x)] h λ y h' => wK (cE 1 bytes v y h') k) = k v' h') /\ cJ n0 h' v' (L ++ [x]) /\ cF n0 h h' := by
 rcases o with o | ⟨b, off, B, rfl, hB, hc⟩
 · exact o.push1 hn0 h1 hs hs2
 · have hb := hlt b off _ _ _ rfl
   let h1' := h.push (.blk ⟨1 * 1, 1, false, true, Tr.ofL [x]⟩)
   have hp : cV h1' h.size [x] := cV.pushed (h := h) (L := [x]) (pl := true); have hB' : h1'.get b = some (.blk B) := by show (h.push _).get b = _; rw [H.get_push, if_neg (by omega)]; exact hB
   have hrow : rdCells h1'.get b off L.length = some L := lP L off λ j y hj => by rw [lY (hB'.trans hB.symm)]; exact hc j y hj
   have hf : iG (gP [z] 1) [(0, 1, x)] = some [x] := by simp [iG, gP, xL h1, uV]; rfl
   have hne : ¬ L.length + 1 <= L.length := by omega
   have hap : cE 1 bytes (.slc b off L.length L.length false) (.slc h.size 0 1 1 false) h1' = some (.slc h1'.size 0 (L.length + 1) (L.length + 1) true, h1'.push (.blk ⟨L.length + 1, 1, false, true, Tr.ofL (L ++ [x])⟩)) := by
     rw [eV]; have hx : dP 1 h1'.get (.slc h.size 0 1 1 false) = some [x] := by
       have := hp.cells_all
       simpa [dP] using this
     simp only [fP, srcLen, hx, Option.bind_some, bE, jD hne, cond_false, dR hs, dR hs2, Bool.and_self, cond_true, hB', Nat.mul_one, hrow, H.pushK_eq]
   refine ⟨.slc h1'.size 0 (L.length + 1) (L.length + 1) true, h1'.push (.blk ⟨L.length + 1, 1, false, true, Tr.ofL (L ++ [x])⟩), λ R k => ?_, .inr ⟨h1'.size, by show n0 <= h1'.size; rw [show h1'.size = h.size + 1 from rfl]; omega, ?_, ?_⟩, ?_⟩
   · simp only [gI, hf, Option.bind_some, H.pushK_eq]; show wK (cE 1 bytes (.slc b off L.length L.length false) (.slc h.size 0 1 1 false) h1') k = _; rw [hap]; rfl
   · simp
   · have := cV.pushed (h := h1') (L := L ++ [x]) (pl := true); rw [List.length_append] at this; exact this
   · exact (cF.push hn0 _).trans (cF.push (by show n0 <= h1'.size; rw [show h1'.size = h.size + 1 from rfl]; omega) _)
theorem cJ.lt_size {n0 : Nat} {h : H} {v : DV} {L : List DV} (o : cJ n0 h v L) : ∀ b o n c op, v = .slc b o n c op -> b < h.size := by
 intro b off n c op e; rcases o with ⟨rfl, _⟩ | ⟨b', _, rfl, hb⟩
 · cases e
 · cases e; exact hb.1
def aKE (h : H) (v : DV) (L : List DV) : Prop := aSs h.size h v L /\ ∀ b o n c op, v = .slc b o n c op -> b < h.size
theorem cJ.appendStr {n0 : Nat} {h : H} {v : DV} {s : Ln} (o : cJ n0 h v (bX s)) (hn0 : n0 <= h.size) (t : Ln) (hs : s.length + t.length <= 1000000) :
   ∃ v' h', cE 1 1 v (.str t) h = some (v', h') /\ cJ n0 h' v' (bX (s ++ t)) /\ cF n0 h h' := by
 have e1 : (t.map λ b => DV.int .u8 (.ofNat b)) = bX t := rfl
 by_cases ht : t = []
 · subst ht; refine ⟨v, h, ?_, by simpa using o, cF.refl _ _⟩
   rw [eV]; rcases o with ⟨rfl, e⟩ | ⟨b, _, rfl, hb⟩
   · simp only [fP, srcLen, dP, bE, List.length_nil, Option.bind_some, Nat.beq_refl, cond_true]
   · simp only [fP, srcLen, dP, bE, List.length_nil, Option.bind_some, Nat.beq_refl, cond_true, Nat.add_zero, Nat.ble_eq_true_of_le (Nat.le_refl _)]; rfl
 · have := o.append (x := .str t) (new := bX t) (bytes := 1) hn0 (by simp only [srcLen, bE, bU]) (by simp only [dP, Nat.beq_refl, cond_true, e1]) (rL t) (by intro e; exact ht (by simpa [bX] using e)) (by simp only [bU]; unfold aR; omega) (by simp only [bU]; unfold aR; omega)
   rw [eE]; exact this
theorem dJ.text {h : H} {v : DV} {s : Ln} (r : dJ h v (bX s)) (hok : bH s = true) : mU h.get v = some (.str s) := by
 have hs := r.src; rcases r with ⟨e, hv⟩ | ⟨b, o, c, op, rfl, _⟩
 · have : s = [] := by
     cases s with
     | nil => rfl
     | cons _ _ => cases e
   subst this; rcases hv with rfl | ⟨b, o, o2, rfl⟩ <;> rfl
 · simp only [dP, Nat.mul_one] at hs; rw [bU] at hs ⊢; simp only [mU, cH, hs, Option.bind_some, vU hok, iF]
theorem aTl {R : Type} {z x : DV} (hx : x.one = true) (h : H) (k : DV -> H -> Option R) : gI 1 1 [z] [(0, 1, x)] h k = k (.slc h.size 0 1 1 false) (h.push (.blk ⟨1, 1, false, true, Tr.ofL [x]⟩)) := by
 have hf : iG (gP [z] 1) [(0, 1, x)] = some [x] := by simp [iG, gP, xL hx, uV]; rfl
 simp only [gI, hf, Option.bind_some, H.pushK_eq, Nat.mul_one]
theorem dJ.one {h : H} {x : DV} : dJ (h.push (.blk ⟨1, 1, false, true, Tr.ofL [x]⟩)) (.slc h.size 0 1 1 false) [x] := (cV.pushed (h := h) (L := [x]) (pl := true)).row false
theorem bC.all {h : H} {b n : Nat} {L : List DV} (hb : bC h b L) (hn : L.length = n) : aK n h.get (.ptr b 0) = some (.agg L) := by
 rw [hb.readN (by omega), List.drop_zero, List.take_of_length_le (by omega)]
theorem bC.setAll {h : H} {b n : Nat} {L cs : List DV} (hb : bC h b L) (hL : L.length = n) (hn : cs.length = n) (hv : cs.all DV.one = true) :
   ∃ h', bR n (.ptr b 0) (.agg cs) h = some (.tup [], h') /\ bC h' b cs /\ But b h h' := by
 obtain ⟨h', f1, f2, f3⟩ := hb.setN (o := 0) hn hv (by omega)
 refine ⟨h', f1, ?_, f3⟩; rw [List.take_zero, List.nil_append, Nat.zero_add, List.drop_of_length_le (by omega), List.append_nil] at f2
 exact f2
end Go.DI
end
