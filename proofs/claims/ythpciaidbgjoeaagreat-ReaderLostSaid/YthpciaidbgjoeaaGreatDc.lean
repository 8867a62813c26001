/- D once more, its registers a function; plain functions that are D's; functions told by what they compute; deferred closures that recover. No condition beyond the theorems' own. -/
import Derived.Recover
import Derived.SliceStrings
import Derived.SizedLaws
import Derived.WideShapes
import Derived.Lib.Join
import Derived.Test.YthpciaidbgjoeaaGreatDb
set_option linter.unusedVariables false
set_option linter.unusedSimpArgs false
noncomputable section
namespace Go.DI
open Go.RowKit
theorem gJ.mono {P : Program} {f : FuncId} {F G : bQ} (hF : gJ P f F) (h : ∀ args h r, G args h = some r -> F args h = some r) : gJ P f G :=
 λ N0 w0 m hh w args args' v h' hr ht hw => hF N0 w0 m hh w args args' v h' (h _ _ _ hr) ht hw
structure bF (h h' : H) : Prop where
 size : h.size <= h'.size
 get : ∀ b, b < h.size -> h'.get b = h.get b
theorem bF.refl (h : H) : bF h h := ⟨Nat.le_refl _, λ _ _ => rfl⟩
theorem bF.trans {a b c : H} (x : bF a b) (y : bF b c) : bF a c :=
 ⟨Nat.le_trans x.size y.size, λ i hi => (y.get i (Nat.lt_of_lt_of_le hi x.size)).trans (x.get i hi)⟩
theorem bF.push (h : H) (o : eY) : bF h (h.push o) := ⟨by simp, λ b hb => by rw [H.get_push, if_neg (by omega)]⟩
def wJ (v : DV) : Prop := ∀ m m' : Mp, tr m v = tr m' v
theorem bU.forget {N0 : Nat} {w0 : World} {m m' : Mp} {h h' : H} {w w' : World} (hw : bU N0 w0 m h w) (hw' : bU N0 w0 m' h' w') (he : gY m h m' h') (hg : bF h h') : bU N0 w0 m h w' := by
 have hgb : ∀ b i, m b = some i -> h'.get b = h.get b := λ b i e => hg.get b (hw.lt b i e).1
 refine ⟨λ b i e => ⟨(hw.lt b i e).1, (hw'.lt b i (he.le b i e)).2⟩, λ b i e => ?_, hw.inj, hw'.below, hw'.base, hw.wf, hw.good⟩
 obtain ⟨o, g, r, n⟩ := hw.has b i e; obtain ⟨o', g', r', n'⟩ := hw'.has b i (he.le b i e); rw [hgb b i e, g] at g'; cases g'; refine ⟨o, g, ?_, n⟩; cases o with
 | blk B =>
   obtain ⟨⟨c, el, fr, h1, h2, h3⟩, _, _⟩ := r; obtain ⟨⟨c', el', fr', h1', h2', h3'⟩, hf', hp'⟩ := r'; refine ⟨⟨c', el', fr', h1', h2', λ j hj => ?_⟩, hf', hp'⟩
   rcases h3 j hj with ⟨v, v', a, b', d⟩ | hx
   · rcases h3' j hj with ⟨u, u', a', b'', d'⟩ | ⟨_, hx⟩
     · rw [a] at a'; cases a'; rw [gL he.le _ _ b'] at b''; cases b''; exact .inl ⟨v, v', a, b', d'⟩
     · rw [a] at hx; cases hx
   · exact .inr hx
 | dead => trivial
 | map ds clock =>
   obtain ⟨es, h1, h2⟩ := r; obtain ⟨es', h1', h2'⟩ := r'; refine ⟨es', h1', ?_⟩; have same : ∀ {ds : List dK} {es es' : List MapEntry}, dI m ds es -> dI m' ds es' -> dI m ds es' := by
     intro ds
     induction ds with
     | nil => intro es es' a b; cases es' <;> first | trivial | exact b.elim
     | cons d ds ih =>
       intro es es' a b; cases es with
       | nil => exact a.elim
       | cons e es =>
         cases es' with
         | nil => exact b.elim
         | cons e' es' =>
           refine ⟨⟨?_, ?_, b.1.2.2⟩, ih a.2 b.2⟩
           · have := gL he.le _ _ a.1.1; rw [b.1.1] at this; rw [a.1.1, this]
           · have := gL he.le _ _ a.1.2.1; rw [b.1.2.1] at this; rw [a.1.2.1, this]
   exact same h2 h2'
 | iter b since seen last =>
   obtain ⟨hs, j, h0, h1, h2⟩ := r; obtain ⟨hs', j', h0', h1', h2'⟩ := r'; have := he.le _ _ h0; rw [h0'] at this; cases this; exact ⟨hs, _, h0, h1', h2⟩
theorem gJ.forget {P : Program} {f : FuncId} {F G : bQ} (hF : gJ P f F)
   (hG : ∀ args h v h', G args h = some (v, h') -> h' = h /\ wJ v /\ ∃ h1, F args h = some (v, h1) /\ bF h h1) : gJ P f G := by
 intro N0 w0 m h w args args' v h' hr ht hw; obtain ⟨rfl, hv, h1, h2, h3⟩ := hG _ _ _ _ hr; refine (hF N0 w0 m h' w args args' v h1 h2 ht hw).mono λ e w' hh => ?_
 obtain ⟨m', v', e1, e2, e3, e4⟩ := hh; exact ⟨m, v', e1, by rw [hv m m']; exact e2, hw.forget e3 e4 h3, gY.refl _ _⟩
theorem wJ.int (k : IntKind) (n : Int) : wJ (.int k n) := λ _ _ => rfl
theorem wJ.str (s : Ln) : wJ (.str s) := λ _ _ => rfl
theorem wJ.tup2 {a b : DV} (ha : wJ a) (hb : wJ b) : wJ (.tup [a, b]) := λ m m' => by simp only [tr, trs, ha m m', hb m m']
end Go.DI
namespace Go.DI
open Go.RowKit
section
variable {R : Type}
def vK (o : Option DV) (k : DV -> Option R) : Option R := Option.rec (motive := λ _ => Option R) none k o
def wK (o : Option (DV × H)) (k : DV -> H -> Option R) : Option R := Option.rec (motive := λ _ => Option R) none (λ x => Prod.rec (motive := λ _ => Option R) k x) o
def bK (x : DV) (a b : Option R) : Option R := match x with
 | .bool c => Bool.rec b a c
 | _ => none
def gK (x : DV) (t : Bool) (a b : Option R) : Option R := match x with
 | .bool c => Bool.rec (Bool.rec a b t) (Bool.rec b a t) c
 | _ => b
def rcK (o : Option DV) (v : DV) : Bool := Option.rec (motive := λ _ => Bool) false (λ u => kG u v) o
theorem bAL (o : Option DV) (k : DV -> Option R) : vK o k = o.bind k := by cases o <;> rfl
theorem bAK (o : Option (DV × H)) (k : DV -> H -> Option R) : wK o k = o.bind λ x => k x.1 x.2 := by cases o <;> rfl
end
theorem oY (n a : Nat) (ha : a < 2 ^ n) : (BitVec.ofInt n (Int.ofNat a)).toNat = a := by
 rw [BitVec.toNat_ofInt]; have h2 : (Int.ofNat a) % ((2 ^ n : Nat) : Int) = (a : Int) := by
   rw [Int.ofNat_eq_natCast, <- Int.natCast_emod, Nat.mod_eq_of_lt ha]
 have h3 : ∀ z : Int, z = ((2 ^ n : Nat) : Int) -> ((Int.ofNat a) % z).toNat = a := by
   intro z hz; rw [hz, h2]; rfl
 exact h3 _ (by simp)
def fb (f : Nat -> Nat -> Nat) (s : IntKind -> Int -> Int -> Option DV) (k : IntKind) (x y : Int) : Option DV :=
 Int.rec (motive := λ _ => Option DV) (λ a => Int.rec (motive := λ _ => Option DV) (λ b => bif Nat.blt a (2 ^ k.bits) && Nat.blt b (2 ^ k.bits) then iP k (.ofNat (f a b)) else s k x y) (λ _ => s k x y) y) (λ _ => s k x y) x
theorem aTi {f : Nat -> Nat -> Nat} {s : IntKind -> Int -> Int -> Option DV} {k : IntKind} (h : ∀ a b, a < 2 ^ k.bits -> b < 2 ^ k.bits -> s k (.ofNat a) (.ofNat b) = iP k (.ofNat (f a b))) (x y : Int) : fb f s k x y = s k x y := by
 cases x with
 | negSucc a => rfl
 | ofNat a =>
   cases y with
   | negSucc b => rfl
   | ofNat b =>
     show (bif Nat.blt a (2 ^ k.bits) && Nat.blt b (2 ^ k.bits) then iP k (.ofNat (f a b)) else s k (.ofNat a) (.ofNat b)) = _; cases hb : (Nat.blt a (2 ^ k.bits) && Nat.blt b (2 ^ k.bits)) with
     | false => rfl
     | true =>
       rw [Bool.and_eq_true, Nat.blt_eq, Nat.blt_eq] at hb; exact (h a b hb.1 hb.2).symm
def aNC : IntKind -> Int -> Int -> Option DV := fb Nat.land aOl
def aYH : IntKind -> Int -> Int -> Option DV := fb Nat.lor aZT
def aIW : IntKind -> Int -> Int -> Option DV := fb Nat.xor aOa
theorem aTk (k : IntKind) (x y : Int) : aNC k x y = aOl k x y := aTi (λ a b ha hb => by
 unfold aOl nR; rw [BitVec.toNat_and, oY _ _ ha, oY _ _ hb]; rfl) x y
theorem aYG (k : IntKind) (x y : Int) : aYH k x y = aZT k x y := aTi (λ a b ha hb => by
 unfold aZT nR; rw [BitVec.toNat_or, oY _ _ ha, oY _ _ hb]; rfl) x y
theorem aTj (k : IntKind) (x y : Int) : aIW k x y = aOa k x y := aTi (λ a b ha hb => by
 unfold aOa nR; rw [BitVec.toNat_xor, oY _ _ ha, oY _ _ hb]; rfl) x y
def uS (f : IntKind -> Int -> Int -> Option DV) (g : Ln -> Ln -> Option DV) (a b : DV) : Option DV := match a, b with
 | .int k x, .int k' y => bif kEq k k' then f k x y else none
 | .str s, .str t => g s t
 | _, _ => none
def wD (s t : Ln) : Option DV := none
def bAS (s t : Ln) : Option DV := bif Nat.blt (s.length + t.length) nV then tO (s ++ t) else none
def bAR (s t : Ln) : Option DV := eI (sEq s t)
def bAM (s t : Ln) : Option DV := eI (!sEq s t)
def bAN (s t : Ln) : Option DV := eI (sLt s t)
def bAO (s t : Ln) : Option DV := eI (sLt s t || sEq s t)
def bAP (s t : Ln) : Option DV := eI (!(sLt s t || sEq s t))
def bAQ (s t : Ln) : Option DV := eI (!sLt s t)
def aZR (op : BinOp) (a b : DV) : Option DV := match a, b with
 | .int k x, .int _ y => mI op k x y
 | _, _ => none
def cF : DV -> DV -> Option DV := uS aOm bAS
def jD : DV -> DV -> Option DV := uS aOb wD
def jM : DV -> DV -> Option DV := uS aOf wD
def aCg : DV -> DV -> Option DV := uS aOd wD
def aCf : DV -> DV -> Option DV := uS aOc wD
def qP : DV -> DV -> Option DV := uS aNC wD
def aEd : DV -> DV -> Option DV := uS aYH wD
def pK : DV -> DV -> Option DV := uS aIW wD
def tW : DV -> DV -> Option DV := aZR .shl
def lI : DV -> DV -> Option DV := aZR .shr
def aRV : DV -> DV -> Option DV := uS aDB wD
def cR : DV -> DV -> Option DV := uS aOk bAR
def dQ : DV -> DV -> Option DV := uS aOe bAM
def bY : DV -> DV -> Option DV := uS aOg bAN
def tY : DV -> DV -> Option DV := uS aOh bAO
def dW : DV -> DV -> Option DV := uS aOi bAP
def fK : DV -> DV -> Option DV := uS aOj bAQ
def aMR (op : BinOp) : DV -> DV -> Option DV :=
 BinOp.rec (motive := λ _ => DV -> DV -> Option DV) cF jD jM aCg aCf qP aEd pK tW lI aRV cR dQ bY tY dW fK op
theorem jC {op : BinOp} (hs : mP op = false) {f : IntKind -> Int -> Int -> Option DV} {g : Ln -> Ln -> Option DV} (hf : ∀ k x y, f k x y = pY op k x y) (hg : ∀ s t, g s t = pX op s t) (a b : DV) : uS f g a b = zM op a b := by
 cases a <;> cases b <;> first | rfl | (simp only [uS, zM, aSR, hs, cond_false, hf, hg])
theorem aNX {op : BinOp} (hs : mP op = true) (hg : ∀ s t, pX op s t = none) (a b : DV) : aZR op a b = zM op a b := by
 cases a <;> cases b <;> first | rfl | (simp only [aZR, zM, hs, cond_true, hg])
theorem aRU (op : BinOp) (a b : DV) : aMR op a b = zM op a b := by
 cases op
 · exact jC (op := .add) (f := aOm) (g := bAS) rfl (λ k x y => by show iP k (aSW x y) = iP k (x + y); rw [aGm]) (λ _ _ => rfl) a b
 · exact jC (op := .sub) (f := aOb) (g := wD) rfl (λ _ _ _ => rfl) (λ _ _ => rfl) a b
 · exact jC (op := .mul) (f := aOf) (g := wD) rfl (λ _ _ _ => rfl) (λ _ _ => rfl) a b
 · exact jC (op := .quo) (f := aOd) (g := wD) rfl (λ _ _ _ => rfl) (λ _ _ => rfl) a b
 · exact jC (op := .rem) (f := aOc) (g := wD) rfl (λ _ _ _ => rfl) (λ _ _ => rfl) a b
 · exact jC (op := .and) (f := aNC) (g := wD) rfl (λ k x y => aTk k x y) (λ _ _ => rfl) a b
 · exact jC (op := .or) (f := aYH) (g := wD) rfl (λ k x y => aYG k x y) (λ _ _ => rfl) a b
 · exact jC (op := .xor) (f := aIW) (g := wD) rfl (λ k x y => aTj k x y) (λ _ _ => rfl) a b
 · exact aNX (op := .shl) rfl (λ _ _ => rfl) a b
 · exact aNX (op := .shr) rfl (λ _ _ => rfl) a b
 · exact jC (op := .andNot) (f := aDB) (g := wD) rfl (λ _ _ _ => rfl) (λ _ _ => rfl) a b
 · exact jC (op := .eql) (f := aOk) (g := bAR) rfl (λ _ _ _ => rfl) (λ _ _ => rfl) a b
 · exact jC (op := .neq) (f := aOe) (g := bAM) rfl (λ _ _ _ => rfl) (λ _ _ => rfl) a b
 · exact jC (op := .lss) (f := aOg) (g := bAN) rfl (λ _ _ _ => rfl) (λ _ _ => rfl) a b
 · exact jC (op := .leq) (f := aOh) (g := bAO) rfl (λ _ _ _ => rfl) (λ _ _ => rfl) a b
 · exact jC (op := .gtr) (f := aOi) (g := bAP) rfl (λ _ _ _ => rfl) (λ _ _ => rfl) a b
 · exact jC (op := .geq) (f := aOj) (g := bAQ) rfl (λ _ _ _ => rfl) (λ _ _ => rfl) a b
def yR (rd : Rd) (b j : Nat) : Option DV := match rd b with
 | some (.blk B) => bif Nat.blt j B.n then B.t.at_ j else none
 | _ => none
theorem cE (rd : Rd) (b j : Nat) : yR rd b j = rdCell rd b j := by
 unfold yR rdCell; cases rd b with
 | none => rfl
 | some o =>
   cases o with
   | blk B =>
     show (bif Nat.blt j B.n then B.t.at_ j else none) = if j < B.n then B.t.at_ j else none
     by_cases h : j < B.n
     · rw [if_pos h, show Nat.blt j B.n = true from by rw [Nat.blt_eq]; exact h]; rfl
     · rw [if_neg h, show Nat.blt j B.n = false from by rw [Bool.eq_false_iff, ne_eq, Nat.blt_eq]; exact h]; rfl
   | dead => rfl
   | map a b => rfl
   | iter a b c d => rfl
def aSX (t : Tr DV) (n : Nat) : Nat -> Option (List DV) :=
 Nat.rec (motive := λ _ => Nat -> Option (List DV)) (λ _ => some []) (λ _ ih j => Option.rec (motive := λ _ => Option (List DV)) none (λ v => cW (Nat.succ j) λ j => Option.rec (motive := λ _ => Option (List DV)) none (λ vs => some (v :: vs)) (ih j)) (t.at_ j)) n
theorem aIM {rd : Rd} {b : Nat} {B : Blk} (h : rd b = some (.blk B)) : ∀ (n j : Nat), j + n <= B.n -> aSX B.t n j = rdCells rd b j n
 | 0, j, _ => rfl
 | n + 1, j, hl => by
   show Option.rec (motive := λ _ => Option (List DV)) none (λ v => cW (Nat.succ j) λ j => Option.rec (motive := λ _ => Option (List DV)) none (λ vs => some (v :: vs)) (aSX B.t n j)) (B.t.at_ j) = _
   simp only [aR, rdCells]; rw [aIM h n (j + 1) (by omega)]
   have e : rdCell rd b j = B.t.at_ j := by simp only [rdCell, h]; rw [if_pos (by omega)]
   rw [e]; cases B.t.at_ j with
   | none => rfl
   | some v => cases rdCells rd b (j + 1) n <;> rfl
theorem rT {rd : Rd} {b : Nat} : ∀ (n j : Nat), (∀ B, rd b = some (.blk B) -> B.n < j + n) -> 0 < n -> rdCells rd b j n = none
 | 0, j, _, h => absurd h (by omega)
 | n + 1, j, hb, _ => by
   simp only [rdCells]; cases hc : rdCell rd b j with
   | none => rfl
   | some v =>
     have : 0 < n := by
       unfold rdCell at hc; split at hc
       · rename_i B hB; split at hc
         · have := hb B hB; omega
         · cases hc
       · cases hc
     rw [rT n (j + 1) (λ B hB => by have := hb B hB; omega) this]
def lN (rd : Rd) (b j n : Nat) : Option (List DV) := bif Nat.beq n 0 then some [] else match rd b with
 | some (.blk B) => bif Nat.ble (j + n) B.n then aSX B.t n j else none
 | _ => none
theorem bT (rd : Rd) (b j n : Nat) : lN rd b j n = rdCells rd b j n := by
 unfold lN; by_cases h0 : n = 0
 · subst h0; rfl
 · rw [show Nat.beq n 0 = false from by cases h : Nat.beq n 0; rfl; exact absurd (Nat.eq_of_beq_eq_true h) h0, cond_false]
   split
   · rename_i B hB; by_cases hl : j + n <= B.n
     · rw [Nat.ble_eq_true_of_le hl, cond_true]; exact aIM hB n j hl
     · rw [show Nat.ble (j + n) B.n = false from by cases h : Nat.ble (j + n) B.n; rfl; exact absurd (Nat.le_of_ble_eq_true h) hl, cond_false]
       exact (rT n j (λ B' hB' => by rw [hB] at hB'; cases hB'; omega) (by omega)).symm
   · rename_i hn; exact (rT n j (λ B' hB' => absurd hB' (hn B')) (by omega)).symm
def aMZ {β : Type} (vs : List DV) : Nat -> Tr DV -> (Tr DV -> β) -> β :=
 List.rec (motive := λ _ => Nat -> Tr DV -> (Tr DV -> β) -> β) (λ _ t k => k t) (λ v _ ih o t k => Tr.setK v (Pa.of o) t λ t => cW (Nat.succ o) λ o => ih o t k) vs
def aIb : List DV -> Nat -> Tr DV -> Tr DV
 | [], _, t => t
 | v :: vs, o, t => aIb vs (o + 1) (Tr.set v (Pa.of o) t)
theorem aCq {β : Type} : ∀ (vs : List DV) (o : Nat) (t : Tr DV) (k : Tr DV -> β), aMZ vs o t k = k (aIb vs o t)
 | [], _, _, _ => rfl
 | v :: vs, o, t, k => by
   show (Tr.setK v (Pa.of o) t λ t => cW (Nat.succ o) λ o => aMZ vs o t k) = _
   rw [Tr.setK_eq, aR, aCq vs]; rfl
theorem Tr.set_set {α : Type} (x y : α) : ∀ (p : Pa) (t : Tr α), Tr.set y p (Tr.set x p t) = Tr.set y p t
 | .h, .e => rfl
 | .h, .n _ _ _ => rfl
 | .l p, .e => by show Tr.n (Tr.set y p (Tr.set x p .e)) none .e = Tr.n (Tr.set y p .e) none .e; rw [Tr.set_set x y p]
 | .l p, .n l v r => by show Tr.n (Tr.set y p (Tr.set x p l)) v r = Tr.n (Tr.set y p l) v r; rw [Tr.set_set x y p]
 | .r p, .e => by show Tr.n .e none (Tr.set y p (Tr.set x p .e)) = Tr.n .e none (Tr.set y p .e); rw [Tr.set_set x y p]
 | .r p, .n l v r => by show Tr.n l v (Tr.set y p (Tr.set x p r)) = Tr.n l v (Tr.set y p r); rw [Tr.set_set x y p]
theorem H.put_put (h : H) (b : Nat) (x y : eY) : (h.put b x).put b y = h.put b y := by
 unfold H.put Tr.put; simp only [Tr.set_set]
def zI (vs : List DV) (h : H) (b o : Nat) : Option H := match vs with
 | [] => some h
 | v :: vs => match h.get b with
   | some (.blk B) => bif (!B.ro) && Nat.ble (o + (v :: vs).length) B.n && (v :: vs).all DV.one then
       aMZ (v :: vs) o B.t λ t => h.putK b (.blk { B with t := t }) some
     else none
   | _ => none
theorem aAB : ∀ (vs : List DV) (h : H) (b o : Nat) (B : Blk), h.get b = some (.blk B) -> vs ≠ [] ->
   eZ vs h b o = if (!B.ro) = true /\ o + vs.length <= B.n /\ vs.all DV.one = true then some (h.put b (.blk { B with t := aIb vs o B.t })) else none
 | [], _, _, _, _, _, h => absurd rfl h
 | v :: vs, h, b, o, B, hB, _ => by
   simp only [eZ, hB]; by_cases hc : ((!B.ro) && Nat.blt o B.n && v.one) = true
   · rw [hc, cond_true, Tr.setK_eq, H.putK_eq, aR]; rw [Bool.and_eq_true, Bool.and_eq_true, Nat.blt_eq] at hc; obtain ⟨⟨h1, h2⟩, h3⟩ := hc; cases vs with
     | nil =>
       rw [if_pos ⟨h1, by simp only [List.length_cons, List.length_nil]; omega, by simp [h3]⟩]; rfl
     | cons u us =>
       rw [aAB (u :: us) _ b (o + 1) { B with t := Tr.set v (Pa.of o) B.t } (by rw [H.get_put, if_pos rfl]) (by simp)]
       simp only [H.put_put]; by_cases hd : (!B.ro) = true /\ o + 1 + (u :: us).length <= B.n /\ (u :: us).all DV.one = true
       · rw [if_pos hd, if_pos ⟨h1, by have := hd.2.1; simp only [List.length_cons] at this ⊢; omega, by rw [List.all_cons, h3, hd.2.2]; rfl⟩]; rfl
       · rw [if_neg hd, if_neg]; intro hh; apply hd; refine ⟨h1, by have := hh.2.1; simp only [List.length_cons] at this ⊢; omega, ?_⟩
         have := hh.2.2; rw [List.all_cons, Bool.and_eq_true] at this; exact this.2
   · have hc' : ((!B.ro) && Nat.blt o B.n && v.one) = false := by simpa using hc
     rw [hc', cond_false, if_neg]; intro hh; apply hc; rw [Bool.and_eq_true, Bool.and_eq_true, Nat.blt_eq]; have h3 := hh.2.2; rw [List.all_cons, Bool.and_eq_true] at h3; exact ⟨⟨hh.1, by have := hh.2.1; simp only [List.length_cons] at this; omega⟩, h3.1⟩
theorem xR (vs : List DV) (h : H) (b o : Nat) : zI vs h b o = eZ vs h b o := by
 unfold zI; split
 · rfl
 · rename_i v vs; split
   · rename_i B hB; rw [aAB (v :: vs) h b o B hB (by simp)]
     by_cases hd : (!B.ro) = true /\ o + (v :: vs).length <= B.n /\ (v :: vs).all DV.one = true
     · rw [if_pos hd, hd.1, Nat.ble_eq_true_of_le hd.2.1, hd.2.2]; simp only [Bool.and_self, cond_true, aCq, H.putK_eq]
     · rw [if_neg hd]; have : ((!B.ro) && Nat.ble (o + (v :: vs).length) B.n && (v :: vs).all DV.one) = false := by
         rw [Bool.eq_false_iff]; intro hh; rw [Bool.and_eq_true, Bool.and_eq_true] at hh; exact hd ⟨hh.1.1, Nat.le_of_ble_eq_true hh.1.2, hh.2⟩
       rw [this, cond_false]
   · rename_i hn; simp only [eZ]
def eK (n : Nat) (a x : DV) (h : H) : Option (DV × H) :=
 match a with
 | .ptr b o => bif Nat.beq x.cells.length n then (zI x.cells h b o).map λ h => (.tup [], h) else none
 | _ => none
theorem mS (n : Nat) (a x : DV) (h : H) : eK n a x h = dSt n a x h := by unfold eK dSt; simp only [xR]; cases a <;> rfl
def aAn (es : Nat) (rd : Rd) (x : DV) : Option (List DV) :=
 match x with
 | .nils => some []
 | .slE _ _ _ => some []
 | .slc b o n _ _ => lN rd b o (n * es)
 | .str s => bif Nat.beq es 1 then some (s.map λ b => .int .u8 (.ofNat b)) else none
 | _ => none
theorem aFV (es : Nat) (rd : Rd) (x : DV) : aAn es rd x = eG es rd x := by unfold aAn eG; simp only [bT]; cases x <;> rfl
def aLd (o len es : Nat) (B : Blk) (new : List DV) (rd : Rd) (b : Nat) : Option (Tr DV) := bif Nat.beq o 0 then aMZ new (len * es) B.t some else (lN rd b o (len * es)).map λ old => Tr.ofL (old ++ new)
def cT (es bytes : Nat) (s x : DV) (h : H) : Option (DV × H) :=
 (fI x).bind λ n => (aAn es h.get x).bind λ new =>
 match s with
 | .nils => bif Nat.beq n 0 then some (.nils, h) else
     bif Nat.blt (n * bytes) bP && Nat.blt n bP then h.pushK (.blk ⟨n * es, es, false, true, Tr.ofL new⟩) λ h' => some (.slc h.size 0 n n true, h') else none
 | .slE b o o2 => bif Nat.beq n 0 then some (.slE b o o2, h) else none
 | .slc b o len cap op => cW (len + n) λ need =>
     bif Nat.ble need cap then (zI new h b (o + len * es)).map λ h => (.slc b o need cap op, h)
     else bif Nat.blt (need * bytes) bP && Nat.blt need bP then
       match h.get b with
       | some (.blk B) =>
         bif op then
           bif Nat.beq (o + cap * es) B.n && Nat.beq B.es es && (!B.ro) && Nat.ble len cap && new.all DV.one then
             (aLd o len es B new h.get b).bind λ t => cW (need * es) λ n' => h.pushK (.blk ⟨n', es, false, false, t⟩) λ h' => h'.putK b .dead λ h'' => some (.slc h.size 0 need need true, h'')
           else none
         else
           (lN h.get b o (len * es)).bind λ old => cW (need * es) λ n' => h.pushK (.blk ⟨n', es, false, true, Tr.ofL (old ++ new)⟩) λ h' => some (.slc h.size 0 need need true, h')
       | _ => none
     else none
 | _ => none
theorem aAo : ∀ (vs : List DV) (o : Nat) (t : Tr DV), aIb vs o t = Tr.ofF vs o t
 | [], _, _ => rfl
 | v :: vs, o, t => aAo vs (o + 1) _
theorem aQZ (o len es : Nat) (B : Blk) (new : List DV) (rd : Rd) (b : Nat) : aLd o len es B new rd b = yU o len es B new rd b := by
 unfold aLd yU; rw [aCq, aAo, bT]
theorem iX (es bytes : Nat) (s x : DV) (h : H) : cT es bytes s x h = iF es bytes s x h := by
 unfold cT iF; simp only [aFV, xR, bT, aQZ]; cases fI x with
 | none => rfl
 | some n =>
   simp only [Option.bind_some]; cases eG es h.get x with
   | none => rfl
   | some new =>
     simp only [Option.bind_some]; cases s <;> rfl
def aCk (es k : Nat) (rd : Rd) (x : DV) : Option (List DV) :=
 match x with
 | .nils => some []
 | .slE _ _ _ => some []
 | .slc b o _ _ _ => lN rd b o (k * es)
 | .str s => bif Nat.beq es 1 then some ((s.take k).map λ b => .int .u8 (.ofNat b)) else none
 | _ => none
theorem aHZ (es k : Nat) (rd : Rd) (x : DV) : aCk es k rd x = mL es k rd x := by unfold aCk mL; simp only [bT]; cases x <;> rfl
def lC (es : Nat) (d x : DV) (h : H) : Option (DV × H) :=
 (fI x).bind λ n => match d with
 | .nils => some (.int .i64 0, h)
 | .slE _ _ _ => some (.int .i64 0, h)
 | .slc b o len _ _ => cW (bif Nat.ble n len then n else len) λ k => (aCk es k h.get x).bind λ new => (zI new h b o).map λ h => (.int .i64 (.ofNat k), h)
 | _ => none
theorem aRq (es : Nat) (d x : DV) (h : H) : lC es d x h = aBx es d x h := by
 unfold lC aBx; simp only [aHZ, xR]; cases fI x with
 | none => rfl
 | some n => cases d <;> rfl
def bCY (x y : DV) : Option DV := match x, y with
 | .str s, .int .u8 (.ofNat c) => bif Nat.blt c 256 then aGq (aIX c s) λ n => some (.int .i64 n) else none
 | _, _ => none
def bCZ (x y : DV) : Option DV := match x, y with
 | .str s, .int .u8 (.ofNat c) => bif Nat.blt c 256 then cW (aLk c s) λ n => some (.int .i64 (.ofNat n)) else none
 | _, _ => none
def aMO (k : Prm) : DV -> DV -> Option DV := Prm.rec (motive := λ _ => DV -> DV -> Option DV) bCY bCZ k
def tX (kt : nT) (z : DV) (ok : Bool) (rd : Rd) (x k : DV) : Option DV := (match x with
   | .nilm => some none
   | .mp b => match rd b with
     | some (.map es _) => rC kt k es
     | _ => none
   | _ => none).map λ r => match r with
     | some v => bif ok then .tup [v, .bool true] else v
     | none => bif ok then .tup [z, .bool false] else z
def aCd (es : Nat) (x : DV) (lo : Option DV) (hi mx : DV) : Option DV := match mx with
   | .int _ (.ofNat k) => (match x with
     | .nils => bif Nat.beq k 0 then dE 0 0 lo (some hi) λ l h => some .nils else none
     | .slc b o len cap op => bif Nat.ble k cap then dE len k lo (some hi) λ l h =>
         bif Nat.blt l k then (cW (o + l * es) λ o => cW (h - l) λ n => cW (k - l) λ c => some (.slc b o n c false)) else some (.slc b o 0 0 false) else none
     | _ => none)
   | _ => none
def aN (c a b : DV) : Option DV := match c with
   | .bool t => some (Bool.rec b a t)
   | _ => none
def dN (t : EqT) (neg : Bool) (rd : Rd) (x y : DV) : Option DV := (dEq rd t x y).bind λ b => eI (bif neg then !b else b)
def uA (neg : Bool) (s : EqS) (rd : Rd) (x y : DV) : Option DV := match x, y with
   | .agg xs, .agg ys => (jO rd s xs ys).bind λ b => eI (bif neg then !b else b)
   | _, _ => none
def eT (x : DV) : Option DV := match x with
   | .bool b => eI (!b)
   | _ => none
def wL (x : DV) : Option DV := match x with
   | .int k n => iP k (0 - n)
   | _ => none
def cS (k : IntKind) (x : DV) : Option DV := match x with
   | .int _ n => iP k n
   | _ => none
def aFO (x : DV) : Option DV := match x with
   | .str s => some (.str s)
   | _ => none
def iT (rd : Rd) (x : DV) : Option DV := match x with
   | .nils => some (.str [])
   | .slE _ _ _ => some (.str [])
   | .slc b o len _ _ => ((lN rd b o len).bind jN).bind tO
   | _ => none
def aO (rd : Rd) (x : DV) : Option DV := match x with
   | .ptr b o => yR rd b o
   | _ => none
def dD (n : Nat) (rd : Rd) (x : DV) : Option DV := match x with
   | .ptr b o => (lN rd b o n).map .agg
   | _ => none
def aD (x : DV) : Option DV := match x with
   | .ptr b o => some (.ptr b o)
   | _ => none
def aP (off : Nat) (x : DV) : Option DV := match x with
   | .ptr b o => cW (o + off) λ o => some (.ptr b o)
   | _ => none
def aMQ (off n : Nat) (agg : Bool) (x : DV) : Option DV := match x with
   | .agg cs => bif agg then (bif Nat.ble (off + n) cs.length then some (.agg ((cs.drop off).take n)) else none) else cs[off]?
   | _ => none
def pL (len es : Nat) (x i : DV) : Option DV := match x with
   | .ptr b o => nM len i λ n => cW (o + n * es) λ o => some (.ptr b o)
   | _ => none
def cV (es : Nat) (x i : DV) : Option DV := match x with
   | .slc b o len _ _ => nM len i λ n => cW (o + n * es) λ o => some (.ptr b o)
   | _ => none
def aMP (len es : Nat) (agg : Bool) (x i : DV) : Option DV := match x with
   | .agg cs => nM len i λ n => bif agg then (bif Nat.ble (n * es + es) cs.length then some (.agg ((cs.drop (n * es)).take es)) else none) else cs[n * es]?
   | _ => none
def oL (x i : DV) : Option DV := match x with
   | .str s => nM s.length i λ n => (s[n]?).map λ b => .int .u8 (.ofNat b)
   | _ => none
def iM (x : DV) (lo hi : Option DV) : Option DV := match x with
   | .str s => dE s.length s.length lo hi λ l h => tO ((s.take h).drop l)
   | _ => none
def fF (es : Nat) (x : DV) (lo hi : Option DV) : Option DV := match x with
   | .nils => dE 0 0 lo hi λ l h => some .nils
   | .slc b o len cap op => dE len cap lo hi λ l h =>
       bif Nat.blt l cap then (cW (o + l * es) λ o => cW (h - l) λ n => cW (cap - l) λ c => some (.slc b o n c op))
       else bif op then (cW (o + l * es) λ o2 => some (.slE b o o2)) else some (.slc b o 0 0 false)
   | .slE b o o2 => dE 0 0 lo hi λ l h => some (.slE b o o2)
   | _ => none
def aCe (n es : Nat) (x : DV) (lo hi : Option DV) : Option DV := match x with
   | .ptr b o => dE n n lo hi λ l h =>
       bif Nat.blt l n then (cW (o + l * es) λ o => cW (h - l) λ m => cW (n - l) λ c => some (.slc b o m c false))
       else some (.slc b o 0 0 false)
   | _ => none
def aX (i : Nat) (x : DV) : Option DV := match x with
   | .tup vs => vs[i]?
   | _ => none
def eQ (x : DV) : Option DV := match x with
   | .str s => cW s.length λ n => some (.int .i64 (.ofNat n))
   | _ => none
def bO (x : DV) : Option DV := match x with
   | .nils => some (.int .i64 (.ofNat 0))
   | .slc _ _ n _ _ => some (.int .i64 (.ofNat n))
   | .slE _ _ _ => some (.int .i64 (.ofNat 0))
   | _ => none
abbrev aCh (x : DV) : Option DV := aFl x
abbrev aHQ (rd : Rd) (x y : DV) : Option DV := aGA rd x y
def aFP (rd : Rd) (x : DV) : Option DV := match x with
   | .nilm => some (.int .i64 (.ofNat 0))
   | .mp b => match rd b with
     | some (.map es _) => cW es.length λ n => some (.int .i64 (.ofNat n))
     | _ => none
   | _ => none
def aAf (a b : DV) : Option DV := match a, b with
   | .int k x, .int k' y => some (.int k (bif iLt y x then y else x))
   | _, _ => none
def yC (a b : DV) : Option DV := match a, b with
   | .int k x, .int k' y => some (.int k (bif iLt x y then y else x))
   | _, _ => none
def dO (zero : List DV) (parts : List (Nat × Nat × DV)) : Option DV := (fW zero parts).map .agg
def aEt (t : Nat) (zero : DV) (ok : Bool) (x : DV) : Option DV := match x with
   | .nili => bif ok then some (.tup [zero, .bool false]) else none
   | .ifc u v => bif Nat.beq u t then some (bif ok then .tup [v, .bool true] else v) else bif ok then some (.tup [zero, .bool false]) else none
   | _ => none
section
variable {R : Type}
def jG (n es : Nat) (z : Zs) (h : H) (k : DV -> H -> Option R) : Option R := h.pushK (.blk ⟨n, es, false, true, z.tr⟩) λ h' => k (.ptr h.size 0) h'
def dJ (x : DV) (h : H) (k : DV -> H -> Option R) : Option R := cW x.cells.length λ n => h.pushK (.blk ⟨n, n, false, true, Tr.ofL x.cells⟩) λ h' => k (.ptr h.size 0) h'
def eM (n es : Nat) (zero : List DV) (parts : List (Nat × Nat × DV)) (h : H) (k : DV -> H -> Option R) : Option R :=
 (fW (iR zero n) parts).bind λ cs => h.pushK (.blk ⟨n * es, es, false, true, Tr.ofL cs⟩) λ h' => k (.slc h.size 0 n n false) h'
def kI (es bytes : Nat) (zero : DV) (l c : DV) (h : H) (k : DV -> H -> Option R) : Option R := match l, c with
   | .int _ (.ofNat l), .int _ (.ofNat c) =>
     bif Nat.ble l c && Nat.blt (bytes * c) 140737488355328 && Nat.blt c 140737488355328 then
       h.pushK (.blk ⟨c, 1, false, true, Tr.full zero 48⟩) λ h' => k (.slc h.size 0 l c false) h'
     else none
   | _, _ => none
def aBk (h : H) (k : DV -> H -> Option R) : Option R := h.pushK (.map [] 0) λ h' => k (.mp h.size) h'
def aSK (x : DV) (h : H) (k : DV -> H -> Option R) : Option R := match x with
   | .str s => cW s.length λ n => h.pushK (.blk ⟨n, 1, false, false, Tr.ofL (s.map λ b => .int .u8 (.ofNat b))⟩) λ h' => k (.slc h.size 0 n n true) h'
   | _ => none
end
end Go.DI
namespace Go.DI
open Go.RowKit
abbrev Rg := Pa -> DV
def e2 (σ : Rg) (x : aZ) : DV := aZ.rec (motive := λ _ => DV) (λ p => σ p) (λ v => v) x
def aRe (p : Pa) (v : DV) (σ : Rg) : Rg := λ q => Bool.rec (σ q) v (rZ q p)
def reg (ρ : Tr DV) : Rg := λ p => ev ρ (.r p)
theorem aLs (ρ : Tr DV) (x : aZ) : e2 (reg ρ) x = ev ρ x := by cases x <;> rfl
theorem cG (ρ : Tr DV) : e2 (reg ρ) = ev ρ := funext (aLs ρ)
theorem aNo (ρ : Tr DV) (p : Pa) (v : DV) : reg (Tr.set v p ρ) = aRe p v (reg ρ) := by
 funext q
 unfold reg aRe; rw [oS]; by_cases h : q = p
 · subst h; rw [if_pos rfl, qX]
 · rw [if_neg h]; cases e : rZ q p with
   | true => exact absurd (gN e) h
   | false => rfl
section
variable {R : Type}
abbrev bKE (σ : Rg) (h : H) (k : DV -> H -> Option R) : Option R := none
abbrev bKi (q : Prm) (x y : aZ) (σ : Rg) (h : H) (k : DV -> H -> Option R) : Option R := vK (aMO q (e2 σ x) (e2 σ y)) λ v => k v h
abbrev bKq (kt : nT) (z : DV) (ok : Bool) (x y : aZ) (σ : Rg) (h : H) (k : DV -> H -> Option R) : Option R := vK (tX kt z ok h.get (e2 σ x) (e2 σ y)) λ v => k v h
abbrev bKe (es : Nat) (x : aZ) (lo : Option aZ) (hi mx : aZ) (σ : Rg) (h : H) (k : DV -> H -> Option R) : Option R := vK (aCd es (e2 σ x) (lo.map (e2 σ)) (e2 σ hi) (e2 σ mx)) λ v => k v h
abbrev bDt (c a b : aZ) (σ : Rg) (h : H) (k : DV -> H -> Option R) : Option R := vK (aN (e2 σ c) (e2 σ a) (e2 σ b)) λ v => k v h
abbrev bKD (op : BinOp) (x y : aZ) (σ : Rg) (h : H) (k : DV -> H -> Option R) : Option R := vK (aMR op (e2 σ x) (e2 σ y)) λ v => k v h
abbrev bKy (t : EqT) (neg : Bool) (x y : aZ) (σ : Rg) (h : H) (k : DV -> H -> Option R) : Option R := vK (dN t neg h.get (e2 σ x) (e2 σ y)) λ v => k v h
abbrev bKz (neg : Bool) (s : EqS) (x y : aZ) (σ : Rg) (h : H) (k : DV -> H -> Option R) : Option R := vK (uA neg s h.get (e2 σ x) (e2 σ y)) λ v => k v h
abbrev bKk (x : aZ) (σ : Rg) (h : H) (k : DV -> H -> Option R) : Option R := vK (eT (e2 σ x)) λ v => k v h
abbrev bKl (x : aZ) (σ : Rg) (h : H) (k : DV -> H -> Option R) : Option R := vK (wL (e2 σ x)) λ v => k v h
abbrev bDy (q : IntKind) (x : aZ) (σ : Rg) (h : H) (k : DV -> H -> Option R) : Option R := vK (cS q (e2 σ x)) λ v => k v h
abbrev bDs (x : aZ) (σ : Rg) (h : H) (k : DV -> H -> Option R) : Option R := vK (aFO (e2 σ x)) λ v => k v h
abbrev bKF (x : aZ) (σ : Rg) (h : H) (k : DV -> H -> Option R) : Option R := vK (iT h.get (e2 σ x)) λ v => k v h
abbrev o_ld (x : aZ) (σ : Rg) (h : H) (k : DV -> H -> Option R) : Option R := vK (aO h.get (e2 σ x)) λ v => k v h
abbrev bKr (n : Nat) (x : aZ) (σ : Rg) (h : H) (k : DV -> H -> Option R) : Option R := vK (dD n h.get (e2 σ x)) λ v => k v h
abbrev aSG (x : aZ) (σ : Rg) (h : H) (k : DV -> H -> Option R) : Option R := vK (aD (e2 σ x)) λ v => k v h
abbrev o_fa (off : Nat) (x : aZ) (σ : Rg) (h : H) (k : DV -> H -> Option R) : Option R := vK (aP off (e2 σ x)) λ v => k v h
abbrev bKw (off n : Nat) (agg : Bool) (x : aZ) (σ : Rg) (h : H) (k : DV -> H -> Option R) : Option R := vK (aMQ off n agg (e2 σ x)) λ v => k v h
abbrev bKv (len es : Nat) (x i : aZ) (σ : Rg) (h : H) (k : DV -> H -> Option R) : Option R := vK (pL len es (e2 σ x) (e2 σ i)) λ v => k v h
abbrev bKu (es : Nat) (x i : aZ) (σ : Rg) (h : H) (k : DV -> H -> Option R) : Option R := vK (cV es (e2 σ x) (e2 σ i)) λ v => k v h
abbrev bKt (len es : Nat) (agg : Bool) (x i : aZ) (σ : Rg) (h : H) (k : DV -> H -> Option R) : Option R := vK (aMP len es agg (e2 σ x) (e2 σ i)) λ v => k v h
abbrev bKs (x i : aZ) (σ : Rg) (h : H) (k : DV -> H -> Option R) : Option R := vK (oL (e2 σ x) (e2 σ i)) λ v => k v h
abbrev bKd (x : aZ) (lo hi : Option aZ) (σ : Rg) (h : H) (k : DV -> H -> Option R) : Option R := vK (iM (e2 σ x) (lo.map (e2 σ)) (hi.map (e2 σ))) λ v => k v h
abbrev bKf (es : Nat) (x : aZ) (lo hi : Option aZ) (σ : Rg) (h : H) (k : DV -> H -> Option R) : Option R := vK (fF es (e2 σ x) (lo.map (e2 σ)) (hi.map (e2 σ))) λ v => k v h
abbrev bKg (n es : Nat) (x : aZ) (lo hi : Option aZ) (σ : Rg) (h : H) (k : DV -> H -> Option R) : Option R := vK (aCe n es (e2 σ x) (lo.map (e2 σ)) (hi.map (e2 σ))) λ v => k v h
abbrev bKx (i : Nat) (x : aZ) (σ : Rg) (h : H) (k : DV -> H -> Option R) : Option R := vK (aX i (e2 σ x)) λ v => k v h
abbrev bDu (x : aZ) (σ : Rg) (h : H) (k : DV -> H -> Option R) : Option R := vK (eQ (e2 σ x)) λ v => k v h
abbrev bDw (x : aZ) (σ : Rg) (h : H) (k : DV -> H -> Option R) : Option R := vK (bO (e2 σ x)) λ v => k v h
abbrev bDv (x : aZ) (σ : Rg) (h : H) (k : DV -> H -> Option R) : Option R := vK (aFP h.get (e2 σ x)) λ v => k v h
abbrev bDz (x : aZ) (σ : Rg) (h : H) (k : DV -> H -> Option R) : Option R := vK (aCh (e2 σ x)) λ v => k v h
abbrev bKj (x y : aZ) (σ : Rg) (h : H) (k : DV -> H -> Option R) : Option R := vK (aHQ h.get (e2 σ x) (e2 σ y)) λ v => k v h
abbrev o_mn (a b : aZ) (σ : Rg) (h : H) (k : DV -> H -> Option R) : Option R := vK (aAf (e2 σ a) (e2 σ b)) λ v => k v h
abbrev o_mx (a b : aZ) (σ : Rg) (h : H) (k : DV -> H -> Option R) : Option R := vK (yC (e2 σ a) (e2 σ b)) λ v => k v h
abbrev bKC (zero : List DV) (parts : List (Nat × Nat × aZ)) (σ : Rg) (h : H) (k : DV -> H -> Option R) : Option R := vK (dO zero (parts.map λ p => (p.1, p.2.1, e2 σ p.2.2))) λ v => k v h
abbrev bKc (t : Nat) (zero : DV) (ok : Bool) (x : aZ) (σ : Rg) (h : H) (k : DV -> H -> Option R) : Option R := vK (aEt t zero ok (e2 σ x)) λ v => k v h
abbrev o_mv (x : aZ) (σ : Rg) (h : H) (k : DV -> H -> Option R) : Option R := k (e2 σ x) h
abbrev bKo (t : Nat) (x : aZ) (σ : Rg) (h : H) (k : DV -> H -> Option R) : Option R := k (.ifc t (e2 σ x)) h
abbrev bKp (f : Fn) (a c : List aZ) (σ : Rg) (h : H) (k : DV -> H -> Option R) : Option R := k (.fn f (a.map (e2 σ)) (c.map (e2 σ))) h
abbrev bDx (n : Nat) (σ : Rg) (h : H) (k : DV -> H -> Option R) : Option R := k (.int .i64 (.ofNat n)) h
abbrev bKG (n es : Nat) (z : Zs) (σ : Rg) (h : H) (k : DV -> H -> Option R) : Option R := jG n es z h k
abbrev bKB (x : aZ) (σ : Rg) (h : H) (k : DV -> H -> Option R) : Option R := dJ (e2 σ x) h k
abbrev bKA (n es : Nat) (zero : List DV) (parts : List (Nat × Nat × aZ)) (σ : Rg) (h : H) (k : DV -> H -> Option R) : Option R := eM n es zero (parts.map λ p => (p.1, p.2.1, e2 σ p.2.2)) h k
abbrev bKm (es bytes : Nat) (zero : DV) (l c : aZ) (σ : Rg) (h : H) (k : DV -> H -> Option R) : Option R := kI es bytes zero (e2 σ l) (e2 σ c) h k
abbrev bKn  (σ : Rg) (h : H) (k : DV -> H -> Option R) : Option R := aBk h k
abbrev bKh (x : aZ) (σ : Rg) (h : H) (k : DV -> H -> Option R) : Option R := aSK (e2 σ x) h k
abbrev aYA (d : vD) : Rg -> H -> (DV -> H -> Option R) -> Option R :=
 vD.rec (motive := λ _ => Rg -> H -> (DV -> H -> Option R) -> Option R) bKE bKi bKq bKe o_mv bDt bKD bKy bKz bKk bKl bDy bDs bKF bKo bKp o_ld bKr aSG o_fa bKw bKv bKu bKt bKs bKd bKf bKg bKx bDu bDw bDv bDz bKj bDx o_mn o_mx bKC bKc bKG bKB bKA bKm bKn bKh d
end
def bBn (q : Prm) (x y : aZ) (σ : Rg) (rd : Rd) : Option DV := aMO q (e2 σ x) (e2 σ y)
def bBt (kt : nT) (z : DV) (ok : Bool) (x y : aZ) (σ : Rg) (rd : Rd) : Option DV := tX kt z ok rd (e2 σ x) (e2 σ y)
def bBk (es : Nat) (x : aZ) (lo : Option aZ) (hi mx : aZ) (σ : Rg) (rd : Rd) : Option DV := aCd es (e2 σ x) (lo.map (e2 σ)) (e2 σ hi) (e2 σ mx)
def aTa (c a b : aZ) (σ : Rg) (rd : Rd) : Option DV := aN (e2 σ c) (e2 σ a) (e2 σ b)
def bBE (op : BinOp) (x y : aZ) (σ : Rg) (rd : Rd) : Option DV := aMR op (e2 σ x) (e2 σ y)
def bBB (t : EqT) (neg : Bool) (x y : aZ) (σ : Rg) (rd : Rd) : Option DV := dN t neg rd (e2 σ x) (e2 σ y)
def bBC (neg : Bool) (s : EqS) (x y : aZ) (σ : Rg) (rd : Rd) : Option DV := uA neg s rd (e2 σ x) (e2 σ y)
def bBp (x : aZ) (σ : Rg) (rd : Rd) : Option DV := eT (e2 σ x)
def bBq (x : aZ) (σ : Rg) (rd : Rd) : Option DV := wL (e2 σ x)
def aTf (q : IntKind) (x : aZ) (σ : Rg) (rd : Rd) : Option DV := cS q (e2 σ x)
def aSZ (x : aZ) (σ : Rg) (rd : Rd) : Option DV := aFO (e2 σ x)
def bBF (x : aZ) (σ : Rg) (rd : Rd) : Option DV := iT rd (e2 σ x)
def g_ld (x : aZ) (σ : Rg) (rd : Rd) : Option DV := aO rd (e2 σ x)
def bBu (n : Nat) (x : aZ) (σ : Rg) (rd : Rd) : Option DV := dD n rd (e2 σ x)
def aIN (x : aZ) (σ : Rg) (rd : Rd) : Option DV := aD (e2 σ x)
def g_fa (off : Nat) (x : aZ) (σ : Rg) (rd : Rd) : Option DV := aP off (e2 σ x)
def bBz (off n : Nat) (agg : Bool) (x : aZ) (σ : Rg) (rd : Rd) : Option DV := aMQ off n agg (e2 σ x)
def bBy (len es : Nat) (x i : aZ) (σ : Rg) (rd : Rd) : Option DV := pL len es (e2 σ x) (e2 σ i)
def bBx (es : Nat) (x i : aZ) (σ : Rg) (rd : Rd) : Option DV := cV es (e2 σ x) (e2 σ i)
def bBw (len es : Nat) (agg : Bool) (x i : aZ) (σ : Rg) (rd : Rd) : Option DV := aMP len es agg (e2 σ x) (e2 σ i)
def bBv (x i : aZ) (σ : Rg) (rd : Rd) : Option DV := oL (e2 σ x) (e2 σ i)
def bBj (x : aZ) (lo hi : Option aZ) (σ : Rg) (rd : Rd) : Option DV := iM (e2 σ x) (lo.map (e2 σ)) (hi.map (e2 σ))
def bBl (es : Nat) (x : aZ) (lo hi : Option aZ) (σ : Rg) (rd : Rd) : Option DV := fF es (e2 σ x) (lo.map (e2 σ)) (hi.map (e2 σ))
def bBm (n es : Nat) (x : aZ) (lo hi : Option aZ) (σ : Rg) (rd : Rd) : Option DV := aCe n es (e2 σ x) (lo.map (e2 σ)) (hi.map (e2 σ))
def bBA (i : Nat) (x : aZ) (σ : Rg) (rd : Rd) : Option DV := aX i (e2 σ x)
def aTb (x : aZ) (σ : Rg) (rd : Rd) : Option DV := eQ (e2 σ x)
def aTd (x : aZ) (σ : Rg) (rd : Rd) : Option DV := bO (e2 σ x)
def aTc (x : aZ) (σ : Rg) (rd : Rd) : Option DV := aFP rd (e2 σ x)
def aTg (x : aZ) (σ : Rg) (rd : Rd) : Option DV := aCh (e2 σ x)
def bBo (x y : aZ) (σ : Rg) (rd : Rd) : Option DV := aHQ rd (e2 σ x) (e2 σ y)
def g_mn (a b : aZ) (σ : Rg) (rd : Rd) : Option DV := aAf (e2 σ a) (e2 σ b)
def g_mx (a b : aZ) (σ : Rg) (rd : Rd) : Option DV := yC (e2 σ a) (e2 σ b)
def bBD (zero : List DV) (parts : List (Nat × Nat × aZ)) (σ : Rg) (rd : Rd) : Option DV := dO zero (parts.map λ p => (p.1, p.2.1, e2 σ p.2.2))
def bBi (t : Nat) (zero : DV) (ok : Bool) (x : aZ) (σ : Rg) (rd : Rd) : Option DV := aEt t zero ok (e2 σ x)
def g_mv (x : aZ) (σ : Rg) (rd : Rd) : Option DV := some (e2 σ x)
def bBr (t : Nat) (x : aZ) (σ : Rg) (rd : Rd) : Option DV := some (.ifc t (e2 σ x))
def bBs (f : Fn) (a c : List aZ) (σ : Rg) (rd : Rd) : Option DV := some (.fn f (a.map (e2 σ)) (c.map (e2 σ)))
def aTe (n : Nat) (σ : Rg) (rd : Rd) : Option DV := some (.int .i64 (.ofNat n))
def bKZ (n es : Nat) (z : Zs) (σ : Rg) (rd : Rd) : Option DV := none
def bKX (x : aZ) (σ : Rg) (rd : Rd) : Option DV := none
def bKW (n es : Nat) (zero : List DV) (parts : List (Nat × Nat × aZ)) (σ : Rg) (rd : Rd) : Option DV := none
def bKS (es bytes : Nat) (zero : DV) (l c : aZ) (σ : Rg) (rd : Rd) : Option DV := none
def bKT  (σ : Rg) (rd : Rd) : Option DV := none
def bKO (x : aZ) (σ : Rg) (rd : Rd) : Option DV := none
def bKY  (σ : Rg) (rd : Rd) : Option DV := none
def dV (d : vD) : Rg -> Rd -> Option DV :=
 vD.rec (motive := λ _ => Rg -> Rd -> Option DV) bKY bBn bBt bBk g_mv aTa bBE bBB bBC bBp bBq aTf aSZ bBF bBr bBs g_ld bBu aIN g_fa bBz bBy bBx bBw bBv bBj bBl bBm bBA aTb aTd aTc aTg bBo aTe g_mn g_mx bBD bBi bKZ bKX bKW bKS bKT bKO d
def aNy : vD -> Bool
 | .alc _ _ _ | .box _ | .bsl _ _ _ _ | .mks _ _ _ _ _ | .mkm | .s2b _ | .bad => true
 | _ => false
theorem aZc (q : Prm) (x y : aZ) (ρ : Tr DV) (rd : Rd) : cM (.prm q x y) ρ rd = (aMO q (ev ρ x) (ev ρ y)).map .val := by
 simp only [cM, aMO]; generalize ev ρ x = x'; generalize ev ρ y = y'; cases x' <;> (try (cases q <;> rfl))
 cases y' <;> (try (cases q <;> rfl))
 rename_i s kk n; cases kk <;> (try (cases q <;> rfl))
 cases n <;> (try (cases q <;> rfl))
 rename_i c; cases q
 · show (bif Nat.blt c 256 then _ else none) = (bif Nat.blt c 256 then _ else none : Option DV).map _; cases Nat.blt c 256 <;> simp only [cond_false, cond_true, lR] <;> rfl
 · show (bif Nat.blt c 256 then _ else none) = (bif Nat.blt c 256 then _ else none : Option DV).map _; cases Nat.blt c 256 <;> simp only [cond_false, cond_true, aR] <;> rfl
theorem aZi (kt : nT) (z : DV) (ok : Bool) (x y : aZ) (ρ : Tr DV) (rd : Rd) : cM (.lkp kt z ok x y) ρ rd = (tX kt z ok rd (ev ρ x) (ev ρ y)).map .val := by
 simp only [cM, tX, Option.map_map]
 congr 1; funext r; cases r <;> rfl
theorem aYY (es : Nat) (x : aZ) (lo : Option aZ) (hi mx : aZ) (ρ : Tr DV) (rd : Rd) : cM (.slM es x lo hi mx) ρ rd = (aCd es (ev ρ x) (lo.map (ev ρ)) (ev ρ hi) (ev ρ mx)).map .val := by
 simp only [cM, aCd]; generalize ev ρ x = x'; generalize ev ρ hi = hi'; generalize ev ρ mx = mx'; cases mx' <;> try rfl
 rename_i k n; cases n <;> try rfl
 rename_i n; cases x' <;> try rfl
 · show (bif Nat.beq n 0 then _ else none) = (bif Nat.beq n 0 then _ else none : Option DV).map _; cases Nat.beq n 0 <;> rfl
 · rename_i a b c d e; show (bif Nat.ble n d then _ else none) = (bif Nat.ble n d then _ else none : Option DV).map _; cases Nat.ble n d <;> rfl
theorem aTD (c a b : aZ) (ρ : Tr DV) (rd : Rd) : cM (.pick c a b) ρ rd = (aN (ev ρ c) (ev ρ a) (ev ρ b)).map .val := by
 simp only [cM, aN]; generalize ev ρ c = c'; generalize ev ρ a = a'; generalize ev ρ b = b'; cases c' <;> try rfl
 rename_i t; cases t <;> rfl
theorem aZt (op : BinOp) (x y : aZ) (ρ : Tr DV) (rd : Rd) : cM (.bin op x y) ρ rd = (aMR op (ev ρ x) (ev ρ y)).map .val := by
 rw [aRU]; rfl
theorem aZq (t : EqT) (neg : Bool) (x y : aZ) (ρ : Tr DV) (rd : Rd) : cM (.eqv t neg x y) ρ rd = (dN t neg rd (ev ρ x) (ev ρ y)).map .val := by
 rfl
theorem aZr (neg : Bool) (s : EqS) (x y : aZ) (ρ : Tr DV) (rd : Rd) : cM (.eqs neg s x y) ρ rd = (uA neg s rd (ev ρ x) (ev ρ y)).map .val := by
 simp only [cM, uA]; generalize ev ρ x = x'; generalize ev ρ y = y'; cases x' <;> cases y' <;> rfl
theorem aZe (x : aZ) (ρ : Tr DV) (rd : Rd) : cM (.not x) ρ rd = (eT (ev ρ x)).map .val := by
 simp only [cM, eT, cE, bT]; generalize ev ρ x = x'; cases x' <;> rfl
theorem aZf (x : aZ) (ρ : Tr DV) (rd : Rd) : cM (.neg x) ρ rd = (wL (ev ρ x)).map .val := by
 simp only [cM, wL, cE, bT]; generalize ev ρ x = x'; cases x' <;> rfl
theorem aTI (q : IntKind) (x : aZ) (ρ : Tr DV) (rd : Rd) : cM (.conv q x) ρ rd = (cS q (ev ρ x)).map .val := by
 simp only [cM, cS, cE, bT]; generalize ev ρ x = x'; cases x' <;> rfl
theorem aTC (x : aZ) (ρ : Tr DV) (rd : Rd) : cM (.same x) ρ rd = (aFO (ev ρ x)).map .val := by
 simp only [cM, aFO, cE, bT]; generalize ev ρ x = x'; cases x' <;> rfl
theorem aZu (x : aZ) (ρ : Tr DV) (rd : Rd) : cM (.b2s x) ρ rd = (iT rd (ev ρ x)).map .val := by
 simp only [cM, iT, cE, bT]; generalize ev ρ x = x'; cases x' <;> rfl
theorem bEa (x : aZ) (ρ : Tr DV) (rd : Rd) : cM (.ld x) ρ rd = (aO rd (ev ρ x)).map .val := by
 simp only [cM, aO, cE, bT]; generalize ev ρ x = x'; cases x' <;> rfl
theorem aZj (n : Nat) (x : aZ) (ρ : Tr DV) (rd : Rd) : cM (.ldN n x) ρ rd = (dD n rd (ev ρ x)).map .val := by
 simp only [cM, dD, cE, bT]; generalize ev ρ x = x'; cases x' <;> rfl
theorem aLr (x : aZ) (ρ : Tr DV) (rd : Rd) : cM (.nilchk x) ρ rd = (aD (ev ρ x)).map .val := by
 simp only [cM, aD, cE, bT]; generalize ev ρ x = x'; cases x' <;> rfl
theorem bEb (off : Nat) (x : aZ) (ρ : Tr DV) (rd : Rd) : cM (.fa off x) ρ rd = (aP off (ev ρ x)).map .val := by
 simp only [cM, aP, aR]; generalize ev ρ x = x'; cases x' <;> rfl
theorem aZo (off n : Nat) (agg : Bool) (x : aZ) (ρ : Tr DV) (rd : Rd) : cM (.fld off n agg x) ρ rd = (aMQ off n agg (ev ρ x)).map .val := by
 simp only [cM, aMQ]; generalize ev ρ x = x'; cases x' <;> try rfl
 rename_i cs; cases agg <;> try rfl
 show (bif Nat.ble (off + n) cs.length then _ else none) = (bif Nat.ble (off + n) cs.length then _ else none : Option DV).map _; cases Nat.ble (off + n) cs.length <;> rfl
theorem aZn (len es : Nat) (x i : aZ) (ρ : Tr DV) (rd : Rd) : cM (.iaA len es x i) ρ rd = (pL len es (ev ρ x) (ev ρ i)).map .val := by
 simp only [cM, pL, cE, bT]; generalize ev ρ x = x'; generalize ev ρ i = i'; cases x' <;> rfl
theorem aZm (es : Nat) (x i : aZ) (ρ : Tr DV) (rd : Rd) : cM (.iaS es x i) ρ rd = (cV es (ev ρ x) (ev ρ i)).map .val := by
 simp only [cM, cV, cE, bT]; generalize ev ρ x = x'; generalize ev ρ i = i'; cases x' <;> rfl
theorem aZl (len es : Nat) (agg : Bool) (x i : aZ) (ρ : Tr DV) (rd : Rd) : cM (.ixA len es agg x i) ρ rd = (aMP len es agg (ev ρ x) (ev ρ i)).map .val := by
 simp only [cM, aMP, cE, bT]; generalize ev ρ x = x'; generalize ev ρ i = i'; cases x' <;> rfl
theorem aZk (x i : aZ) (ρ : Tr DV) (rd : Rd) : cM (.ixS x i) ρ rd = (oL (ev ρ x) (ev ρ i)).map .val := by
 simp only [cM, oL, cE, bT]; generalize ev ρ x = x'; generalize ev ρ i = i'; cases x' <;> rfl
theorem aYX (x : aZ) (lo hi : Option aZ) (ρ : Tr DV) (rd : Rd) : cM (.slS x lo hi) ρ rd = (iM (ev ρ x) (lo.map (ev ρ)) (hi.map (ev ρ))).map .val := by
 simp only [cM, iM, cE, bT]; generalize ev ρ x = x'; cases x' <;> rfl
theorem aYZ (es : Nat) (x : aZ) (lo hi : Option aZ) (ρ : Tr DV) (rd : Rd) : cM (.slL es x lo hi) ρ rd = (fF es (ev ρ x) (lo.map (ev ρ)) (hi.map (ev ρ))).map .val := by
 simp only [cM, fF, cE, bT]; generalize ev ρ x = x'; cases x' <;> rfl
theorem aZa (n es : Nat) (x : aZ) (lo hi : Option aZ) (ρ : Tr DV) (rd : Rd) : cM (.slA n es x lo hi) ρ rd = (aCe n es (ev ρ x) (lo.map (ev ρ)) (hi.map (ev ρ))).map .val := by
 simp only [cM, aCe, cE, bT]; generalize ev ρ x = x'; cases x' <;> rfl
theorem aZp (i : Nat) (x : aZ) (ρ : Tr DV) (rd : Rd) : cM (.ext i x) ρ rd = (aX i (ev ρ x)).map .val := by
 simp only [cM, aX, cE, bT]; generalize ev ρ x = x'; cases x' <;> rfl
theorem aTE (x : aZ) (ρ : Tr DV) (rd : Rd) : cM (.lenS x) ρ rd = (eQ (ev ρ x)).map .val := by
 simp only [cM, eQ, aR]; generalize ev ρ x = x'; cases x' <;> rfl
theorem aTG (x : aZ) (ρ : Tr DV) (rd : Rd) : cM (.lenL x) ρ rd = (bO (ev ρ x)).map .val := by
 simp only [cM, bO, cE, bT]; generalize ev ρ x = x'; cases x' <;> rfl
theorem aTF (x : aZ) (ρ : Tr DV) (rd : Rd) : cM (.lenM x) ρ rd = (aFP rd (ev ρ x)).map .val := by
 simp only [cM, aFP, aR]; generalize ev ρ x = x'; cases x' <;> try rfl
 rename_i b; simp only []; cases rd b with
 | none => rfl
 | some o => cases o <;> rfl
theorem aTJ (x : aZ) (ρ : Tr DV) (rd : Rd) : cM (.capL x) ρ rd = (aCh (ev ρ x)).map .val := by
 rfl
theorem aZd (x y : aZ) (ρ : Tr DV) (rd : Rd) : cM (.ovl x y) ρ rd = (aHQ rd (ev ρ x) (ev ρ y)).map .val := by
 rfl
theorem bDZ (a b : aZ) (ρ : Tr DV) (rd : Rd) : cM (.mn a b) ρ rd = (aAf (ev ρ a) (ev ρ b)).map .val := by
 simp only [cM, aAf]; generalize ev ρ a = a'; generalize ev ρ b = b'; cases a' <;> cases b' <;> rfl
theorem bDX (a b : aZ) (ρ : Tr DV) (rd : Rd) : cM (.mx a b) ρ rd = (yC (ev ρ a) (ev ρ b)).map .val := by
 simp only [cM, yC]; generalize ev ρ a = a'; generalize ev ρ b = b'; cases a' <;> cases b' <;> rfl
theorem aZs (zero : List DV) (parts : List (Nat × Nat × aZ)) (ρ : Tr DV) (rd : Rd) : cM (.bld zero parts) ρ rd = (dO zero (parts.map λ p => (p.1, p.2.1, ev ρ p.2.2))).map .val := by
 rfl
theorem aYW (t : Nat) (zero : DV) (ok : Bool) (x : aZ) (ρ : Tr DV) (rd : Rd) : cM (.tas t zero ok x) ρ rd = (aEt t zero ok (ev ρ x)).map .val := by
 simp only [cM, aEt]; generalize ev ρ x = x'; cases x' <;> try rfl
 · cases ok <;> rfl
 · rename_i u v; simp only []; cases Nat.beq u t <;> cases ok <;> rfl
theorem bDY (x : aZ) (ρ : Tr DV) (rd : Rd) : cM (.mv x) ρ rd = (some (ev ρ x) : Option DV).map .val := rfl
theorem aZg (t : Nat) (x : aZ) (ρ : Tr DV) (rd : Rd) : cM (.mkI t x) ρ rd = (some (.ifc t (ev ρ x)) : Option DV).map .val := rfl
theorem aZh (f : Fn) (a c : List aZ) (ρ : Tr DV) (rd : Rd) : cM (.mkF f a c) ρ rd = (some (.fn f (a.map (ev ρ)) (c.map (ev ρ))) : Option DV).map .val := rfl
theorem aTH (n : Nat) (ρ : Tr DV) (rd : Rd) : cM (.lenA n) ρ rd = (some (.int .i64 (.ofNat n)) : Option DV).map .val := rfl
theorem aFf {d : vD} (hd : aNy d = false) (ρ : Tr DV) (rd : Rd) : cM d ρ rd = (dV d (reg ρ) rd).map .val := by
 cases d
 · cases hd
 · rw [aZc]; simp only [dV, bBn, cG]
 · rw [aZi]; simp only [dV, bBt, cG]
 · rw [aYY]; simp only [dV, bBk, cG]
 · rw [bDY]; simp only [dV, g_mv, cG]
 · rw [aTD]; simp only [dV, aTa, cG]
 · rw [aZt]; simp only [dV, bBE, cG]
 · rw [aZq]; simp only [dV, bBB, cG]
 · rw [aZr]; simp only [dV, bBC, cG]
 · rw [aZe]; simp only [dV, bBp, cG]
 · rw [aZf]; simp only [dV, bBq, cG]
 · rw [aTI]; simp only [dV, aTf, cG]
 · rw [aTC]; simp only [dV, aSZ, cG]
 · rw [aZu]; simp only [dV, bBF, cG]
 · rw [aZg]; simp only [dV, bBr, cG]
 · rw [aZh]; simp only [dV, bBs, cG]
 · rw [bEa]; simp only [dV, g_ld, cG]
 · rw [aZj]; simp only [dV, bBu, cG]
 · rw [aLr]; simp only [dV, aIN, cG]
 · rw [bEb]; simp only [dV, g_fa, cG]
 · rw [aZo]; simp only [dV, bBz, cG]
 · rw [aZn]; simp only [dV, bBy, cG]
 · rw [aZm]; simp only [dV, bBx, cG]
 · rw [aZl]; simp only [dV, bBw, cG]
 · rw [aZk]; simp only [dV, bBv, cG]
 · rw [aYX]; simp only [dV, bBj, cG]
 · rw [aYZ]; simp only [dV, bBl, cG]
 · rw [aZa]; simp only [dV, bBm, cG]
 · rw [aZp]; simp only [dV, bBA, cG]
 · rw [aTE]; simp only [dV, aTb, cG]
 · rw [aTG]; simp only [dV, aTd, cG]
 · rw [aTF]; simp only [dV, aTc, cG]
 · rw [aTJ]; simp only [dV, aTg, cG]
 · rw [aZd]; simp only [dV, bBo, cG]
 · rw [aTH]; simp only [dV, aTe, cG]
 · rw [bDZ]; simp only [dV, g_mn, cG]
 · rw [bDX]; simp only [dV, g_mx, cG]
 · rw [aZs]; simp only [dV, bBD, cG]
 · rw [aYW]; simp only [dV, bBi, cG]
 · cases hd
 · cases hd
 · cases hd
 · cases hd
 · cases hd
 · cases hd
section
variable {R : Type}
theorem aSC {d : vD} (hd : aNy d = false) (σ : Rg) (h : H) (k : DV -> H -> Option R) : aYA d σ h k = vK (dV d σ h.get) λ v => k v h := by
 cases d <;> first | (cases hd; done) | rfl
theorem aYz (E : bH) (d : vD) (ρ : Tr DV) (h : H) (k : DV -> H -> Option R) : aYA d (reg ρ) h k = (odo E (.e d) ρ h).bind λ x => k x.1 x.2 := by
 cases hd : aNy d with
 | false =>
   rw [aSC hd]; simp only [odo, nX]; rw [aFf hd]; cases dV d (reg ρ) h.get <;> rfl
 | true =>
   simp only [odo, nX]; cases d <;> first | (cases hd; done) | skip
   · rfl
   · rename_i n es z; simp only [cM, H.pushK_eq, Option.bind_some]; show jG n es z h k = _; simp only [jG, H.pushK_eq]
   · rename_i x; simp only [cM, H.pushK_eq, aR, Option.bind_some]; show dJ (e2 (reg ρ) x) h k = _; simp only [dJ, H.pushK_eq, aR, cG]
   · rename_i n es zero parts; show eM n es zero (parts.map λ p => (p.1, p.2.1, e2 (reg ρ) p.2.2)) h k = _
     simp only [cM, eM, cG]; cases fW (iR zero n) (parts.map λ p => (p.1, p.2.1, ev ρ p.2.2)) with
     | none => rfl
     | some cs => simp only [Option.bind_some, Option.map_some, H.pushK_eq]
   · rename_i es bytes zero l c; show kI es bytes zero (e2 (reg ρ) l) (e2 (reg ρ) c) h k = _; simp only [cM, kI, cG]; generalize ev ρ l = l'; generalize ev ρ c = c'; cases l' <;> try rfl
     rename_i k1 n1; cases n1 <;> try rfl
     rename_i n1; cases c' <;> try rfl
     rename_i k2 n2; cases n2 <;> try rfl
     rename_i n2; simp only []; cases (Nat.ble n1 n2 && Nat.blt (bytes * n2) 140737488355328 && Nat.blt n2 140737488355328) with
     | false => rfl
     | true => simp only [cond_true, H.pushK_eq, Option.bind_some]
   · simp only [cM, H.pushK_eq, Option.bind_some]; show aBk h k = _; simp only [aBk, H.pushK_eq]
   · rename_i x; show aSK (e2 (reg ρ) x) h k = _; simp only [cM, aSK, cG]; generalize ev ρ x = x'; cases x' <;> try rfl
     simp only [aR, H.pushK_eq, Option.bind_some]
end
end Go.DI
namespace Go.DI
open Go.RowKit
def lU (E : bH) (f : DV) (args : List DV) (h : H) : Option (DV × H) := match f with
 | .fn (.func g) first captured => aC E g (first ++ args ++ captured) h
 | _ => none
def aJz (E : bH) (tbl : List (Nat × Nat)) (x : DV) (args : List DV) (h : H) : Option (DV × H) := match x with
 | .ifc t v => match aQP t tbl with
   | some f => aC E f (v :: args) h
   | none => none
 | _ => none
def yV (dst : Option Pa) (v : DV) (σ : Rg) : Rg := Option.rec (motive := λ _ => Rg) σ (λ p => aRe p v σ) dst
section
variable {R : Type}
def odoW (d : WOp) : Rg -> H -> (DV -> H -> Option R) -> Option R :=
 WOp.rec (motive := λ _ => Rg -> H -> (DV -> H -> Option R) -> Option R)
   (λ n a x σ h k => wK (eK n (e2 σ a) (e2 σ x) h) k)
   (λ es bytes x y σ h k => wK (cT es bytes (e2 σ x) (e2 σ y) h) k)
   (λ es x y σ h k => wK (lC es (e2 σ x) (e2 σ y) h) k)
   (λ kt x q y σ h k => wK (aBE kt (e2 σ x) (e2 σ q) (e2 σ y) h) k)
   (λ zs x σ h k => wK (uO zs (e2 σ x) h) k)
   (λ x σ h k => wK (lS (e2 σ x) h) k)
   (λ es bytes zs x y σ h k => wK (aEn es bytes zs (e2 σ x) (e2 σ y) h) k)
   (λ x σ h k => wK (aTS (e2 σ x) h) k)
   (λ x σ h k => wK (aTX (e2 σ x) h) k)
   (λ kt x q σ h k => wK (aJm kt (e2 σ x) (e2 σ q) h) k)
   (λ kt z x q σ h k => wK (wF kt z (e2 σ x) (e2 σ q) h) k)
   (λ x q y σ h k => wK (aJh (e2 σ x) (e2 σ q) (e2 σ y) h) k) d
def odoC (E : bH) (d : COp) : Rg -> H -> (DV -> H -> Option R) -> Option R :=
 COp.rec (motive := λ _ => Rg -> H -> (DV -> H -> Option R) -> Option R)
   (λ f args σ h k => wK (aC E f (args.map (e2 σ)) h) k)
   (λ f args σ h k => wK (lU E (e2 σ f) (args.map (e2 σ)) h) k)
   (λ tbl x args σ h k => wK (aJz E tbl (e2 σ x) (args.map (e2 σ)) h) k) d
def aSD (E : bH) (d : DOp) : Rg -> H -> (DV -> H -> Option R) -> Option R :=
 DOp.rec (motive := λ _ => Rg -> H -> (DV -> H -> Option R) -> Option R) aYA odoW (odoC E) d
def aQ (c : DV) (t : Bool) (op : (DV -> H -> Option R) -> Option R) (h : H) (k : DV -> H -> Option R) : Option R := gK c t (op k) (k (.tup []) h)
def aLm (E : bH) (g : DG) (σ : Rg) (h : H) (k : Rg -> H -> Option R) : Option R :=
 Option.rec (motive := λ _ => Option R) (aSD E g.op σ h λ v h => k (yV g.dst v σ) h)
   (λ x => aQ (σ x.1) x.2 (λ kk => aSD E g.op σ h kk) h λ v h => k (yV g.dst v σ) h) g.guard
def yY (E : bH) (l : List DG) : Rg -> H -> (Rg -> H -> Option R) -> Option R :=
 List.rec (motive := λ _ => Rg -> H -> (Rg -> H -> Option R) -> Option R) (λ σ h k => k σ h) (λ g _ ih σ h k => aLm E g σ h λ σ h => ih σ h k) l
def gB (c : DV) (t : Bool) (x : Bool) : Bool := match c with
 | .bool c => Bool.rec (Bool.rec x true t) (Bool.rec true x t) c
 | _ => true
def aYq (d : DOp) (dst : Option Pa) (σ : Rg) (h : H) : Bool :=
 DOp.rec (motive := λ _ => Bool) (λ e => Option.rec (motive := λ _ => Bool) false (λ p => rcK (dV e σ h.get) (σ p)) dst) (λ _ => false) (λ _ => false) d
def oH (g : DG) (σ : Rg) (h : H) : Bool :=
 Option.rec (motive := λ _ => Bool) (aYq g.op g.dst σ h) (λ x => gB (σ x.1) x.2 (aYq g.op g.dst σ h)) g.guard
def rK (b : Bool) (x : Option R) : Option R := Bool.rec none x b
def reK (pre : List DR) (σ : Rg) (h : H) (x : Option R) (l : Ln) : Option R :=
 List.rec (motive := λ _ => Option R) x (λ q _ ih => rK (Option.rec (motive := λ _ => Bool) false (λ g => oH g σ h) (qZ q pre)) ih) l
def aLl (E : bH) (l : List DR) : List DR -> Rg -> H -> (Rg -> H -> Option R) -> Option R :=
 List.rec (motive := λ _ => List DR -> Rg -> H -> (Rg -> H -> Option R) -> Option R) (λ _ σ h k => k σ h)
   (λ x _ ih pre σ h k => aLm E x.g σ h λ σ h => reK pre σ h (ih (x :: pre) σ h k) x.re) l
abbrev iL (R : Type) := DX -> Rg -> H -> Option R
def aAk (k : Rg -> H -> Option R) (K : iL R) : iL R := λ x σ h =>
 DX.rec (motive := λ _ => Option R) (k σ h) (λ id => K (.exit id) σ h) (K .ret σ h) x
def aNY (id : Nat) (K : iL R) : iL R := λ x σ h =>
 DX.rec (motive := λ _ => Option R) (K .normal σ h) (λ i => Bool.rec (K (.exit i) σ h) (K .normal σ h) (Nat.beq i id)) (K .ret σ h) x
def aNb (K : iL R) : iL R := λ x σ h =>
 DX.rec (motive := λ _ => Option R) (K .normal σ h) (λ i => Bool.rec none (K (.exit i) σ h) (Nat.blt i 4294967296)) (K .ret σ h) x
def xK (g : Nat) (k : Rg -> H -> Option R) (K : iL R) : iL R := λ x σ h =>
 DX.rec (motive := λ _ => Option R) (K .normal σ h) (λ i => Bool.rec (Bool.rec none (K (.exit i) σ h) (Nat.blt i 4294967296)) (k σ h) (Nat.beq i g)) (K .ret σ h) x
def qD (body : Rg -> H -> iL R -> Option R) (g : Nat) (K : iL R) (n : Nat) : Rg -> H -> Option R :=
 Nat.rec (motive := λ _ => Rg -> H -> Option R) (λ _ _ => none) (λ _ ih σ h => body σ h (xK g ih K)) n
def uI (body : Rg -> H -> iL R -> Option R) (K : iL R) (n : Nat) : Rg -> H -> Option R :=
 Nat.rec (motive := λ _ => Rg -> H -> Option R) (λ _ _ => none) (λ _ ih σ h => body σ h (aAk ih K)) n
def bBH (p : Pa) (K : iL R) : iL R := λ x σ h => aKZ (σ p) h λ h => K x σ h
def jU [Agr R] (E : bH) (c : DC) : Rg -> H -> iL R -> Option R :=
 DC.rec (motive := λ _ => Rg -> H -> iL R -> Option R)
   (λ σ h K => K .normal σ h)
   (λ l σ h K => yY E l σ h λ σ h => K .normal σ h)
   (λ _ _ ia ib σ h K => ia σ h (aAk (λ σ h => ib σ h K) K))
   (λ c _ _ ia ib σ h K => bK (e2 σ c) (ia σ h K) (ib σ h K))
   (λ id _ ia σ h K => ia σ h (aNY id K))
   (λ _ ia σ h K => uI ia K aT σ h)
   (λ id σ h K => K (.exit id) σ h)
   (λ σ h K => K .ret σ h)
   (λ _ ia σ h K => ia σ h (aNb K))
   (λ l σ h K => aLl E l [] σ h λ σ h => K .normal σ h)
   (λ _ _ _ => none)
   (λ g _ _ ia ir σ h K => ia σ h (xK g (qD ir g K aT) K))
   (λ p x l σ h K => aQK (e2 σ x) h λ v h => yY E l (aRe p v σ) h λ σ h => K .normal σ h)
   (λ _ p _ ia σ h K => ia σ h (bBH p K)) c
end
def rv2 (σ : Rg) (h : H) (r : RV) (k : DV -> Option (DV × H)) : Option (DV × H) :=
 RV.rec (motive := λ _ => Option (DV × H)) (λ p => k (σ p)) (λ p => vK (aO h.get (σ p)) k) (λ p n => vK (dD n h.get (σ p)) k) r
def aSl (σ : Rg) (h : H) (l : List RV) : (List DV -> Option (DV × H)) -> Option (DV × H) :=
 List.rec (motive := λ _ => (List DV -> Option (DV × H)) -> Option (DV × H)) (λ k => k []) (λ r _ ih k => rv2 σ h r λ v => ih λ vs => k (v :: vs)) l
def aNm (res : List RV) : iL (DV × H) := λ x σ h =>
 DX.rec (motive := λ _ => Option (DV × H)) (aSl σ h res λ vs => some (iV vs, h)) (λ _ => none) (aSl σ h res λ vs => some (iV vs, h)) x
def aKJ (E : bH) (d : DF) : bQ := λ args h => Bool.rec none (jU E d.body (reg (Tr.ofL args)) h (aNm d.res)) (Nat.beq args.length d.np)
section
variable {R : Type} {E : bH} {ρ : Tr DV}
theorem aNt (d : DOp) (ρ : Tr DV) (h : H) (k : DV -> H -> Option R) : aSD E d (reg ρ) h k = (odo E d ρ h).bind λ x => k x.1 x.2 := by
 cases d with
 | e d => exact aYz E d ρ h k
 | w d =>
   rw [<- bAK]; cases d <;> (show wK _ k = wK _ k; simp only [odo, wdo, cG, mS, iX, aRq])
 | c d =>
   rw [<- bAK]; cases d with
   | f f args => show wK (aC E f (args.map (e2 (reg ρ))) h) k = wK (aC E f (args.map (ev ρ)) h) k; rw [cG]
   | v f args => show wK (lU E (e2 (reg ρ) f) (args.map (e2 (reg ρ))) h) k = wK (lU E (ev ρ f) (args.map (ev ρ)) h) k; rw [cG]
   | m tbl x args => show wK (aJz E tbl (e2 (reg ρ) x) (args.map (e2 (reg ρ))) h) k = wK (aJz E tbl (ev ρ x) (args.map (ev ρ)) h) k; rw [cG]
theorem aSs (dst : Option Pa) (v : DV) (ρ : Tr DV) : reg (qS dst v ρ) = yV dst v (reg ρ) := by
 cases dst with
 | none => rfl
 | some p => exact aNo ρ p v
theorem bLa (p : Pa) (t : Bool) (a b : Option R) : gK (reg ρ p) t a b = bif cU ρ (some (p, t)) then a else b := by
 show gK (ev ρ (.r p)) t a b = _; unfold cU; simp only []; generalize ev ρ (.r p) = x; cases x <;> try rfl
 rename_i c; cases c <;> cases t <;> rfl
theorem bLb (p : Pa) (t : Bool) (x : Bool) : gB (reg ρ p) t x = bif cU ρ (some (p, t)) then x else true := by
 show gB (ev ρ (.r p)) t x = _; unfold cU; simp only []; generalize ev ρ (.r p) = y; cases y <;> try rfl
 rename_i c; cases c <;> cases t <;> rfl
theorem aFc (g : DG) (h : H) (k : Tr DV -> H -> Option R) (k2 : Rg -> H -> Option R) (hk : ∀ ρ h, k ρ h = k2 (reg ρ) h) : dR E g ρ h k = aLm E g (reg ρ) h k2 := by
 obtain ⟨dst, guard, op⟩ := g; unfold dR; simp only [kT, hk, aSs]; cases guard with
 | none =>
   show (odo E op ρ h).bind (λ x => k2 (yV dst x.1 (reg ρ)) x.2) = aSD E op (reg ρ) h λ v h => k2 (yV dst v (reg ρ)) h
   rw [aNt]
 | some x =>
   obtain ⟨p, t⟩ := x; show _ = gK (reg ρ p) t (aSD E op (reg ρ) h λ v h => k2 (yV dst v (reg ρ)) h) (k2 (yV dst (.tup []) (reg ρ)) h)
   rw [bLa, aNt]
theorem xL : ∀ (l : List DG) (ρ : Tr DV) (h : H) (k : Tr DV -> H -> Option R) (k2 : Rg -> H -> Option R), (∀ ρ h, k ρ h = k2 (reg ρ) h) -> eH E l ρ h k = yY E l (reg ρ) h k2
 | [], ρ, h, k, k2, hk => hk ρ h
 | g :: l, ρ, h, k, k2, hk => aFc g h _ (λ σ h => yY E l σ h k2) λ ρ h => xL l ρ h k k2 hk
theorem aYp (g : DG) (h : H) : lM g ρ h = oH g (reg ρ) h := by
 obtain ⟨dst, guard, op⟩ := g; have key : (match op, dst with
     | .e d, some p => match cM d ρ h.get with
       | some (.val v) => kG v (ev ρ (.r p))
       | _ => false
     | _, _ => false) = aYq op dst (reg ρ) h := by
   cases op with
   | w d => rfl
   | c d => rfl
   | e d =>
     cases dst with
     | none => rfl
     | some p =>
       show _ = rcK (dV d (reg ρ) h.get) (reg ρ p); simp only []; cases hd : aNy d with
       | false =>
         rw [aFf hd]; cases dV d (reg ρ) h.get <;> rfl
       | true =>
         have e1 : dV d (reg ρ) h.get = none := by cases d <;> first | (cases hd; done) | rfl
         rw [e1]; show _ = false; split
         · rename_i v hv
           exfalso
           cases d <;> first | (cases hd; done) | skip
           · cases hv
           · cases hv
           · simp only [cM, aR] at hv; cases hv
           · rename_i a b c d; simp only [cM] at hv; cases hq : fW (iR c a) (d.map λ p => (p.1, p.2.1, ev ρ p.2.2)) with
             | none => rw [hq] at hv; cases hv
             | some cs => rw [hq] at hv; cases hv
           · simp only [cM] at hv; split at hv
             · obtain ⟨_, hv⟩ := aM hv; cases hv
             · cases hv
           · cases hv
           · simp only [cM, aR] at hv; split at hv <;> cases hv
         · rfl
 unfold lM oH; cases guard with
 | none => exact key
 | some x =>
   obtain ⟨p, t⟩ := x; show _ = gB (reg ρ p) t (aYq op dst (reg ρ) h); rw [bLb, <- key]
   rfl
theorem aSu (pre : List DR) (h : H) (x : Option R) : ∀ l : Ln, (bif l.all (eE pre ρ h) then x else none) = reK pre (reg ρ) h x l
 | [] => rfl
 | q :: l => by
   show _ = rK (Option.rec (motive := λ _ => Bool) false (λ g => oH g (reg ρ) h) (qZ q pre)) (reK pre (reg ρ) h x l)
   rw [<- aSu pre h x l]; have e : eE pre ρ h q = Option.rec (motive := λ _ => Bool) false (λ g => oH g (reg ρ) h) (qZ q pre) := by
     unfold eE; cases qZ q pre with
     | none => rfl
     | some g => exact aYp g h
   rw [<- e, List.all_cons]; cases eE pre ρ h q <;> rfl
theorem aFa : ∀ (l pre : List DR) (ρ : Tr DV) (h : H) (k : Tr DV -> H -> Option R) (k2 : Rg -> H -> Option R), (∀ ρ h, k ρ h = k2 (reg ρ) h) -> dX E l pre ρ h k = aLl E l pre (reg ρ) h k2
 | [], pre, ρ, h, k, k2, hk => hk ρ h
 | x :: l, pre, ρ, h, k, k2, hk => by
   refine aFc x.g h (λ ρ h => bif x.re.all (eE pre ρ h) then dX E l (x :: pre) ρ h k else none) (λ σ h => reK pre σ h (aLl E l (x :: pre) σ h k2) x.re) λ ρ h => ?_
   rw [<- aFa l (x :: pre) ρ h k k2 hk]; exact aSu pre h _ x.re
theorem aTq [Agr R] : ∀ (d : DC) (ρ : Tr DV) (h : H) (K : KT R) (K2 : iL R), (∀ x ρ h, K x ρ h = K2 x (reg ρ) h) -> mY E d ρ h K = jU E d (reg ρ) h K2 := by
 intro d
 induction d with
 | skip => intro ρ h K K2 hk; exact hk .normal ρ h
 | reg l => intro ρ h K K2 hk; exact xL l ρ h _ _ λ ρ h => hk .normal ρ h
 | seq a b iha ihb =>
   intro ρ h K K2 hk; refine iha ρ h _ (aAk (λ σ h => jU E b σ h K2) K2) λ x ρ h => ?_
   cases x with
   | normal => exact ihb ρ h K K2 hk
   | exit i => exact hk (.exit i) ρ h
   | ret => exact hk .ret ρ h
 | cond c a b iha ihb =>
   intro ρ h K K2 hk; show tU c a b (mY E a) (mY E b) ρ h K = bK (e2 (DI.reg ρ) c) (jU E a (DI.reg ρ) h K2) (jU E b (DI.reg ρ) h K2); rw [<- iha ρ h K K2 hk, <- ihb ρ h K K2 hk, aLs]; unfold tU bK; cases ev ρ c <;> try rfl
   rename_i t; cases t <;> rfl
 | block id a iha =>
   intro ρ h K K2 hk; refine iha ρ h _ (aNY id K2) λ x ρ h => ?_
   cases x with
   | normal => exact hk .normal ρ h
   | exit i =>
     show (bif Nat.beq i id then K .normal ρ h else K (.exit i) ρ h) = Bool.rec (K2 (.exit i) (DI.reg ρ) h) (K2 .normal (DI.reg ρ) h) (Nat.beq i id); cases Nat.beq i id
     · exact hk (.exit i) ρ h
     · exact hk .normal ρ h
   | ret => exact hk .ret ρ h
 | loop a iha =>
   intro ρ h K K2 hk; show aEP (mY E a) K aT ρ h = uI (jU E a) K2 aT (DI.reg ρ) h; generalize aT = n
   induction n generalizing ρ h with
   | zero => rfl
   | succ n ih =>
     refine iha ρ h _ (aAk (uI (jU E a) K2 n) K2) λ x ρ h => ?_
     cases x with
     | normal => exact ih ρ h
     | exit i => exact hk (.exit i) ρ h
     | ret => exact hk .ret ρ h
 | exit id => intro ρ h K K2 hk; exact hk (.exit id) ρ h
 | ret => intro ρ h K K2 hk; exact hk .ret ρ h
 | scope a iha =>
   intro ρ h K K2 hk; refine iha ρ h _ (aNb K2) λ x ρ h => ?_
   cases x with
   | normal => exact hk .normal ρ h
   | exit i =>
     show (bif Nat.blt i 4294967296 then K (.exit i) ρ h else none) = Bool.rec none (K2 (.exit i) (DI.reg ρ) h) (Nat.blt i 4294967296); cases Nat.blt i 4294967296
     · rfl
     · exact hk (.exit i) ρ h
   | ret => exact hk .ret ρ h
 | jump g a r iha ihr =>
   intro ρ h K K2 hk; have jk : ∀ (k : Tr DV -> H -> Option R) (k2 : Rg -> H -> Option R), (∀ ρ h, k ρ h = k2 (DI.reg ρ) h) -> ∀ x ρ h, aCM g k K x ρ h = xK g k2 K2 x (DI.reg ρ) h := by
     intro k k2 hkk x ρ h; cases x with
     | normal => exact hk .normal ρ h
     | exit i =>
       show (bif Nat.beq i g then k ρ h else bif Nat.blt i 4294967296 then K (.exit i) ρ h else none) = Bool.rec (Bool.rec none (K2 (.exit i) (DI.reg ρ) h) (Nat.blt i 4294967296)) (k2 (DI.reg ρ) h) (Nat.beq i g); cases Nat.beq i g
       · cases Nat.blt i 4294967296
         · rfl
         · exact hk (.exit i) ρ h
       · exact hkk ρ h
     | ret => exact hk .ret ρ h
   have key : ∀ n ρ h, aBo (mY E r) g K n ρ h = qD (jU E r) g K2 n (DI.reg ρ) h := by
     intro n
     induction n with
     | zero => intro ρ h; rfl
     | succ n ih => intro ρ h; exact ihr ρ h _ (xK g (qD (jU E r) g K2 n) K2) (jk _ _ ih)
   exact iha ρ h _ (xK g (qD (jU E r) g K2 aT) K2) (jk _ _ (key aT))
 | drg l => intro ρ h K K2 hk; exact aFa l [] ρ h _ _ λ ρ h => hk .normal ρ h
 | bad => intro ρ h K K2 hk; rfl
 | nxt p x l =>
   intro ρ h K K2 hk; show aHN E p x l ρ h K = aQK (e2 (DI.reg ρ) x) h λ v h => yY E l (aRe p v (DI.reg ρ)) h λ σ h => K2 .normal σ h
   unfold aHN; rw [aLs]
   congr 1
   funext v h
   rw [kT, <- aNo]; exact xL l _ h _ _ λ ρ h => hk .normal ρ h
 | fin t p a iha =>
   intro ρ h K K2 hk; refine iha ρ h _ (bBH p K2) λ x ρ h => ?_
   show aKZ (ev ρ (.r p)) h (λ h => K x ρ h) = aKZ (DI.reg ρ p) h λ h => K2 x (DI.reg ρ) h
   congr 1
   funext h
   exact hk x ρ h
theorem aNe (h : H) : ∀ (l : List RV) (k : List DV -> Option (DV × H)), aSl (reg ρ) h l k = (eS ρ h l).bind k
 | [], k => rfl
 | r :: l, k => by
   show rv2 (reg ρ) h r (λ v => aSl (reg ρ) h l λ vs => k (v :: vs)) = _
   simp only [aNe h l]; have e : ∀ q : DV -> Option (DV × H), rv2 (reg ρ) h r q = (tN ρ h r).bind q := by
     intro q; cases r with
     | r p => rfl
     | cell p =>
       show vK (aO h.get (ev ρ (.r p))) q = _; rw [bAL]; simp only [tN, aO, cE]; generalize ev ρ (.r p) = y; cases y <;> rfl
     | cells p n =>
       show vK (dD n h.get (ev ρ (.r p))) q = _; rw [bAL]; simp only [tN, dD, bT]; generalize ev ρ (.r p) = y; cases y <;> rfl
   rw [e]; simp only [eS]; cases tN ρ h r with
   | none => rfl
   | some v =>
     simp only [Option.bind_some]; cases eS ρ h l <;> rfl
theorem aQC (E : bH) (d : DF) (args : List DV) (h : H) : jF E d args h = aKJ E d args h := by
 unfold jF aKJ; cases Nat.beq args.length d.np with
 | false => rfl
 | true =>
   show mY E d.body (Tr.ofL args) h (aYo d.res) = jU E d.body (reg (Tr.ofL args)) h (aNm d.res); refine aTq d.body _ h _ _ λ x ρ h => ?_
   have e : ((eS ρ h d.res).map λ vs => (iV vs, h)) = aSl (reg ρ) h d.res λ vs => some (iV vs, h) := by
     rw [aNe]; cases eS ρ h d.res <;> rfl
   cases x with
   | normal => exact e
   | exit i => rfl
   | ret => exact e
end
section
variable {R : Type}
abbrev bJZ (d : WOp) : Rg -> H -> (DV -> H -> Option R) -> Option R :=
 WOp.rec (motive := λ _ => Rg -> H -> (DV -> H -> Option R) -> Option R)
   (λ n a x σ h k => wK (eK n (e2 σ a) (e2 σ x) h) k)
   (λ es bytes x y σ h k => wK (cT es bytes (e2 σ x) (e2 σ y) h) k)
   (λ es x y σ h k => wK (lC es (e2 σ x) (e2 σ y) h) k)
   (λ kt x q y σ h k => wK (aBE kt (e2 σ x) (e2 σ q) (e2 σ y) h) k)
   (λ zs x σ h k => wK (uO zs (e2 σ x) h) k)
   (λ x σ h k => wK (lS (e2 σ x) h) k)
   (λ es bytes zs x y σ h k => wK (aEn es bytes zs (e2 σ x) (e2 σ y) h) k)
   (λ x σ h k => wK (aTS (e2 σ x) h) k)
   (λ x σ h k => wK (aTX (e2 σ x) h) k)
   (λ kt x q σ h k => wK (aJm kt (e2 σ x) (e2 σ q) h) k)
   (λ kt z x q σ h k => wK (wF kt z (e2 σ x) (e2 σ q) h) k)
   (λ x q y σ h k => wK (aJh (e2 σ x) (e2 σ q) (e2 σ y) h) k) d
abbrev bKa (E : bH) (d : COp) : Rg -> H -> (DV -> H -> Option R) -> Option R :=
 COp.rec (motive := λ _ => Rg -> H -> (DV -> H -> Option R) -> Option R)
   (λ f args σ h k => wK (aC E f (args.map (e2 σ)) h) k)
   (λ f args σ h k => wK (lU E (e2 σ f) (args.map (e2 σ)) h) k)
   (λ tbl x args σ h k => wK (aJz E tbl (e2 σ x) (args.map (e2 σ)) h) k) d
abbrev odo3 (E : bH) (d : DOp) : Rg -> H -> (DV -> H -> Option R) -> Option R :=
 DOp.rec (motive := λ _ => Rg -> H -> (DV -> H -> Option R) -> Option R) aYA bJZ (bKa E) d
abbrev aTo (E : bH) (g : DG) (σ : Rg) (h : H) (k : Rg -> H -> Option R) : Option R :=
 Option.rec (motive := λ _ => Option R) (odo3 E g.op σ h λ v h => k (yV g.dst v σ) h)
   (λ x => aQ (σ x.1) x.2 (λ kk => odo3 E g.op σ h kk) h λ v h => k (yV g.dst v σ) h) g.guard
abbrev aNG (E : bH) (l : List DG) : Rg -> H -> (Rg -> H -> Option R) -> Option R :=
 List.rec (motive := λ _ => Rg -> H -> (Rg -> H -> Option R) -> Option R) (λ σ h k => k σ h) (λ g _ ih σ h k => aTo E g σ h λ σ h => ih σ h k) l
abbrev reK3 (pre : List DR) (σ : Rg) (h : H) (x : Option R) (l : Ln) : Option R :=
 List.rec (motive := λ _ => Option R) x (λ q _ ih => rK (Option.rec (motive := λ _ => Bool) false (λ g => oH g σ h) (qZ q pre)) ih) l
abbrev bDM (E : bH) (l : List DR) : List DR -> Rg -> H -> (Rg -> H -> Option R) -> Option R :=
 List.rec (motive := λ _ => List DR -> Rg -> H -> (Rg -> H -> Option R) -> Option R) (λ _ σ h k => k σ h)
   (λ x _ ih pre σ h k => aTo E x.g σ h λ σ h => reK3 pre σ h (ih (x :: pre) σ h k) x.re) l
abbrev cK (k : Rg -> H -> Option R) (K : iL R) : iL R := λ x σ h =>
 DX.rec (motive := λ _ => Option R) (k σ h) (λ id => K (.exit id) σ h) (K .ret σ h) x
abbrev bZ (id : Nat) (K : iL R) : iL R := λ x σ h =>
 DX.rec (motive := λ _ => Option R) (K .normal σ h) (λ i => Bool.rec (K (.exit i) σ h) (K .normal σ h) (Nat.beq i id)) (K .ret σ h) x
abbrev yJ (K : iL R) : iL R := λ x σ h =>
 DX.rec (motive := λ _ => Option R) (K .normal σ h) (λ i => Bool.rec none (K (.exit i) σ h) (Nat.blt i 4294967296)) (K .ret σ h) x
abbrev sK (g : Nat) (k : Rg -> H -> Option R) (K : iL R) : iL R := λ x σ h =>
 DX.rec (motive := λ _ => Option R) (K .normal σ h) (λ i => Bool.rec (Bool.rec none (K (.exit i) σ h) (Nat.blt i 4294967296)) (k σ h) (Nat.beq i g)) (K .ret σ h) x
abbrev bLi (p : Pa) (K : iL R) : iL R := λ x σ h => aKZ (σ p) h λ h => K x σ h
abbrev jH [Agr R] (E : bH) (c : DC) : Rg -> H -> iL R -> Option R :=
 DC.rec (motive := λ _ => Rg -> H -> iL R -> Option R)
   (λ σ h K => K .normal σ h)
   (λ l σ h K => aNG E l σ h λ σ h => K .normal σ h)
   (λ _ _ ia ib σ h K => ia σ h (cK (λ σ h => ib σ h K) K))
   (λ c _ _ ia ib σ h K => bK (e2 σ c) (ia σ h K) (ib σ h K))
   (λ id _ ia σ h K => ia σ h (bZ id K))
   (λ _ ia σ h K => uI ia K aT σ h)
   (λ id σ h K => K (.exit id) σ h)
   (λ σ h K => K .ret σ h)
   (λ _ ia σ h K => ia σ h (yJ K))
   (λ l σ h K => bDM E l [] σ h λ σ h => K .normal σ h)
   (λ _ _ _ => none)
   (λ g _ _ ia ir σ h K => ia σ h (sK g (qD ir g K aT) K))
   (λ p x l σ h K => aQK (e2 σ x) h λ v h => aNG E l (aRe p v σ) h λ σ h => K .normal σ h)
   (λ _ p _ ia σ h K => ia σ h (bLi p K)) c
end
abbrev rv3 (σ : Rg) (h : H) (r : RV) (k : DV -> Option (DV × H)) : Option (DV × H) :=
 RV.rec (motive := λ _ => Option (DV × H)) (λ p => k (σ p)) (λ p => vK (aO h.get (σ p)) k) (λ p n => vK (dD n h.get (σ p)) k) r
abbrev rvs3 (σ : Rg) (h : H) (l : List RV) : (List DV -> Option (DV × H)) -> Option (DV × H) :=
 List.rec (motive := λ _ => (List DV -> Option (DV × H)) -> Option (DV × H)) (λ k => k []) (λ r _ ih k => rv3 σ h r λ v => ih λ vs => k (v :: vs)) l
abbrev bV (res : List RV) : iL (DV × H) := λ x σ h =>
 DX.rec (motive := λ _ => Option (DV × H)) (rvs3 σ h res λ vs => some (iV vs, h)) (λ _ => none) (rvs3 σ h res λ vs => some (iV vs, h)) x
theorem aTp {R : Type} [Agr R] (E : bH) (c : DC) (σ : Rg) (h : H) (K : iL R) : jH E c σ h K = jU E c σ h K := by
 induction c generalizing σ h K with
 | skip => rfl
 | reg l => rfl
 | seq a b iha ihb =>
   show jH E a σ h (cK (λ σ h => jH E b σ h K) K) = jU E a σ h (aAk (λ σ h => jU E b σ h K) K)
   rw [iha, show (λ σ h => jH E b σ h K) = λ σ h => jU E b σ h K from funext λ σ => funext λ h => ihb σ h K]
   rfl
 | cond c a b iha ihb =>
   show bK (e2 σ c) (jH E a σ h K) (jH E b σ h K) = bK (e2 σ c) (jU E a σ h K) (jU E b σ h K); rw [iha, ihb]
 | block id a iha => exact iha σ h _
 | loop a iha =>
   have e : jH (R := R) E a = jU E a := funext λ σ => funext λ h => funext λ K => iha σ h K
   show uI (jH E a) K aT σ h = uI (jU E a) K aT σ h; rw [e]
 | exit id => rfl
 | ret => rfl
 | scope a iha => exact iha σ h _
 | drg l => rfl
 | bad => rfl
 | nxt p x l => rfl
 | fin t p a iha => exact iha σ h _
 | jump g a r iha ihr =>
   have e : jH (R := R) E r = jU E r := funext λ σ => funext λ h => funext λ K => ihr σ h K
   show jH E a σ h (sK g (qD (jH E r) g K aT) K) = jU E a σ h (xK g (qD (jU E r) g K aT) K); rw [e, iha]; rfl
def Is {R : Type} [Agr R] (E : bH) (c : DC) (K : iL R) (S : Rg -> H -> Option R) : Prop := ∀ σ h, jH E c σ h K = S σ h
section
variable {R : Type} [Agr R] {E : bH} {K : iL R}
theorem Is.leaf (c : DC) : Is E c K λ σ h => jH E c σ h K := λ _ _ => rfl
theorem Is.seq {a b : DC} {Sa Sb : Rg -> H -> Option R} (hb : Is E b K Sb) (ha : Is E a (cK Sb K) Sa) : Is E (.seq a b) K Sa := λ σ h => by
 have e : (λ σ h => jH E b σ h K) = Sb := funext λ σ => funext λ h => hb σ h
 show jH E a σ h (cK (λ σ h => jH E b σ h K) K) = _
 rw [e]; exact ha σ h
theorem Is.block {id : Nat} {a : DC} {Sa : Rg -> H -> Option R} (ha : Is E a (bZ id K) Sa) : Is E (.block id a) K Sa := ha
theorem Is.scope {a : DC} {Sa : Rg -> H -> Option R} (ha : Is E a (yJ K) Sa) : Is E (.scope a) K Sa := ha
theorem Is.jump {g : Nat} {a r : DC} {Sa : Rg -> H -> Option R} (S : Nat -> Rg -> H -> Option R) (h0 : S 0 = λ _ _ => none) (hs : ∀ n, Is E r (sK g (S n) K) (S (n + 1))) (ha : Is E a (sK g (S aT) K) Sa) : Is E (.jump g a r) K Sa := by
 have key : ∀ n, qD (jH E r) g K n = S n := by
   intro n
   induction n with
   | zero => exact h0.symm
   | succ n ih =>
     funext σ h
     show jH E r σ h (xK g (qD (jH E r) g K n) K) = _; rw [ih]; exact hs n σ h
 intro σ h; show jH E a σ h (sK g (qD (jH E r) g K aT) K) = _; rw [key aT]; exact ha σ h
theorem Is.loop {a : DC} (S : Nat -> Rg -> H -> Option R) (h0 : S 0 = λ _ _ => none) (hs : ∀ n, Is E a (cK (S n) K) (S (n + 1))) : Is E (.loop a) K (S aT) := by
 have key : ∀ n, uI (jH E a) K n = S n := by
   intro n
   induction n with
   | zero => exact h0.symm
   | succ n ih =>
     funext σ h
     show jH E a σ h (aAk (uI (jH E a) K n) K) = _; rw [ih]; exact hs n σ h
 exact λ σ h => congrFun (congrFun (key aT) σ) h
theorem Is.as {c : DC} {S T : Rg -> H -> Option R} (h : Is E c K S) (e : ∀ σ m, S σ m = T σ m) : Is E c K T := λ σ m => (h σ m).trans (e σ m)
end
end Go.DI
namespace Go.DI
open Go.RowKit
def a0 {R : Type} (args : List DV) (x : Option R) : Option R := List.rec (motive := λ _ => Option R) x (λ _ _ _ => none) args
def aS {R : Type} (args : List DV) (k : DV -> List DV -> Option R) : Option R := List.rec (motive := λ _ => Option R) none (λ v vs _ => k v vs) args
abbrev aV := Option (DV × H)
theorem Is.fn {E : bH} {d : DF} {S : Rg -> H -> aV} (h : Is E d.body (bV d.res) S) {np : Nat} (hn : d.np = np) (F : bQ) (hF : ∀ args h, args.length = np -> S (reg (Tr.ofL args)) h = F args h) (h0 : ∀ args h, args.length ≠ np -> F args h = none) (args : List DV) (m : H) : jF E d args m = F args m := by
 rw [aQC]; unfold aKJ; have e0 : ∀ σ m, jU E d.body σ m (aNm d.res) = S σ m := λ σ m => (aTp E d.body σ m (aNm d.res)).symm.trans (h σ m)
 subst hn; by_cases e : args.length = d.np
 · rw [e, Nat.beq_refl]; exact (e0 _ m).trans (hF args m e)
 · have : Nat.beq args.length d.np = false := by
     cases hb : Nat.beq args.length d.np
     · rfl
     · exact absurd (Nat.eq_of_beq_eq_true hb) e
   rw [this]; exact (h0 args m e).symm
theorem Is.fn0 {E : bH} {d : DF} {S : Rg -> H -> aV} (h : Is E d.body (bV d.res) S) (hn : d.np = 0) (J : H -> aV) (e : ∀ h, S (reg (Tr.ofL [])) h = J h) (args : List DV) (m : H) : jF E d args m = a0 args (J m) :=
 h.fn hn (λ args h => a0 args (J h)) (λ args h hl => by
   match args, hl with
   | [], _ => exact e h) (λ args h hl => by
   match args, hl with
   | [], hl => exact absurd rfl hl
   | _ :: _, _ => rfl) args m
theorem Is.fn1 {E : bH} {d : DF} {S : Rg -> H -> aV} (h : Is E d.body (bV d.res) S) (hn : d.np = 1) (J : DV -> H -> aV) (e : ∀ r0 h, S (reg (Tr.ofL [r0])) h = J r0 h) (args : List DV) (m : H) : jF E d args m = (λ args h => aS args λ r0 args => a0 args (J r0 h)) args m :=
 h.fn hn (λ args h => aS args λ r0 args => a0 args (J r0 h)) (λ args h hl => by
   match args, hl with
   | [r0], _ => exact e r0 h) (λ args h hl => by
   match args, hl with
   | [], _ => rfl
   | [r0], hl => exact absurd rfl hl
   | _ :: _ :: _, _ => rfl) args m
theorem Is.fn2 {E : bH} {d : DF} {S : Rg -> H -> aV} (h : Is E d.body (bV d.res) S) (hn : d.np = 2) (J : DV -> DV -> H -> aV) (e : ∀ r0 r1 h, S (reg (Tr.ofL [r0, r1])) h = J r0 r1 h) (args : List DV) (m : H) : jF E d args m = (λ args h => aS args λ r0 args => aS args λ r1 args => a0 args (J r0 r1 h)) args m :=
 h.fn hn (λ args h => aS args λ r0 args => aS args λ r1 args => a0 args (J r0 r1 h)) (λ args h hl => by
   match args, hl with
   | [r0, r1], _ => exact e r0 r1 h) (λ args h hl => by
   match args, hl with
   | [], _ => rfl
   | [_], _ => rfl
   | [r0, r1], hl => exact absurd rfl hl
   | _ :: _ :: _ :: _, _ => rfl) args m
theorem Is.fn3 {E : bH} {d : DF} {S : Rg -> H -> aV} (h : Is E d.body (bV d.res) S) (hn : d.np = 3) (J : DV -> DV -> DV -> H -> aV) (e : ∀ r0 r1 r2 h, S (reg (Tr.ofL [r0, r1, r2])) h = J r0 r1 r2 h) (args : List DV) (m : H) : jF E d args m = (λ args h => aS args λ r0 args => aS args λ r1 args => aS args λ r2 args => a0 args (J r0 r1 r2 h)) args m :=
 h.fn hn (λ args h => aS args λ r0 args => aS args λ r1 args => aS args λ r2 args => a0 args (J r0 r1 r2 h)) (λ args h hl => by
   match args, hl with
   | [r0, r1, r2], _ => exact e r0 r1 r2 h) (λ args h hl => by
   match args, hl with
   | [], _ => rfl
   | [_], _ => rfl
   | [_, _], _ => rfl
   | [r0, r1, r2], hl => exact absurd rfl hl
   | _ :: _ :: _ :: _ :: _, _ => rfl) args m
theorem Is.fn4 {E : bH} {d : DF} {S : Rg -> H -> aV} (h : Is E d.body (bV d.res) S) (hn : d.np = 4) (J : DV -> DV -> DV -> DV -> H -> aV) (e : ∀ r0 r1 r2 r3 h, S (reg (Tr.ofL [r0, r1, r2, r3])) h = J r0 r1 r2 r3 h) (args : List DV) (m : H) : jF E d args m = (λ args h => aS args λ r0 args => aS args λ r1 args => aS args λ r2 args => aS args λ r3 args => a0 args (J r0 r1 r2 r3 h)) args m :=
 h.fn hn (λ args h => aS args λ r0 args => aS args λ r1 args => aS args λ r2 args => aS args λ r3 args => a0 args (J r0 r1 r2 r3 h)) (λ args h hl => by
   match args, hl with
   | [r0, r1, r2, r3], _ => exact e r0 r1 r2 r3 h) (λ args h hl => by
   match args, hl with
   | [], _ => rfl
   | [_], _ => rfl
   | [_, _], _ => rfl
   | [_, _, _], _ => rfl
   | [r0, r1, r2, r3], hl => exact absurd rfl hl
   | _ :: _ :: _ :: _ :: _ :: _, _ => rfl) args m
theorem Is.fn5 {E : bH} {d : DF} {S : Rg -> H -> aV} (h : Is E d.body (bV d.res) S) (hn : d.np = 5) (J : DV -> DV -> DV -> DV -> DV -> H -> aV) (e : ∀ r0 r1 r2 r3 r4 h, S (reg (Tr.ofL [r0, r1, r2, r3, r4])) h = J r0 r1 r2 r3 r4 h) (args : List DV) (m : H) : jF E d args m = (λ args h => aS args λ r0 args => aS args λ r1 args => aS args λ r2 args => aS args λ r3 args => aS args λ r4 args => a0 args (J r0 r1 r2 r3 r4 h)) args m :=
 h.fn hn (λ args h => aS args λ r0 args => aS args λ r1 args => aS args λ r2 args => aS args λ r3 args => aS args λ r4 args => a0 args (J r0 r1 r2 r3 r4 h)) (λ args h hl => by
   match args, hl with
   | [r0, r1, r2, r3, r4], _ => exact e r0 r1 r2 r3 r4 h) (λ args h hl => by
   match args, hl with
   | [], _ => rfl
   | [_], _ => rfl
   | [_, _], _ => rfl
   | [_, _, _], _ => rfl
   | [_, _, _, _], _ => rfl
   | [r0, r1, r2, r3, r4], hl => exact absurd rfl hl
   | _ :: _ :: _ :: _ :: _ :: _ :: _, _ => rfl) args m
structure FD where
 f : Nat
 d : DF
 s : bH -> bQ
def rJ : List FD -> Prop
 | [] => True
 | x :: l => (∀ E args h, jF E x.d args h = x.s E args h) /\ rJ l
theorem rJ.mem : ∀ {l : List FD}, rJ l -> ∀ x ∈ l, ∀ E args h, jF E x.d args h = x.s E args h
 | y :: l, h, x, hx => by
   rcases List.mem_cons.1 hx with rfl | hx
   · exact h.1
   · exact h.2.mem x hx
theorem rJ.append : ∀ {l m : List FD}, rJ l -> rJ m -> rJ (l ++ m)
 | [], _, _, h => h
 | _ :: _, _, h, k => ⟨h.1, h.2.append k⟩
def nQ (P : Program) (l : List FD) : Bool := l.all λ x => aJw P x.f x.d
theorem zO {P : Program} {l m : List FD} (h : nQ P l = true) (k : nQ P m = true) : nQ P (l ++ m) = true := by
 unfold nQ at *; rw [List.all_append, h, k]; rfl
def aCB : List FD -> Tr (bH -> bQ) -> Tr (bH -> bQ)
 | [], t => t
 | x :: l, t => aCB l (Tr.set x.s (Pa.of x.f) t)
theorem aGd : ∀ (l : List FD) (t : Tr (bH -> bQ)) (f : Nat) (s : bH -> bQ), (aCB l t).at_ f = some s -> t.at_ f = some s \/ ∃ x ∈ l, x.f = f /\ x.s = s
 | [], t, f, d, h => .inl h
 | x :: l, t, f, d, h => by
   rcases aGd l _ f d h with h | ⟨y, hy, h⟩
   · have := Tr.at_put t x.f f x.s; unfold Tr.put at this; rw [this] at h; split at h
     · rename_i hh; cases h; exact .inr ⟨x, by simp, hh.symm, rfl⟩
     · exact .inl h
   · exact .inr ⟨y, List.mem_cons_of_mem _ hy, h⟩
def SE (B : bH) (T : Tr (bH -> bQ)) (n : Nat) : bH := Nat.rec (motive := λ _ => bH) (λ _ => none) (λ _ ih f =>
 Option.rec (motive := λ _ => Option bQ) (Option.rec (motive := λ _ => Option bQ) none (λ s => some (s ih)) (T.at_ f)) some (B f)) n
structure aJM (P : Program) (T : Tr (bH -> bQ)) : Prop where
 ok : ∀ f s, T.at_ f = some s -> iG P f = true /\ ∀ E, gT P E -> gJ P f (s E)
theorem bJU {P : Program} {l : List FD} {T : Tr (bH -> bQ)} (hT : aCB l .e = T) (hc : nQ P l = true) (he : rJ l) : aJM P T := by
 refine ⟨λ f s h => ?_⟩
 rw [<- hT] at h; rcases aGd l _ f s h with h | ⟨x, hx, rfl, rfl⟩
 · rw [Tr.at_e] at h; cases h
 · have hk := List.all_eq_true.1 hc x hx; refine ⟨aJy hk, λ E hE => ?_⟩
   have e : x.s E = jF E x.d := funext λ args => funext λ h => (he.mem x hx E args h).symm
   rw [e]; exact aTh hE hk
theorem aUw {P : Program} {B : bH} {T : Tr (bH -> bQ)} (hB : gT P B) (hT : aJM P T) : ∀ n, gT P (SE B T n)
 | 0 => λ f F hF => by cases hF
 | n + 1 => λ f F hF => by
   replace hF : Option.rec (motive := λ _ => Option bQ) (Option.rec (motive := λ _ => Option bQ) none (λ s => some (s (SE B T n))) (T.at_ f)) some (B f) = some F := hF
   cases hb : B f with
   | some G => rw [hb] at hF; cases hF; exact hB f F hb
   | none =>
     rw [hb] at hF; cases hs : T.at_ f with
     | none => rw [hs] at hF; cases hF
     | some s =>
       rw [hs] at hF; cases hF; exact ⟨(hT.ok f s hs).1, (hT.ok f s hs).2 _ (aUw hB hT n)⟩
theorem calls_true2 {P : Program} {B : bH} {T : Tr (bH -> bQ)} {f : FuncId} {s : bH -> bQ} (hB : gT P B) (hT : aJM P T) (hf : T.at_ f = some s) {n : Nat} {args : List DV} {args' : List Value} (hargs : trs (λ _ => none) args = some args')
   (hrun : (s (SE B T n) args H0).map (·.1) = some (.bool true)) (w : World) (hg : aWZ w := by first | assumption | exact λ _ h => by cases h) :
   Calls P f args'.toArray w λ e w' => e = .returned (.bool true) /\ Below w.heap.size w w' := by
 cases hr : s (SE B T n) args H0 with
 | none => rw [hr] at hrun; cases hrun
 | some r =>
   obtain ⟨v, h'⟩ := r; rw [hr] at hrun; simp only [Option.map_some, Option.some.injEq] at hrun; subst hrun; refine ((hT.ok f s hf).2 _ (aUw hB hT n) w.heap.size w _ H0 w args args' _ h' hr hargs (bU.start w hg)).mono λ e w' hh => ?_
   obtain ⟨m', v', rfl, h2, h3, h4⟩ := hh; rw [iZ h2]; exact ⟨rfl, h3.below⟩
end Go.DI
namespace Go.DI
open Go.RowKit
section
variable {R : Type}
@[simp] theorem aA (v : DV) (k : DV -> Option R) : vK (some v) k = k v := id rfl
@[simp] theorem bRY (k : DV -> Option R) : vK none k = none := id rfl
@[simp] theorem aY (v : DV) (h : H) (k : DV -> H -> Option R) : wK (some (v, h)) k = k v h := id rfl
@[simp] theorem bRX (k : DV -> H -> Option R) : wK none k = none := id rfl
@[simp] theorem cY (a b : Option R) : bK (.bool true) a b = a := id rfl
@[simp] theorem bB (a b : Option R) : bK (.bool false) a b = b := id rfl
@[simp] theorem aNq (a : Option R) : rK true a = a := id rfl
@[simp] theorem bSy (v : DV) (vs : List DV) (k : DV -> List DV -> Option R) : aS (v :: vs) k = k v vs := id rfl
@[simp] theorem aS_nil (k : DV -> List DV -> Option R) : aS [] k = none := id rfl
@[simp] theorem a0_nil (x : Option R) : a0 [] x = x := id rfl
@[simp] theorem bSz (v : DV) (vs : List DV) (x : Option R) : a0 (v :: vs) x = none := id rfl
end
theorem dL {a b : Nat} (h : a < b) : Nat.blt a b = true := by rw [Nat.blt_eq]; exact h
theorem aU {E : bH} {f : Nat} {F : bQ} (h : E f = some F) (args : List DV) (m : H) : aC E f args m = F args m := by unfold aC; rw [h]
theorem gQ (k : IntKind) : kEq k k = true := by cases k <;> rfl
theorem qQ (k : IntKind) (a b : Int) : cF (.int k a) (.int k b) = some (.int k (k.wrap (a + b))) := by
 show (bif kEq k k then aOm k a b else none) = _; rw [gQ]; show iP k (aSW a b) = _; rw [aGm, gR]
theorem aAd (k : IntKind) (a b : Int) : jD (.int k a) (.int k b) = some (.int k (k.wrap (a - b))) := by
 show (bif kEq k k then aOb k a b else none) = _; rw [gQ]; show iP k (a - b) = _; rw [gR]
theorem jI (k : IntKind) (a b : Int) : bY (.int k a) (.int k b) = some (.bool (decide (a < b))) := by
 show (bif kEq k k then aOg k a b else none) = _; rw [gQ]; show eI (iLt a b) = _; rw [fG, mE]
theorem aAg (k : IntKind) (a b : Int) : dW (.int k a) (.int k b) = some (.bool (decide (b < a))) := by
 show (bif kEq k k then aOi k a b else none) = _; rw [gQ]; show eI (iLt b a) = _; rw [fG, mE]
theorem aAi (k : IntKind) (a b : Nat) (ha : a < 2 ^ k.bits) (hb : b < 2 ^ k.bits) : qP (.int k (.ofNat a)) (.int k (.ofNat b)) = some (.int k (k.wrap (.ofNat (a &&& b)))) := by
 show (bif kEq k k then aNC k (.ofNat a) (.ofNat b) else none) = _; rw [gQ]; show (bif Nat.blt a (2 ^ k.bits) && Nat.blt b (2 ^ k.bits) then iP k (.ofNat (Nat.land a b)) else _) = _; rw [dL ha, dL hb]; exact gR _ _
theorem lE (k : IntKind) (a b : Nat) (ha : a < 2 ^ k.bits) (hb : b < 2 ^ k.bits) : pK (.int k (.ofNat a)) (.int k (.ofNat b)) = some (.int k (k.wrap (.ofNat (a ^^^ b)))) := by
 show (bif kEq k k then aIW k (.ofNat a) (.ofNat b) else none) = _; rw [gQ]; show (bif Nat.blt a (2 ^ k.bits) && Nat.blt b (2 ^ k.bits) then iP k (.ofNat (Nat.xor a b)) else _) = _; rw [dL ha, dL hb]; exact gR _ _
theorem qO (k k' : IntKind) (a b : Nat) (hb : b <= k.bits) : lI (.int k (.ofNat a)) (.int k' (.ofNat b)) = some (.int k (.ofNat (a / 2 ^ b))) := by
 show mI .shr k (.ofNat a) (.ofNat b) = _; unfold mI; rw [show iLt (.ofNat b) 0 = false from by rw [mE]; simp]
 simp only [cond_false, lR]; rw [show min (Int.ofNat b).toNat k.bits = b from by simp [Nat.min_eq_left hb]]
 congr 2
 show Int.fdiv (a : Int) (2 ^ b) = ((a / 2 ^ b : Nat) : Int); rw [Int.fdiv_eq_ediv_of_nonneg _ (by exact_mod_cast Nat.zero_le _)]
 simp
theorem gF (k k' : IntKind) (a : Int) : cS k (.int k' a) = some (.int k (k.wrap a)) := gR _ _
theorem dF (s : Ln) : eQ (.str s) = some (.int .i64 (.ofNat s.length)) := by
 simp only [eQ, aR]
theorem lZ {s : Ln} {i b : Nat} (h : s[i]? = some b) (k : IntKind) : oL (.str s) (.int k (.ofNat i)) = some (.int .u8 (.ofNat b)) := by
 have hi : i < s.length := by
   rcases Nat.lt_or_ge i s.length with h1 | h1
   · exact h1
   · rw [List.getElem?_eq_none h1] at h; cases h
 simp only [oL, nM]; rw [dL hi, h]; rfl
theorem wrap_u32 {n : Nat} (h : n < 4294967296) : IntKind.u32.wrap (.ofNat n) = .ofNat n := by
 rw [IntKind.wrap_u32]; simp only [Int.ofNat_eq_natCast]; omega
theorem wrap_i64 {n : Nat} (h : n < 9223372036854775808) : IntKind.i64.wrap (.ofNat n) = .ofNat n := by
 rw [pJ] <;> simp only [Int.ofNat_eq_natCast] <;> omega
def jA (c : Nat) : Nat := Nat.xor (Nat.div c 2) (bif Nat.beq (Nat.mod c 2) 0 then 0 else 3988292384)
def kK : Nat -> Nat -> Nat
 | 0, c => c
 | k + 1, c => kK k (jA c)
def aYh (c : Nat) : Nat := cW (jA c) λ c => cW (jA c) λ c => cW (jA c) λ c => cW (jA c) λ c => cW (jA c) λ c => cW (jA c) λ c => cW (jA c) λ c => jA c
theorem aYg (c : Nat) : aYh c = kK 8 c := by
 unfold aYh; simp only [aR]
 rfl
theorem rO {c : Nat} (h : c < 4294967296) : jA c < 4294967296 := by
 show (c / 2) ^^^ (bif Nat.beq (c % 2) 0 then 0 else 3988292384) < 4294967296; have h1 : c / 2 < 2 ^ 32 := by omega
 have h2 : (bif Nat.beq (c % 2) 0 then 0 else 3988292384) < 2 ^ 32 := by cases Nat.beq (c % 2) 0 <;> decide
 exact Nat.xor_lt_two_pow h1 h2
theorem aAV : ∀ (k c : Nat), c < 4294967296 -> kK k c < 4294967296
 | 0, c, h => h
 | k + 1, c, h => aAV k _ (rO h)
@[simp] theorem jT {R : Type} (op : (DV -> H -> Option R) -> Option R) (h : H) (k : DV -> H -> Option R) : aQ (.bool false) false op h k = op k := id rfl
@[simp] theorem sP {R : Type} (op : (DV -> H -> Option R) -> Option R) (h : H) (k : DV -> H -> Option R) : aQ (.bool true) true op h k = op k := id rfl
@[simp] theorem aAx {R : Type} (op : (DV -> H -> Option R) -> Option R) (h : H) (k : DV -> H -> Option R) : aQ (.bool true) false op h k = k (.tup []) h := id rfl
@[simp] theorem aGn {R : Type} (op : (DV -> H -> Option R) -> Option R) (h : H) (k : DV -> H -> Option R) : aQ (.bool false) true op h k = k (.tup []) h := id rfl
@[simp] theorem gZ (a b : DV) : aN (.bool true) a b = some a := id rfl
@[simp] theorem eL (a b : DV) : aN (.bool false) a b = some b := id rfl
theorem gE (b : Bool) : eT (.bool b) = some (.bool (!b)) := fG _
theorem vF (k : IntKind) (a b : Int) : dQ (.int k a) (.int k b) = some (.bool (a != b)) := by
 show (bif kEq k k then aOe k a b else none) = _; rw [gQ]; show eI (!iEq a b) = _; rw [fG, mF]; rfl
theorem oG (k : IntKind) (a b : Int) : cR (.int k a) (.int k b) = some (.bool (a == b)) := by
 show (bif kEq k k then aOk k a b else none) = _; rw [gQ]; show eI (iEq a b) = _; rw [fG, mF]
theorem lY (k : IntKind) (a b : Int) : jM (.int k a) (.int k b) = some (.int k (k.wrap (a * b))) := by
 show (bif kEq k k then aOf k a b else none) = _; rw [gQ]; show iP k (a * b) = _; rw [gR]
def iH (b : Nat) : DV := .int .u8 (.ofNat b)
def bC (s : Ln) : List DV := s.map iH
theorem nA : ∀ {s : Ln}, aW s = true -> jN (bC s) = some s
 | [], _ => rfl
 | b :: s, h => by
   simp only [aW, Bool.and_eq_true, Nat.blt_eq] at h; have hb : xS (iH b) = some b := by
     show (bif Nat.blt b 256 then some b else none) = some b; rw [dL h.1]; rfl
   show (match xS (iH b), jN (bC s) with
     | some b, some bs => some (b :: bs)
     | _, _ => none) = _
   rw [hb, nA h.2]
theorem wT (s : Ln) : (bC s).all DV.one = true := by
 rw [List.all_eq_true]; intro x hx; obtain ⟨b, _, rfl⟩ := List.mem_map.1 hx
 rfl
theorem mB {rd : Rd} {b : Nat} : ∀ (vs : List DV) (j : Nat), (∀ i v, vs[i]? = some v -> rdCell rd b (j + i) = some v) -> rdCells rd b j vs.length = some vs
 | [], j, _ => rfl
 | v :: vs, j, h => by
   simp only [List.length_cons, rdCells]; have h0 := h 0 v rfl; rw [Nat.add_zero] at h0; rw [h0, mB vs (j + 1) (λ i u hi => by rw [show j + 1 + i = j + (i + 1) from by omega]; exact h (i + 1) u hi)]
theorem aBd {rd : Rd} {b : Nat} : ∀ {n j : Nat} {vs : List DV}, rdCells rd b j n = some vs -> vs.length = n /\ ∀ i v, vs[i]? = some v -> rdCell rd b (j + i) = some v
 | 0, j, vs, h => by
   simp only [rdCells, Option.some.injEq] at h; subst h; exact ⟨rfl, λ i v hi => by simp at hi⟩
 | n + 1, j, vs, h => by
   simp only [rdCells] at h; split at h
   · rename_i v us h1 h2; cases h; obtain ⟨hl, hg⟩ := aBd h2; refine ⟨by simp [hl], λ i u hi => ?_⟩
     cases i with
     | zero => simp at hi; subst hi; exact h1
     | succ i => simp at hi; rw [show j + (i + 1) = j + 1 + i from by omega]; exact hg i u hi
   · cases h
theorem pW {h : H} {b o : Nat} {B : Blk} {vs : List DV} (hg : h.get b = some (.blk B)) (hr : B.ro = false) (hl : o + vs.length <= B.n) (h1 : vs.all DV.one = true) :
   ∃ h' t', eZ vs h b o = some h' /\ h'.size = h.size /\ (∀ c, c ≠ b -> h'.get c = h.get c) /\ h'.get b = some (.blk { B with t := t' }) /\ ∀ j, t'.at_ j = if o <= j /\ j < o + vs.length then vs[j - o]? else B.t.at_ j := by
 cases vs with
 | nil => exact ⟨h, B.t, rfl, rfl, λ _ _ => rfl, hg, λ j => by rw [if_neg (by simp only [List.length_nil]; omega)]⟩
 | cons v vs =>
   refine ⟨_, aIb (v :: vs) o B.t, by rw [aAB (v :: vs) h b o B hg (by simp), if_pos ⟨by simp [hr], hl, h1⟩], by simp, λ c hc => by rw [H.get_put, if_neg hc], by rw [H.get_put, if_pos rfl], λ j => ?_⟩
   rw [aAo, Tr.at_ofF]
theorem rX {rd : Rd} {b j : Nat} {B : Blk} (h : rd b = some (.blk B)) (hj : j < B.n) : rdCell rd b j = B.t.at_ j := by
 unfold rdCell; rw [h]; simp only []; rw [if_pos hj]
theorem pS {rd rd' : Rd} {b j : Nat} (h : rd' b = rd b) : rdCell rd' b j = rdCell rd b j := by unfold rdCell; rw [h]
theorem gJ.or {P : Program} {f : FuncId} {F G : bQ} (hF : gJ P f F) (hG : gJ P f G) : gJ P f λ args h => Option.rec (motive := λ _ => Option (DV × H)) (G args h) some (F args h) := by
 intro N0 w0 m h w args args' v h' hr ht hw; cases hf : F args h with
 | some r =>
   have hr' : some r = some (v, h') := by rw [<- hr]; show _ = Option.rec (motive := λ _ => Option (DV × H)) (G args h) some (F args h); rw [hf]
   cases hr'; exact hF N0 w0 m h w args args' v h' hf ht hw
 | none =>
   have hr' : G args h = some (v, h') := by rw [<- hr]; show _ = Option.rec (motive := λ _ => Option (DV × H)) (G args h) some (F args h); rw [hf]
   exact hG N0 w0 m h w args args' v h' hr' ht hw
def aGg (s : Ln) : Bool := List.rec (motive := λ _ => Bool) true (λ b _ ih => bif Nat.blt b 256 then ih else false) s
theorem aAu : ∀ s, aGg s = aW s
 | [] => rfl
 | b :: s => by
   show (bif Nat.blt b 256 then aGg s else false) = (Nat.blt b 256 && aW s); rw [aAu s]; cases Nat.blt b 256 <;> rfl
def aRw {α : Type} (a b : List α) : List α := List.rec (motive := λ _ => List α) b (λ x _ ih => x :: ih) a
theorem aGJ {α : Type} : ∀ a b : List α, aRw a b = a ++ b
 | [], b => rfl
 | x :: a, b => congrArg (x :: ·) (aGJ a b)
def aLA (vs : List DV) : Option (Ln) := List.rec (motive := λ _ => Option (Ln)) (some []) (λ v _ ih => match v with
 | .str s => Option.rec (motive := λ _ => Option (Ln)) none (λ t => some (aRw s t)) ih
 | _ => none) vs
end Go.DI
namespace Go.DI
open Go.RowKit
def aGL (P : Program) (f : FuncId) (G : bQ) : Prop :=
 ∀ (N0 : Nat) (w0 : World) (m : Mp) (h : H) (w : World) (args : List DV) (args' : List Value) (v : DV) (h' : H), G args h = some (v, h') -> trs m args = some args' -> bU N0 w0 m h w ->
   Calls P f args'.toArray w λ e w' => ∃ m' v', e = .panicked [{ v := v', recovered := false }] /\ tr m' v = some v' /\ bU N0 w0 m' h' w' /\ gY m h m' h'
section
variable {P : Program} {N0 : Nat} {w0 : World} {E : bH}
theorem aCc {R : Type} {ops : Array Oper} {Q : Exit -> Act -> World -> Prop} {n : Nat} {ds : List Deferred} {res : R} (hE : gT P E) (tl : Ln) :
   ∀ (os : List Oper) (gs : List DG) (k : Nat), (∀ j, j < os.length -> os[j]? = ops[k + j]?) -> uR P n ops os gs = true ->
   ∀ (m : Mp) (ρ : Tr DV) (h : H) (a : Act) (w : World) (K : Tr DV -> H -> Option R), eH E gs ρ h K = some res -> eR m n ρ a -> bU N0 w0 m h w -> a.defers = ds ->
   (∀ ρ' h' m' a' w', gY m h m' h' -> eR m' n ρ' a' -> bU N0 w0 m' h' w' -> a'.defers = ds -> K ρ' h' = some res -> wpOps P ops Q tl a' w') ->
   wpOps P ops Q (List.range' k os.length ++ tl) a w := by
 intro os
 induction os with
 | nil =>
   intro gs k _ hc m ρ h a w K he hr hw hd hQ; cases gs with
   | nil => exact hQ ρ h m a w (gY.refl _ _) hr hw hd he
   | cons g gs => cases hc
 | cons o os ih =>
   intro gs k hk hc m ρ h a w K he hr hw hd hQ; cases gs with
   | nil => cases hc
   | cons g gs =>
     simp only [uR, Bool.and_eq_true] at hc; obtain ⟨hg, hc⟩ := hc; unfold aBF at hg; rw [Bool.and_eq_true, Bool.and_eq_true] at hg; obtain ⟨⟨hdst, hgd⟩, hop⟩ := hg; have ho : ops[k]? = some o := by have := hk 0 (by simp); simpa using this.symm
     have hk' : ∀ j, j < os.length -> os[j]? = ops[k + 1 + j]? := λ j hj => by
       have := hk (j + 1) (by simp only [List.length_cons]; omega)
       rw [show k + 1 + j = k + (j + 1) from by omega]
       simpa using this
     simp only [List.length_cons, List.range'_succ, List.cons_append, wpOps, ho]
     replace he : dR E g ρ h (λ ρ h => eH E gs ρ h K) = some res := he
     unfold dR at he; rw [aAc hr hgd]; cases hwt : cU ρ g.guard with
     | true =>
       rw [hwt] at he; simp only [cond_true] at he; simp only [if_true]; cases hod : odo E g.op ρ h with
       | none => rw [hod] at he; cases he
       | some x =>
         obtain ⟨v, h1⟩ := x; rw [hod] at he; simp only [Option.bind_some, kT] at he; refine .inl (aKS hE hop (hr.on _) hw hod λ m' w' v' e1 e2 e3 => ?_)
         exact ih gs (k + 1) hk' hc m' _ h1 _ w' K he ((hr.mono e3.le).put hdst e1) e2 (by rw [Act.put_defers']; exact hd)
           λ ρ' h' m'' a' w'' x1 x2 x3 x4 x5 => hQ ρ' h' m'' a' w'' (e3.trans x1) x2 x3 x4 x5
     | false =>
       rw [hwt] at he; simp only [cond_false, kT] at he; simp only [Bool.false_eq_true, if_false]; exact ih gs (k + 1) hk' hc m _ h _ w K he (hr.put hdst rfl) hw (by rw [Act.put_defers']; exact hd) hQ
inductive DP where
 | no
 | sl (p : DP)
 | sr (d : DC) (p : DP)
 | cd (c : aZ) (p q : DP)
 | pan (l : List DG) (x : aZ)
 | or (p q : DP)
def goN (E : bH) (d : DC) (ρ : Tr DV) (h : H) : Option (Tr DV × H) := mY E d ρ h λ x ρ h => DX.rec (motive := λ _ => Option (Tr DV × H)) (some (ρ, h)) (λ _ => none) none x
def kL (E : bH) (p : DP) : Tr DV -> H -> Option (DV × H) :=
 DP.rec (motive := λ _ => Tr DV -> H -> Option (DV × H)) (λ _ _ => none) (λ _ ih => ih) (λ d _ ih ρ h => (goN E d ρ h).bind λ x => ih x.1 x.2)
   (λ c _ _ ip iq ρ h => bK (ev ρ c) (ip ρ h) (iq ρ h)) (λ l x ρ h => eH E l ρ h λ ρ h => some (ev ρ x, h)) (λ _ _ ip iq ρ h => Option.rec (motive := λ _ => Option (DV × H)) (iq ρ h) some (ip ρ h)) p
def zN (P : Program) (n : Nat) (ops : Array Oper) : List Oper -> List DG -> aZ -> Bool
 | [o], [], x => (match o.op with
   | .panic y => aI y x
   | _ => false) && o.guard.isNone
 | o :: os, g :: gs, x => aBF P n ops o g && zN P n ops os gs x
 | _, _, _ => false
def aAE (P : Program) (n : Nat) : Code -> DP -> Bool
 | _, .no => true
 | .seq a b, .sl p => aAE P n a p
 | .seq a b, .sr d p => eF P n a d && aAE P n b p
 | .cond c a b, .cd x p q => aI c x && aAE P n a p && aAE P n b q
 | c, .or p q => aAE P n c p && aAE P n c q
 | .region _ ops draw, .pan l x => !draw && zN P n ops ops.toList l x
 | _, _ => false
theorem wS {n : Nat} {ops : Array Oper} {x : aZ} : ∀ {os : List Oper} {gs : List DG}, zN P n ops os gs x = true -> ∃ os' o y, os = os' ++ [o] /\ uR P n ops os' gs = true /\ o.op = .panic y /\ aI y x = true /\ o.guard = none
 | [], gs, h => by cases gs <;> cases h
 | [o], [], h => by
   simp only [zN, Bool.and_eq_true] at h; obtain ⟨h1, h2⟩ := h; split at h1
   · rename_i y hy; exact ⟨[], o, y, rfl, rfl, hy, h1, by simpa using h2⟩
   · cases h1
 | o :: o2 :: os, [], h => by cases h
 | o :: os, g :: gs, h => by
   have h' : (aBF P n ops o g && zN P n ops os gs x) = true := by cases os <;> exact h
   rw [Bool.and_eq_true] at h'; obtain ⟨os', o', y, h1, h2, h3⟩ := wS h'.2; exact ⟨o :: os', o', y, by rw [h1]; rfl, by simp only [uR, h'.1, h2, Bool.and_self], h3⟩
theorem aIq {n : Nat} {ds : List Deferred} {pv : DV} {hf : H} (hE : gT P E) : ∀ (p : DP) (c : Code), aAE P n c p = true ->
   ∀ (m : Mp) (ρ : Tr DV) (h : H) (a : Act) (w : World) (Q : Exit -> Act -> World -> Prop), kL E p ρ h = some (pv, hf) -> eR m n ρ a -> bU N0 w0 m h w -> a.defers = ds ->
   (∀ m' pv' a' w', gY m h m' hf -> tr m' pv = some pv' -> bU N0 w0 m' hf w' -> a'.defers = ds -> Q (.panic [{ v := pv', recovered := false }]) a' w') ->
   (∃ t v, pv = .ifc t v) -> c.wp P Q a w := by
 intro p
 induction p with
 | no => intro c hc m ρ h a w Q he; cases he
 | sl p ih =>
   intro c hc m ρ h a w Q he hr hw hd hQ hi; cases c <;> first | (cases hc; done) | skip
   rename_i c1 c2; exact wp_seq (ih c1 hc m ρ h a w _ he hr hw hd hQ hi)
 | sr d p ih =>
   intro c hc m ρ h a w Q he hr hw hd hQ hi; cases c <;> first | (cases hc; done) | skip
   rename_i c1 c2; simp only [aAE, Bool.and_eq_true] at hc
   replace he : (goN E d ρ h).bind (λ x => kL E p x.1 x.2) = some (pv, hf) := he
   cases hg : goN E d ρ h with
   | none => rw [hg] at he; cases he
   | some r =>
     obtain ⟨ρ1, h1⟩ := r; rw [hg] at he; simp only [Option.bind_some] at he; refine wp_seq (sQ hE d c1 hc.1 m ρ h a w _ _ hg hr hw hd λ x ρ' h' m' a' w' x1 x2 x3 x4 x5 => ?_)
     cases x with
     | normal =>
       have x5 : some (ρ', h') = some (ρ1, h1) := x5; cases x5; exact ih c2 hc.2 m' ρ1 h1 a' w' Q he x2 x3 x4 (λ m'' pv' a'' w'' y1 y2 y3 y4 => hQ m'' pv' a'' w'' (x1.trans y1) y2 y3 y4) hi
     | exit i => cases x5
     | ret => cases x5
 | cd x p q ihp ihq =>
   intro c hc m ρ h a w Q he hr hw hd hQ hi; cases c <;> first | (cases hc; done) | skip
   rename_i c0 c1 c2; simp only [aAE, Bool.and_eq_true] at hc
   replace he : bK (ev ρ x) (kL E p ρ h) (kL E q ρ h) = some (pv, hf) := he
   have hg := hr.on #[c0] c0 (by simp) x hc.1.1
   unfold bK at he; split at he
   · rename_i b hb; rw [hb] at hg; cases b
     · exact wp_cond_false (iZ hg) (ihq c2 hc.2 m ρ h a w Q he hr hw hd hQ hi)
     · exact wp_cond_true (iZ hg) (ihp c1 hc.1.2 m ρ h a w Q he hr hw hd hQ hi)
   · cases he
 | or p q ihp ihq =>
   intro c hc m ρ h a w Q he hr hw hd hQ hi; have hc' : (aAE P n c p && aAE P n c q) = true := by cases c <;> exact hc
   rw [Bool.and_eq_true] at hc'
   replace he : Option.rec (motive := λ _ => Option (DV × H)) (kL E q ρ h) some (kL E p ρ h) = some (pv, hf) := he
   cases hp : kL E p ρ h with
   | some r =>
     rw [hp] at he; have he : some r = some (pv, hf) := he; cases he; exact ihp c hc'.1 m ρ h a w Q hp hr hw hd hQ hi
   | none =>
     rw [hp] at he; exact ihq c hc'.2 m ρ h a w Q he hr hw hd hQ hi
 | pan l x =>
   intro c hc m ρ h a w Q he hr hw hd hQ hi; cases c <;> first | (cases hc; done) | skip
   rename_i id ops draw; simp only [aAE, Bool.and_eq_true, Bool.not_eq_true'] at hc; obtain ⟨rfl, hc⟩ := hc; obtain ⟨os, o, y, e1, e2, e3, e4, e5⟩ := wS hc; refine wp_region ?_; have hsz : ops.size = os.length + 1 := by rw [<- Array.length_toList, e1]; simp
   rw [hsz, List.range_eq_range', List.range'_concat]; have hget : ∀ j, ops[j]? = (os ++ [o])[j]? := λ j => by rw [<- e1, Array.getElem?_toList]
   have hlast : ops[os.length]? = some o := by rw [hget, List.getElem?_append_right (Nat.le_refl _)]; simp
   rw [show 0 + 1 * os.length = os.length from by omega]
   replace he : eH E l ρ h (λ ρ h => some (ev ρ x, h)) = some (pv, hf) := he
   refine aCc hE [os.length] os l 0 (λ j hj => by rw [Nat.zero_add, hget, List.getElem?_append_left (by simpa using hj)]) e2 m ρ h a w _ he hr hw hd λ ρ' h' m' a' w' x1 x2 x3 x4 x5 => ?_
   simp only [Option.some.injEq, Prod.mk.injEq] at x5; obtain ⟨x5, rfl⟩ := x5; have hv := x2.on #[y] y (by simp) x e4
   rw [x5] at hv; obtain ⟨t, v, rfl⟩ := hi; simp only [wpOps, hlast]; have hwant : Region.wanted o (yielded ops a'.tmps) = true := by unfold Region.wanted; rw [e5]
   rw [hwant]; simp only [if_true]; refine .inl ?_; simp only [tr] at hv; cases hvv : tr m' v with
   | none => rw [hvv] at hv; cases hv
   | some v' =>
     rw [hvv] at hv; have hy : a'.eval y = .iface t v' := (Option.some.inj hv).symm; have hrun : (execOp a'.eval o).run P w' = .halt (.panic (.iface t v')) w' := by
       unfold execOp; rw [e3]; simp only [hy]
       rfl
     unfold Oper.wp; rw [hrun]; exact hQ m' _ a' w' x1 (by simp only [tr, hvv]) x3 x4
end
end Go.DI
namespace Go.DI
open Go.RowKit
section
variable {P : Program} {N0 : Nat} {w0 : World} {E : bH}
structure PF where
 np : Nat
 n : Nat
 p : DP
def bBc : DV -> Bool
 | .ifc _ _ => true
 | _ => false
def bDi (E : bH) (d : PF) : bQ := λ args h => bif Nat.beq args.length d.np then (kL E d.p (Tr.ofL args) h).bind λ x => bif bBc x.1 then some x else none else none
def aUf (P : Program) (f : FuncId) (d : PF) : Bool := match P.funcs[f]? with
 | some fn => Nat.beq fn.ntmps d.n && Nat.ble d.np d.n && (match fn.body with
   | some c => aAE P d.n c d.p
   | none => false)
 | none => false
theorem xE {m : Mp} {args : List DV} {args' : List Value} {n nt : Nat} (hargs : trs m args = some args') (hl : args.length <= n) (hn : nt = n) :
   eR m n (Tr.ofL args) { tmps := args'.toArray ++ Array.replicate (nt - args'.toArray.size) undef, defers := [] } := by
 have hlen := cZ hargs; refine ⟨by simp; omega, λ t => ?_⟩
 show tr m (Option.rec (.tup []) (λ v => v) (Tr.get (Pa.of t) (Tr.ofL args))) = _
 rw [show Tr.get (Pa.of t) (Tr.ofL args) = (Tr.ofL args).at_ t from rfl, Tr.at_ofL]
 rw [Array.getD_eq_getD_getElem?]; by_cases ht : t < args.length
 · obtain ⟨u, h1, h2⟩ := iY hargs t _ (List.getElem?_eq_getElem ht); rw [List.getElem?_eq_getElem ht]; rw [Array.getElem?_append_left (by simp; omega)]
   simp only [List.getElem?_toArray, h1, Option.getD_some]; exact h2
 · rw [List.getElem?_eq_none (by omega)]
   rw [Array.getElem?_append_right (by simp; omega)]
   rw [Array.getElem?_replicate]; split <;> rfl
theorem aRg {f : FuncId} {d : PF} (hE : gT P E) (hc : aUf P f d = true) : aGL P f (bDi E d) := by
 intro N0 w0 m h w args args' v0 h' hrun hargs hw; unfold aUf at hc; cases hf : P.funcs[f]? with
 | none => rw [hf] at hc; cases hc
 | some fn =>
   rw [hf] at hc; simp only [Bool.and_eq_true] at hc; obtain ⟨⟨hn, hnp⟩, hbody⟩ := hc; cases hb : fn.body with
   | none => rw [hb] at hbody; cases hbody
   | some c =>
     rw [hb] at hbody; have hn := Nat.eq_of_beq_eq_true hn; have hnp := Nat.le_of_ble_eq_true hnp; unfold bDi at hrun; obtain ⟨hlen, hrun⟩ := aM hrun; have hlen := Nat.eq_of_beq_eq_true hlen; cases hp : kL E d.p (Tr.ofL args) h with
     | none => rw [hp] at hrun; cases hrun
     | some r =>
       rw [hp] at hrun; simp only [Option.bind_some] at hrun; obtain ⟨hi, hrun⟩ := aM hrun; cases hrun; refine calls_of_wp hf hb ?_; refine aIq (ds := []) hE d.p c hbody m _ h _ w _ hp (xE hargs (by omega) hn) hw rfl (λ m' pv' a' w' x1 x2 x3 x4 => ?_) ?_
       · exact ⟨x4, m', pv', rfl, x2, x3, x1⟩
       · cases v0 <;> first | (cases hi; done) | exact ⟨_, _, rfl⟩
section
variable {n : Nat} {ds : List Deferred} {ops : Array Oper} {m0 : Mp} {h0 : H} {σ pfx rest0 : List DR} {x : DR} {res : Tr DV × H} {Q : Exit -> Act -> World -> Prop}
theorem aCC (hσ0 : σ = pfx ++ x :: rest0) (S : wH P n ops σ) {pre rest : List DR} (hp : pfx = pre ++ rest) {kf : Nat -> Nat} {nw : Nat -> Bool} {listed : Array Bool} {m : Mp} {ρ : Tr DV} {h : H} {a : Act} {w : World}
   (I : zX N0 w0 n ds ops m0 h0 pre kf nw listed m ρ h a w) : listed.getD x.i false = false := by
 cases hl : listed.getD x.i false with
 | false => rfl
 | true =>
   obtain ⟨y, hy, he⟩ := I.lp _ hl; exact absurd he (S.pair pfx (x :: rest0) hσ0 y (by rw [hp]; exact List.mem_append_left _ hy) x (by simp)).1
theorem aSz (hσ0 : σ = pfx ++ x :: rest0) (hpe : ∀ y ∈ pfx, y.isW = false) (hxw : x.isW = true) (S : wH P n ops σ) (hre : ∀ x ∈ σ, x.isW = false -> x.re = [])
   (hP : ∀ kf nw listed m' ρ' h' a' w', zX N0 w0 n ds ops m0 h0 pfx kf nw listed m' ρ' h' a' w' -> (ρ', h') = res -> (∀ o, ops[x.i]? = some o -> ∀ d ∈ pG o, listed.getD d false = true) -> ∀ C, wpOp P ops Q x.i C a' w')
   {z : DR} (hz : z ∈ σ) {o : Oper} (ho : ops[z.i]? = some o) {listed : Array Bool} {a : Act} {w : World} (hun : listed.getD z.i false = false) (hr : ∀ d ∈ pG o, listed.getD d false = true) {C : Act -> World -> Prop}
   (hK : ∀ pre' rest' kf' nw' m' ρ' h' a' w', pfx = pre' ++ rest' -> zX N0 w0 n ds ops m0 h0 pre' kf' nw' (listed.setIfInBounds z.i true) m' ρ' h' a' w' -> dX E rest' pre'.reverse ρ' h' (λ ρ h => some (ρ, h)) = some res -> C a' w') :
   ∀ (rest pre : List DR) (kf : Nat -> Nat) (nw : Nat -> Bool) (m : Mp) (ρ : Tr DV) (h : H), pfx = pre ++ rest -> zX N0 w0 n ds ops m0 h0 pre kf nw listed m ρ h a w -> dX E rest pre.reverse ρ h (λ ρ h => some (ρ, h)) = some res -> wpOp P ops Q z.i C a w := by
 intro rest
 induction rest with
 | nil =>
   intro pre kf nw m ρ h hp I he; have hp' : pfx = pre := by rw [hp]; simp
   rw [hσ0] at hz; rcases List.mem_append.1 hz with hzp | hzr
   · rw [hp'] at hzp; exact I.ahead (rest := x :: rest0) (by rw [hσ0, hp']) S hzp ho hun hr λ m' a' w' I' => hK pre [] kf nw m' ρ h a' w' hp I' he
   · rcases List.mem_cons.1 hzr with rfl | hzr
     · have he : some (ρ, h) = some res := he; rw [<- hp'] at I; exact hP kf nw listed m ρ h a w I (Option.some.inj he) (λ o' ho' => by rw [ho] at ho'; cases ho'; exact hr) C
     · have hanc := (S.pair (pfx ++ [x]) rest0 (by rw [hσ0]; simp) x (by simp) z hzr).2.2.2.2.2.1 hxw
       have := pB I.cl hanc (λ o' ho' => by rw [ho] at ho'; cases ho'; exact hr)
       rw [aCC hσ0 S hp I] at this; cases this
 | cons y rest ih =>
   intro pre kf nw m ρ h hp I he; have hσ : σ = pre ++ y :: (rest ++ x :: rest0) := by rw [hσ0, hp]; simp
   have hyw : y.isW = false := hpe y (by rw [hp]; simp)
   have adv : wpOp P ops Q z.i C a w := by
     have he' : dR E y.g ρ h (λ ρ h => bif y.re.all (eE pre.reverse ρ h) then dX E rest (y :: pre.reverse) ρ h (λ ρ h => some (ρ, h)) else none) = some res := he
     obtain ⟨ρ', h', kf', nw', I', _, he'⟩ := I.eager hσ S hyw he'; rw [hre y (by rw [hσ]; simp) hyw] at he'
     refine ih (pre ++ [y]) kf' nw' m ρ' h' (by rw [hp]; simp) I' ?_
     rw [show (pre ++ [y]).reverse = y :: pre.reverse from by simp]
     simpa using he'
   have hz' := hz; rw [hσ] at hz'; rcases List.mem_append.1 hz' with hzp | _
   · exact I.ahead (rest := y :: (rest ++ x :: rest0)) hσ S hzp ho hun hr λ m' a' w' I' => hK pre (y :: rest) kf nw m' ρ h a' w' hp I' he
   · exact adv
theorem bDm (hσ0 : σ = pfx ++ x :: rest0) (hpe : ∀ y ∈ pfx, y.isW = false) (hxw : x.isW = true) (S : wH P n ops σ) (hre : ∀ x ∈ σ, x.isW = false -> x.re = [])
   (hP : ∀ kf nw listed m' ρ' h' a' w', zX N0 w0 n ds ops m0 h0 pfx kf nw listed m' ρ' h' a' w' -> (ρ', h') = res -> (∀ o, ops[x.i]? = some o -> ∀ d ∈ pG o, listed.getD d false = true) -> ∀ C, wpOp P ops Q x.i C a' w') :
   ∀ (fuel : Nat) (listed : Array Bool) (pre rest : List DR) (kf : Nat -> Nat) (nw : Nat -> Bool) (m : Mp) (ρ : Tr DV) (h : H) (a : Act) (w : World), left listed <= fuel -> pfx = pre ++ rest -> zX N0 w0 n ds ops m0 h0 pre kf nw listed m ρ h a w ->
   dX E rest pre.reverse ρ h (λ ρ h => some (ρ, h)) = some res -> wpAny P .any ops Q fuel listed a w := by
 have hxs : x.i < ops.size := by
   obtain ⟨o, ho, _⟩ := S.chk x (by rw [hσ0]; simp)
   exact (Array.getElem?_eq_some_iff.1 ho).1
 have no : ∀ (listed : Array Bool) (pre rest : List DR) (kf : Nat -> Nat) (nw : Nat -> Bool) (m : Mp) (ρ : Tr DV) (h : H) (a : Act) (w : World), (∀ i, i < ops.size -> listed.getD i false = true) -> pfx = pre ++ rest -> zX N0 w0 n ds ops m0 h0 pre kf nw listed m ρ h a w -> False := by
   intro listed pre rest kf nw m ρ h a w hall hp I; have := hall x.i hxs; rw [aCC hσ0 S hp I] at this; cases this
 intro fuel
 induction fuel with
 | zero =>
   intro listed pre rest kf nw m ρ h a w hf hp I he; exact (no listed pre rest kf nw m ρ h a w (λ i hi => aER (by omega) i (by rw [I.size]; exact hi)) hp I).elim
 | succ fuel ih =>
   intro listed pre rest kf nw m ρ h a w hf hp I he; refine ⟨λ hnil => (no listed pre rest kf nw m ρ h a w (aEH S I.size hnil) hp I).elim, λ i hi => ?_⟩
   rw [rS I.size] at hi; obtain ⟨hi, hun, hr⟩ := hi; obtain ⟨z, hz, rfl⟩ := S.cover i hi; have ho := Array.getElem?_eq_getElem hi; have hlt : z.i < listed.size := by rw [I.size]; exact hi
   have := aIC hlt hun; exact aSz hσ0 hpe hxw S hre hP hz ho hun (hr _ ho) (λ pre' rest' kf' nw' m' ρ' h' a' w' hp' I' he' => ih _ pre' rest' kf' nw' m' ρ' h' a' w' (by omega) hp' I' he') rest pre kf nw m ρ h hp I he
theorem aKN {id f : Nat} {args : List aZ} {G : bQ} {pv : DV} {hf : H} (hG : aGL P f G) (hcl : iG P f = true) (hc : aDv P n ops σ = true) (hσ0 : σ = pfx ++ x :: rest0) (hpe : ∀ y ∈ pfx, y.isW = false)
   (hx : x.g.guard = none) (hxo : x.g.op = .c (.f f args)) {m : Mp} {ρ : Tr DV} {h : H} {a : Act} {w : World} (he : dX E pfx [] ρ h (λ ρ h => some (ρ, h)) = some res) (hg : G (args.map (ev res.1)) res.2 = some (pv, hf))
   (hr : eR m n ρ a) (hw : bU N0 w0 m h w) (hd : a.defers = ds)
   (hQ : ∀ m' pv' a' w', gY m h m' hf -> tr m' pv = some pv' -> (∀ t, (∀ y ∈ pfx, y.g.dst ≠ some (Pa.of t)) -> tr m' (ev res.1 (.r (Pa.of t))) = some (a'.tmps.getD t undef)) -> a'.tmps.size = n -> bU N0 w0 m' hf w' -> a'.defers = ds -> Q (.panic [{ v := pv', recovered := false }]) a' w') :
   (Code.region id ops true).wp P Q a w := by
 obtain ⟨hm, S, hre⟩ := aMW hc; have hxw : x.isW = true := by unfold DR.isW; rw [hxo]; simp [DOp.isW]
 refine wp_region_any hm ?_; have hz : ∀ i, (Array.replicate ops.size false).getD i false = false := λ i => by
   rw [Array.getD_eq_getD_getElem?, Array.getElem?_replicate]; split <;> rfl
 refine bDm (N0 := N0) (w0 := w0) (ds := ds) (m0 := m) (h0 := h) (res := res) hσ0 hpe hxw S hre ?_ ops.size _ [] pfx (λ _ => 0) (λ _ => false) m ρ h a _ ?_ rfl ?_ he
 · intro kf nw listed m' ρ' h' a' w' I hres hdeps C; have hxσ : x ∈ σ := by rw [hσ0]; simp
   obtain ⟨o, ho, hg'⟩ := S.chk x hxσ; unfold aBF at hg'; rw [Bool.and_eq_true, Bool.and_eq_true] at hg'; obtain ⟨⟨hd', hgd⟩, hop⟩ := hg'; have hlook := I.looks hσ0 S hxσ ho (hdeps o ho) (.inr ⟨rest0, rfl⟩); have hwt := wY hgd hlook; have hρ := aAq hlook; unfold wpOp; rw [ho]; simp only []; rw [hwt, hx]; simp only [cU, if_true]; rw [hxo] at hop
   replace hop : aUi P o (.f f args) = true := hop
   unfold aUi at hop; split at hop
   · rename_i c f' args2 hoc heq; cases heq; rw [Bool.and_eq_true] at hop; obtain ⟨h1, h2⟩ := hop; split at h1
     · rename_i g hce; have h3 := Nat.eq_of_beq_eq_true h1; subst h3; have hta := tC hρ (λ x hx => by simp only [hoc, Op.operands, Call.operands]; simp only [Array.mem_append]; exact .inr (by simpa using hx)) h2
       cases hres; refine .inl ?_; unfold Oper.wp; rw [aGH hoc hce (first := #[]) (captured := #[]) rfl hcl w']
       simp only [Oper.upon_enter]; have hcall := hG N0 w0 m' h' w' _ _ pv hf hg hta I.rel; have hargs : (#[] ++ c.args.map a'.eval ++ #[] : Array Value) = (c.args.toList.map a'.eval).toArray := by apply Array.ext'; simp
       rw [hargs]; refine hcall.mono λ e w'' hh => ?_
       obtain ⟨m'', v', rfl, e2, e3, e4⟩ := hh; exact hQ m'' v' a' w'' (I.ext.trans e4) e2 (λ t ht => gL e4.le _ _ (I.regs t λ y hy _ => ht y hy)) I.tm e3 I.dsr
     · cases h1
   all_goals
     first
       | (rename_i heq; cases heq; done)
       | cases hop
 · unfold left; refine Nat.le_trans List.countP_le_length ?_; simp
 · refine ⟨by simp, λ i hi => ?_, λ i o hi => ?_, λ x hx => ?_, hw.drewN, hd, hr.size, λ t _ => hr.regs t, λ x hx => ?_, λ x hx => ?_, gY.refl _ _, λ x hx => ?_⟩
   · rw [hz] at hi; cases hi
   · rw [hz] at hi; cases hi
   all_goals simp at hx
end
end
end Go.DI
namespace Go.DI
open Go.RowKit
structure CF where
 f : Nat
 n : Nat
 nc : Nat
 rt : Pa
 at_ : Pa
 c : DC
def aAD (E : bH) (C : CF) (capt : List DV) (rv : DV) (h : H) : Option H := bif Nat.beq capt.length C.nc then
 mY E C.c (Tr.set rv C.at_ (Tr.set rv C.rt (Tr.ofL capt))) h (λ x ρ h => DX.rec (motive := λ _ => Option H) (some h) (λ _ => none) (some h) x) else none
def aST (o : Oper) : Bool := match o.op with
 | .call c => (match c.callee with
   | .builtin .recover => true
   | _ => false)
 | _ => false
def bBd (o : Oper) (d : Option Tmp) : Bool := match o.op, d with
 | .assign (.tmp t), some u => Nat.beq t u
 | _, _ => false
def aBy (P : Program) (C : CF) : Bool := iG P C.f && (match P.funcs[C.f]? with
 | some fn => Nat.beq fn.ntmps C.n && Nat.ble C.nc C.n && fn.results.toList.isEmpty && (match fn.body with
   | some (.seq (.region _ ops draw) rest) => !draw && (match ops.toList with
     | [o1, o2] => aST o1 && mJ C.n o1.dst (some C.rt) && o1.guard.isNone && bBd o2 o1.dst && mJ C.n o2.dst (some C.at_) && o2.guard.isNone
     | _ => false) && eF P C.n rest C.c
   | _ => false)
 | none => false)
section
variable {P : Program} {N0 : Nat} {w0 : World} {E : bH}
theorem aBa {o : Oper} (h : aST o = true) (ρ : Operand -> Value) (w : World) : (execOp ρ o).run P w = .ok .recover w := by
 unfold aST at h; split at h
 · rename_i c hc; split at h
   · rename_i hb; unfold execOp; rw [hc]; simp only [Sem.run_bind, resolve, hb, Sem.run_pure, Result.andThen_ok, invoke, builtin]
   · cases h
 · cases h
def aVN (m : Mp) (u u' : FrameMode) (rv : DV) : Prop :=
 (u = .returning /\ u' = u /\ rv = .nili) \/ (∃ v, tr m rv = some v /\ u = .panicking [{ v := v, recovered := false }] /\ u' = .panicking [{ v := v, recovered := true }])
theorem aUe (hE : gT P E) {C : CF} (hc : aBy P C = true) {m : Mp} {capt : List DV} {capt' : List Value} {rv : DV} {h h' : H} {w : World} {u u' : FrameMode} (hrun : aAD E C capt rv h = some h') (hcap : trs m capt = some capt') (hw : bU N0 w0 m h w)
   (hu : aVN m u u' rv) : CallsD P C.f capt'.toArray u w λ e u2 w' => ∃ m' v, e = .returned v /\ u2 = u' /\ bU N0 w0 m' h' w' /\ gY m h m' h' := by
 unfold aBy at hc; rw [Bool.and_eq_true] at hc; obtain ⟨hcl, hc⟩ := hc; cases hf : P.funcs[C.f]? with
 | none => rw [hf] at hc; cases hc
 | some fn =>
   rw [hf] at hc; simp only [Bool.and_eq_true] at hc; obtain ⟨⟨⟨hn, hnc⟩, hres⟩, hbody⟩ := hc; have hn := Nat.eq_of_beq_eq_true hn; have hnc := Nat.le_of_ble_eq_true hnc; split at hbody
   rotate_left
   · cases hbody
   rename_i id ops draw rest hb; simp only [Bool.and_eq_true, Bool.not_eq_true'] at hbody; obtain ⟨⟨rfl, hops⟩, hrest⟩ := hbody; split at hops
   rotate_left
   · cases hops
   rename_i o1 o2 hl; simp only [Bool.and_eq_true] at hops; obtain ⟨⟨⟨⟨⟨h1, h2⟩, h3⟩, h4⟩, h5⟩, h6⟩ := hops; unfold aAD at hrun; obtain ⟨hcl2, hrun⟩ := aM hrun; have hcl2 := Nat.eq_of_beq_eq_true hcl2; refine callsD_of_wpS hf hb λ c₀ cs hmode => wpS_seq (wpS_region ?_)
   have hsz : ops.size = 2 := by rw [<- Array.length_toList, hl]; rfl
   have g0 : ops[0]? = some o1 := by rw [<- Array.getElem?_toList, hl]; rfl
   have g1 : ops[1]? = some o2 := by rw [<- Array.getElem?_toList, hl]; rfl
   have hreg := xE hcap (show capt.length <= C.n by omega) hn
   obtain ⟨rv', hrv, hrec⟩ : ∃ rv', tr m rv = some rv' /\ wpOpsS P ops (Exit.thenS (rest.wpS P (bodyPostS P fn c₀ cs λ e u2 w' => ∃ m' v, e = .returned v /\ u2 = u' /\ bU N0 w0 m' h' w' /\ gY m h m' h')) (bodyPostS P fn c₀ cs λ e u2 w' => ∃ m' v, e = .returned v /\ u2 = u' /\ bU N0 w0 m' h' w' /\ gY m h m' h')) (List.range ops.size)
       { tmps := capt'.toArray ++ Array.replicate (fn.ntmps - capt'.toArray.size) undef, defers := [] } (c₀ :: cs) w = wpOpsS P ops (Exit.thenS (rest.wpS P (bodyPostS P fn c₀ cs λ e u2 w' => ∃ m' v, e = .returned v /\ u2 = u' /\ bU N0 w0 m' h' w' /\ gY m h m' h')) (bodyPostS P fn c₀ cs λ e u2 w' => ∃ m' v, e = .returned v /\ u2 = u' /\ bU N0 w0 m' h' w' /\ gY m h m' h')) [1]
       (Act.put { tmps := capt'.toArray ++ Array.replicate (fn.ntmps - capt'.toArray.size) undef, defers := [] } o1.dst rv') ({ c₀ with mode := u' } :: cs) w := by
     have hwant : ∀ y, Region.wanted o1 y = true := λ y => by unfold Region.wanted; rw [show o1.guard = none from by simpa using h3]
     rcases hu with ⟨rfl, rfl, rfl⟩ | ⟨v, hv, rfl, rfl⟩
     · refine ⟨.nilIface, rfl, ?_⟩; rw [hsz, show List.range 2 = [0, 1] from rfl, wpOpsS, g0]
       simp only [hwant, if_true, aBa h1]; have hr0 : recoverD (c₀ :: cs) = none := by simp only [recoverD, hmode]
       simp only [hr0]; have : ({ c₀ with mode := FrameMode.returning } : Frame) = c₀ := by rw [<- hmode]
       rw [this]
     · refine ⟨v, hv, ?_⟩; rw [hsz, show List.range 2 = [0, 1] from rfl, wpOpsS, g0]
       simp only [hwant, if_true, aBa h1]; have hr0 : recoverD (c₀ :: cs) = some (v, { c₀ with mode := .panicking [{ v := v, recovered := true }] } :: cs) := by simp only [recoverD, hmode]
       simp only [hr0]
   rw [hrec]; have hreg1 := hreg.put (dst := o1.dst) (dst' := some C.rt) h2 hrv; have hwant2 : ∀ y, Region.wanted o2 y = true := λ y => by unfold Region.wanted; rw [show o2.guard = none from by simpa using h6]
   unfold bBd at h4; split at h4
   rotate_left
   · cases h4
   rename_i t u0 hop hd1; have h4 := Nat.eq_of_beq_eq_true h4; subst h4; have hev : (Act.put { tmps := capt'.toArray ++ Array.replicate (fn.ntmps - capt'.toArray.size) undef, defers := [] } o1.dst rv').eval (.tmp t) = rv' := by
     have hq : mJ C.n (some t) (some C.rt) = true := by rw [<- hd1]; exact h2
     unfold mJ at hq; rw [Bool.and_eq_true] at hq; have hp := gN hq.2; have := hreg1.regs t; simp only [qS] at this; rw [oS, if_pos hp, hrv] at this; exact (Option.some.inj this).symm
   rw [wpOpsS, g1]; simp only [hwant2, if_true]; have hex : (execOp (Act.put { tmps := capt'.toArray ++ Array.replicate (fn.ntmps - capt'.toArray.size) undef, defers := [] } o1.dst rv').eval o2).run P w = .ok (.value rv') w := by
     unfold execOp; rw [hop]; simp only [hev]; rfl
   simp only [hex, Oper.upon_value, wpOpsS]; show rest.wpS P _ _ _ _; have hreg2 := hreg1.put (dst := o2.dst) (dst' := some C.at_) h5 hrv; refine wpS_of_wp (sQ (ds := []) hE C.c rest hrest m _ h _ w _ _ hrun hreg2 hw ?_ λ x ρ' h1 m' a' w' x1 x2 x3 x4 x5 => ?_)
   · rw [Act.put_defers', Act.put_defers']
   · have fin : some h1 = some h' -> bodyPostS P fn c₀ cs (λ e u2 w' => ∃ m' v, e = .returned v /\ u2 = u' /\ bU N0 w0 m' h' w' /\ gY m h m' h') .normal a' ({ c₀ with mode := u' } :: cs) w' := by
       intro hh; cases hh; have hr0 : fn.results = #[] := by
         have : fn.results.toList = [] := by simpa using hres
         apply Array.ext'; simpa using this
       exact ⟨x4, u', rfl, .tuple #[], by rw [xD, hr0]; simp, m', _, rfl, rfl, x3, x1⟩
     cases x with
     | normal => exact fin x5
     | exit i => cases x5
     | ret => exact fin x5
end
structure GF where
 np : Nat
 n : Nat
 lA : List DG
 gB : DG
 clo : Pa
 pfx : List DR
 xi : Nat
 xd : Option Pa
 fs : Nat
 as : List aZ
 xre : Ln
 xsy : Bool
 rest : List DR
 res : List RV
def GF.x (G : GF) : DR := ⟨G.xi, ⟨G.xd, none, .c (.f G.fs G.as)⟩, G.xre, G.xsy⟩
def GF.σ (G : GF) : List DR := G.pfx ++ G.x :: G.rest
def qE (E : bH) (G : GF) (args : List DV) (h : H) : Option (Tr DV × H) := bif Nat.beq args.length G.np then
 eH E G.lA (Tr.ofL args) h λ ρ h => dR E G.gB ρ h λ ρ h => some (ρ, h) else none
def aBI (C : CF) (v : DV) (k : List DV -> Option (DV × H)) : Option (DV × H) := match v with
 | .fn (.func g) [] cap => bif Nat.beq g C.f then k cap else none
 | _ => none
def wP (E : bH) (G : GF) (C : CF) : bQ := λ args h => (qE E G args h).bind λ s => (dX E G.σ [] s.1 s.2 λ ρ h => some (ρ, h)).bind λ t =>
 aBI C (ev s.1 (.r G.clo)) λ cap => (aAD E C cap .nili t.2).bind λ h' => (eS t.1 h' G.res).map λ vs => (iV vs, h')
def aRa (E : bH) (St : bQ) (G : GF) (C : CF) : bQ := λ args h => (qE E G args h).bind λ s => (dX E G.pfx [] s.1 s.2 λ ρ h => some (ρ, h)).bind λ t =>
 (St (G.as.map (ev t.1)) t.2).bind λ r => aBI C (ev s.1 (.r G.clo)) λ cap => (aAD E C cap r.1 r.2).bind λ h' => (eS t.1 h' G.res).map λ vs => (iV vs, h')
def aSr (G : GF) : ResultVar -> Bool
 | .cell a _ => G.pfx.all λ y => !vS y.g.dst (some (Pa.of a))
 | _ => false
def aNz (o : Oper) (p : Pa) : Bool := match o.op with
 | .defer c => (match c.callee with
   | .value (.tmp t) => rZ (Pa.of t) p && c.args.toList.isEmpty
   | _ => false)
 | _ => false
def aDt (P : Program) (f : FuncId) (G : GF) : Bool := iG P G.fs && (match P.funcs[f]? with
 | some fn => Nat.beq fn.ntmps G.n && Nat.ble G.np G.n && nZ (aEo P) fn.results.toList G.res && fn.results.toList.all (aSr G) && (match fn.body with
   | some (.seq (.region _ opsA drawA) (.seq (.region _ opsB drawB) (.seq (.region _ opsD drawD) .ret))) =>
     !drawA && !drawB && drawD && uR P G.n opsA opsA.toList G.lA && (match opsB.toList with
       | [o1, o2] => aBF P G.n opsB o1 G.gB && aNz o2 G.clo && o2.dst.isNone && o2.guard.isNone
       | _ => false) && aDv P G.n opsD G.σ && G.pfx.all (λ y => !y.isW)
   | _ => false)
 | none => false)
section
variable {P : Program} {N0 : Nat} {w0 : World} {E : bH}
theorem aIi {m : Mp} {h : H} {w : World} {ρ : Tr DV} {a : Act} {n : Nat} (hw : bU N0 w0 m h w) : ∀ {xs : List ResultVar} {rs : List RV} {vs : List DV}, (∀ x ∈ xs, ∃ c t, x = .cell c t /\ tr m (ev ρ (.r (Pa.of c))) = some (a.tmps.getD c undef)) ->
   nZ (aEo P) xs rs = true -> eS ρ h rs = some vs -> ∃ vs', (xs.mapM (yK a.tmps)).run P w = .ok vs' w /\ trs m vs = some vs'
 | [], [], vs, _, _, hv => by
   simp only [eS, Option.some.injEq] at hv; subst hv; exact ⟨[], rfl, rfl⟩
 | x :: xs, r :: rs, vs, hx, hc, hv => by
   simp only [nZ, Bool.and_eq_true] at hc; simp only [eS] at hv; split at hv
   · rename_i v us h1 h2; cases hv; obtain ⟨us', r2, t2⟩ := aIi (n := n) hw (λ x hx' => hx x (List.mem_cons_of_mem _ hx')) hc.2 h2
     obtain ⟨c, t, rfl, hreg⟩ := hx x (by simp)
     have key : ∃ v', (yK a.tmps (.cell c t)).run P w = .ok v' w /\ tr m v = some v' := by
       have hc1 := hc.1; unfold aEo at hc1; split at hc1
       · rename_i he; cases he
       · rename_i a1 t1 p1 he; cases he; rw [Bool.and_eq_true] at hc1; have := gN hc1.1; subst this; simp only [tN] at h1; split at h1
         · rename_i b o e1; rw [e1] at hreg; obtain ⟨i, hi, e2⟩ := gI hreg; obtain ⟨v', hc', ht⟩ := hw.rdCell hi h1; refine ⟨v', ?_, ht⟩; simp [yK, e2, asAddr, loadVar, dM hc1.2, hc']
         · cases h1
       · rename_i a1 t1 p1 n' he; cases he; rw [Bool.and_eq_true, Bool.and_eq_true] at hc1; have := gN hc1.1.1; subst this; simp only [tN] at h1; split at h1
         · rename_i b o e1; rw [e1] at hreg; obtain ⟨i, hi, e2⟩ := gI hreg; cases hvs : rdCells h.get b o n' with
           | none => rw [hvs] at h1; cases h1
           | some vs =>
             rw [hvs] at h1; cases h1; obtain ⟨vs', ht, hl, hc'⟩ := hw.rdCells hi hvs; refine ⟨.agg vs'.toArray, ?_, by simp only [tr, ht]⟩
             simp [yK, e2, asAddr, loadVar, dM hc1.1.2, cI hc1.2, eW hl hc']
         · cases h1
       · cases hc1
     obtain ⟨v', r1, t1⟩ := key; exact ⟨v' :: us', by simp only [List.mapM_cons, Sem.run_bind, r1, r2, Result.andThen_ok, Sem.run_pure], dC.2 ⟨_, _, t1, t2, rfl⟩⟩
   · cases hv
 | [], _ :: _, _, _, hc, _ => by cases hc
 | _ :: _, [], _, _, hc, _ => by cases hc
theorem aGa {m : Mp} {h : H} {w : World} {ρ : Tr DV} {a : Act} {fn : Func} {rs : List RV} {vs : List DV} (hw : bU N0 w0 m h w) (hx : ∀ x ∈ fn.results.toList, ∃ c t, x = .cell c t /\ tr m (ev ρ (.r (Pa.of c))) = some (a.tmps.getD c undef))
   (hc : nZ (aEo P) fn.results.toList rs = true) (hv : eS ρ h rs = some vs) : ∃ v', (results fn a.tmps).run P w = .ok v' w /\ tr m (iV vs) = some v' := by
 obtain ⟨vs', r1, t1⟩ := aIi (n := 0) hw hx hc hv; rw [xD, Array.mapM_eq_mapM_toList]; simp only [Sem.run_bind, Sem.run_map, r1, Result.andThen_ok, Sem.run_pure]; refine ⟨_, rfl, ?_⟩; have hl := cZ t1
 match vs, vs', t1 with
 | [], vs', t1 =>
   simp only [trs, Option.some.injEq] at t1; subst t1; simp [iV, tr, trs]
 | [v], vs', t1 =>
   obtain ⟨u, us, h1, h2, rfl⟩ := dC.1 t1; simp only [trs, Option.some.injEq] at h2; subst h2
   simpa [iV] using h1
 | v :: v2 :: vs, vs', t1 =>
   have hl := cZ t1; simp only [iV, tr, t1]; rw [dif_neg (by simp [hl])]
theorem yB {C : CF} {v : DV} {k : List DV -> Option (DV × H)} {r : DV × H} (h : aBI C v k = some r) : ∃ cap, v = .fn (.func C.f) [] cap /\ k cap = some r := by
 unfold aBI at h; split at h
 · obtain ⟨h1, h2⟩ := aM h; rw [Nat.eq_of_beq_eq_true h1]; exact ⟨_, rfl, h2⟩
 · cases h
theorem aII (hE : gT P E) {f : FuncId} {G : GF} (hc : aDt P f G = true) {m : Mp} {h : H} {w : World} {args : List DV} {args' : List Value} {s : Tr DV × H} {R : Ending -> World -> Prop}
   (hs : qE E G args h = some s) {C : CF} {cap : List DV} (hclo : ev s.1 (.r G.clo) = .fn (.func C.f) [] cap) (hargs : trs m args = some args') (hw : bU N0 w0 m h w)
   (hD : ∀ fn id ops m' a' w' cap' d, P.funcs[f]? = some fn -> aDv P G.n ops G.σ = true -> gY m h m' s.2 -> eR m' G.n s.1 a' -> bU N0 w0 m' s.2 w' -> trs m' cap = some cap' -> d = ({ target := .fn (.func C.f) cap'.toArray, args := #[] } : Deferred) -> a'.defers = [d] ->
     nZ (aEo P) fn.results.toList G.res = true -> (∀ x ∈ fn.results.toList, aSr G x = true) -> (∀ y ∈ G.pfx, y.isW = false) ->
     (Code.region id ops true).wp P (Exit.then (λ a w => Code.ret.wp P (bodyPostD P fn R) a w) (bodyPostD P fn R)) a' w') :
   Calls P f args'.toArray w R := by
 unfold aDt at hc; rw [Bool.and_eq_true] at hc; obtain ⟨hcal, hc⟩ := hc; cases hf : P.funcs[f]? with
 | none => rw [hf] at hc; cases hc
 | some fn =>
   rw [hf] at hc; simp only [Bool.and_eq_true] at hc; obtain ⟨⟨⟨⟨hn, hnp⟩, hres⟩, hrok⟩, hbody⟩ := hc; have hn := Nat.eq_of_beq_eq_true hn; have hnp := Nat.le_of_ble_eq_true hnp; split at hbody
   rotate_left
   · cases hbody
   rename_i ia opsA drawA ib opsB drawB id opsD drawD hb; simp only [Bool.and_eq_true, Bool.not_eq_true'] at hbody; obtain ⟨⟨⟨⟨⟨⟨rfl, rfl⟩, rfl⟩, hA⟩, hB⟩, hDr⟩, hpfx⟩ := hbody; split at hB
   rotate_left
   · cases hB
   rename_i o1 o2 hl; simp only [Bool.and_eq_true] at hB; obtain ⟨⟨⟨hg, hdf⟩, hd0⟩, hgd⟩ := hB; have hd0 : o2.dst = none := by simpa using hd0
   have hgd : o2.guard = none := by simpa using hgd
   unfold qE at hs; obtain ⟨hlen, hs⟩ := aM hs; have hlen := Nat.eq_of_beq_eq_true hlen; refine calls_of_wp_defers hf hb (wp_seq ?_); have hcA : eF P G.n (.region ia opsA false) (.reg G.lA) = true := by simp only [eF, hA]; rfl
   refine sQ (ds := []) (R := Tr DV × H) hE (.reg G.lA) _ hcA m _ h _ w (λ x ρ h => DX.rec (motive := λ _ => Option (Tr DV × H)) (dR E G.gB ρ h λ ρ h => some (ρ, h)) (λ _ => none) none x) _ hs (xE hargs (by omega) hn) hw rfl λ x ρ1 h1 m1 a1 w1 x1 x2 x3 x4 x5 => ?_
   cases x with
   | exit i => cases x5
   | ret => cases x5
   | normal =>
     refine wp_seq (wp_region ?_); have hsz : opsB.size = 2 := by rw [<- Array.length_toList, hl]; rfl
     have g0 : opsB[0]? = some o1 := by rw [<- Array.getElem?_toList, hl]; rfl
     have g1 : opsB[1]? = some o2 := by rw [<- Array.getElem?_toList, hl]; rfl
     rw [hsz, show List.range 2 = List.range' 0 [o1].length ++ [1] from rfl]
     refine aCc hE [1] [o1] [G.gB] 0 (λ j hj => by
       have : j = 0 := by simp only [List.length_cons, List.length_nil] at hj; omega
       subst this; exact g0.symm) (by simp only [uR, hg, Bool.and_self]) m1 ρ1 h1 a1 w1 (λ ρ h => some (ρ, h)) x5 x2 x3 x4 λ ρ2 h2 m2 a2 w2 y1 y2 y3 y4 y5 => ?_
     cases y5; simp only [wpOps, g1]; have hwant : Region.wanted o2 (yielded opsB a2.tmps) = true := by unfold Region.wanted; rw [hgd]
     rw [hwant]; simp only [if_true]; refine .inl ?_; unfold aNz at hdf; split at hdf
     rotate_left
     · cases hdf
     rename_i c hop; split at hdf
     rotate_left
     · cases hdf
     rename_i t hce; rw [Bool.and_eq_true] at hdf; have hp := gN hdf.1; have hca : c.args = #[] := by
       have : c.args.toList = [] := by simpa using hdf.2
       apply Array.ext'; simpa using this
     have hreg := y2.regs t; rw [hp, hclo] at hreg; simp only [tr, trs] at hreg; cases hcp : trs m2 cap with
     | none => rw [hcp] at hreg; cases hreg
     | some cap' =>
       rw [hcp] at hreg; have hev : a2.eval (.tmp t) = .func (.func C.f) #[] cap'.toArray := (Option.some.inj hreg).symm; have hex : (execOp a2.eval o2).run P w2 = .ok (.defer { target := .fn (.func C.f) cap'.toArray, args := #[] }) w2 := by
         unfold execOp; rw [hop]; simp only [Sem.run_bind, resolve, hce, hca, hev, Sem.run_pure]; rw [show (#[] : Array Operand).map a2.eval = #[] from by simp, qT]
         simp only [Result.andThen_ok, Sem.run_pure]
         congr 3
       unfold Oper.wp; rw [hex, Oper.upon_defer, hd0]; refine wp_seq (hD fn id opsD m2 _ w2 cap' _ hf hDr (x1.trans y1) ⟨y2.size, y2.regs⟩ y3 hcp rfl ?_ hres (List.all_eq_true.1 hrok) λ y hy => ?_)
       · show _ :: a2.defers = _; rw [y4]
       · have := List.all_eq_true.1 hpfx y hy; simpa using this
theorem aDr {C : CF} (hC : aBy P C = true) (cap' : Array Value) (w : World) : (invoke (.fn (.func C.f) cap') #[]).run P w = .ok (.enter C.f cap') w := by
 unfold aBy at hC; rw [Bool.and_eq_true] at hC; simp only [invoke, rQ hC.1]
 congr 2
 apply Array.ext'; simp
theorem aBr (hE : gT P E) {f : FuncId} {G : GF} {C : CF} (hc : aDt P f G = true) (hC : aBy P C = true) : gJ P f (wP E G C) := by
 intro N0 w0 m h w args args' v h' hrun hargs hw; unfold wP at hrun; cases hs : qE E G args h with
 | none => rw [hs] at hrun; cases hrun
 | some s =>
   rw [hs] at hrun; simp only [Option.bind_some] at hrun; cases ht : dX E G.σ [] s.1 s.2 (λ ρ h => some (ρ, h)) with
   | none => rw [ht] at hrun; cases hrun
   | some t =>
     rw [ht] at hrun; simp only [Option.bind_some] at hrun; obtain ⟨cap, hclo, hrun⟩ := yB hrun; cases hcr : aAD E C cap .nili t.2 with
     | none => rw [hcr] at hrun; cases hrun
     | some h4 =>
       rw [hcr] at hrun; simp only [Option.bind_some] at hrun; cases hvs : eS t.1 h4 G.res with
       | none => rw [hvs] at hrun; cases hrun
       | some vs =>
         rw [hvs] at hrun; simp only [Option.map_some, Option.some.injEq, Prod.mk.injEq] at hrun; obtain ⟨rfl, rfl⟩ := hrun; refine aII hE hc hs hclo hargs hw λ fn id ops m1 a1 w1 cap' d hf hDr x1 x2 x3 hcap hd hds hres hrok hpfx => ?_
         refine zG hE hDr ht x2 x3 hds λ ρ2 h2 m2 a2 w2 y1 y2 y3 y4 y5 => ?_
         cases y5; refine wp_ret ?_; show Leaves P fn a2.tmps _ a2.defers .returning w2; rw [y4, hd]; refine leaves_cons (by simp) (aDr hC _ w2) ((aUe hE hC hcr (lJ y1.le _ _ hcap) y3 (.inl ⟨rfl, rfl, rfl⟩)).mono λ e u' w3 hh => ?_)
         obtain ⟨m3, v, rfl, rfl, z1, z2⟩ := hh; obtain ⟨v', r1, r2⟩ := aBb (P := P) (y2.mono z2.le) z1 hres hvs; exact ⟨v', r1, m3, v', rfl, r2, z1, (x1.trans y1).trans z2⟩
theorem aCP (hE : gT P E) {f : FuncId} {G : GF} {C : CF} {St : bQ} (hSt : aGL P G.fs St) (hc : aDt P f G = true) (hC : aBy P C = true) : gJ P f (aRa E St G C) := by
 intro N0 w0 m h w args args' v h' hrun hargs hw; unfold aRa at hrun; cases hs : qE E G args h with
 | none => rw [hs] at hrun; cases hrun
 | some s =>
   rw [hs] at hrun; simp only [Option.bind_some] at hrun; cases ht : dX E G.pfx [] s.1 s.2 (λ ρ h => some (ρ, h)) with
   | none => rw [ht] at hrun; cases hrun
   | some t =>
     rw [ht] at hrun; simp only [Option.bind_some] at hrun; cases hst : St (G.as.map (ev t.1)) t.2 with
     | none => rw [hst] at hrun; cases hrun
     | some r =>
       obtain ⟨pv, h3⟩ := r; rw [hst] at hrun; simp only [Option.bind_some] at hrun; obtain ⟨cap, hclo, hrun⟩ := yB hrun; cases hcr : aAD E C cap pv h3 with
       | none => rw [hcr] at hrun; cases hrun
       | some h4 =>
         rw [hcr] at hrun; simp only [Option.bind_some] at hrun; cases hvs : eS t.1 h4 G.res with
         | none => rw [hvs] at hrun; cases hrun
         | some vs =>
           rw [hvs] at hrun; simp only [Option.map_some, Option.some.injEq, Prod.mk.injEq] at hrun; obtain ⟨rfl, rfl⟩ := hrun; have hcal : iG P G.fs = true := by
             unfold aDt at hc; rw [Bool.and_eq_true] at hc; exact hc.1
           refine aII hE hc hs hclo hargs hw λ fn id ops m1 a1 w1 cap' d hf hDr x1 x2 x3 hcap hd hds hres hrok hpfx => ?_
           refine aKN (E := E) (x := G.x) hSt hcal hDr rfl hpfx rfl rfl ht hst x2 x3 hds λ m2 pv' a2 w2 y1 y2 y3 y4 y5 y6 => ?_
           show Leaves P fn a2.tmps _ a2.defers (.panicking [{ v := pv', recovered := false }]) w2; rw [y6, hd]; refine leaves_cons (by simp) (aDr hC _ w2) ((aUe hE hC hcr (lJ y1.le _ _ hcap) y5 (.inr ⟨pv', y2, rfl, rfl⟩)).mono λ e u' w3 hh => ?_)
           obtain ⟨m3, v, rfl, rfl, z1, z2⟩ := hh; obtain ⟨v', r1, r2⟩ := aGa (P := P) (a := a2) z1 (λ x hx => by
             have := hrok x hx; unfold aSr at this; split at this
             · rename_i c ty; refine ⟨c, ty, rfl, gL z2.le _ _ (y3 c λ y hy hyd => ?_)⟩
               have h1 := List.all_eq_true.1 this y hy; rw [hyd] at h1; unfold vS at h1; simp only [qX] at h1; cases h1
             · cases this) hres hvs
           show ∃ v, _ /\ _; exact ⟨v', r1, m3, v', rfl, r2, z1, (x1.trans y1).trans z2⟩
end
end Go.DI
namespace Go.DI
open Go.RowKit
def wX : Ln -> Ln -> Ln
 | [], b => b
 | a, [] => a
 | x :: a, y :: b => (x ^^^ y) :: wX a b
theorem xZ (a : Ln) : wX a [] = a := by cases a <;> rfl
theorem aAb (b : Ln) : wX [] b = b := by cases b <;> rfl
theorem qN (x y : Nat) (a b : Ln) : wX (x :: a) (y :: b) = (x ^^^ y) :: wX a b := rfl
theorem tT : ∀ a b : Ln, (wX a b).length = max a.length b.length
 | [], b => by rw [aAb]; simp
 | x :: a, [] => by rw [xZ]; simp
 | x :: a, y :: b => by rw [qN, List.length_cons, tT a b]; simp only [List.length_cons]; omega
theorem aHM {x y : Nat} (hx : x < 256) (hy : y < 256) : x ^^^ y < 256 := Nat.xor_lt_two_pow (n := 8) hx hy
theorem aFK : ∀ {a b : Ln}, aW a = true -> aW b = true -> aW (wX a b) = true
 | [], b, _, hb => by rw [aAb]; exact hb
 | x :: a, [], ha, _ => by rw [xZ]; exact ha
 | x :: a, y :: b, ha, hb => by
   simp only [aW, Bool.and_eq_true, Nat.blt_eq] at ha hb; rw [qN]; simp only [aW, Bool.and_eq_true, Nat.blt_eq]; exact ⟨aHM ha.1 hb.1, aFK ha.2 hb.2⟩
theorem iW (n : Nat) : aW (List.replicate n 0) = true := by
 rw [gX]; intro b hb; have := List.eq_of_mem_replicate hb; omega
structure rL (b : Nat) (h h' : H) : Prop where
 size : h'.size = h.size
 get : ∀ c, c ≠ b -> h'.get c = h.get c
theorem rL.refl (b : Nat) (h : H) : rL b h h := ⟨rfl, λ _ _ => rfl⟩
theorem rL.trans {b : Nat} {x y z : H} (h : rL b x y) (k : rL b y z) : rL b x z := ⟨k.size.trans h.size, λ c hc => (k.get c hc).trans (h.get c hc)⟩
theorem rL.grown {h0 h h' : H} (g : bF h0 h) {b : Nat} (hb : h0.size <= b) (k : rL b h h') : bF h0 h' :=
 ⟨by rw [k.size]; exact g.size, λ i hi => (k.get i (by omega)).trans (g.get i hi)⟩
theorem wrap_u8 {n : Nat} (h : n < 256) : IntKind.u8.wrap (.ofNat n) = .ofNat n := by
 rw [IntKind.wrap_u8]; simp only [Int.ofNat_eq_natCast]; omega
theorem aKz {x y : Nat} (hx : x < 256) (hy : y < 256) : pK (iH x) (iH y) = some (iH (x ^^^ y)) := by
 unfold iH; rw [lE .u8 x y hx hy, wrap_u8 (aHM hx hy)]
theorem aJ (k k' : IntKind) (a b : Nat) : yC (.int k (.ofNat a)) (.int k' (.ofNat b)) = some (.int k (.ofNat (max a b))) := by
 simp only [yC, mE]
 congr 2
 by_cases h : a < b
 · rw [show decide (Int.ofNat a < Int.ofNat b) = true from by simp only [Int.ofNat_eq_natCast, decide_eq_true_iff]; omega]
   show Int.ofNat b = _; congr 1; omega
 · rw [show decide (Int.ofNat a < Int.ofNat b) = false from by simp only [Int.ofNat_eq_natCast, decide_eq_false_iff_not]; omega]
   show Int.ofNat a = _; congr 1; omega
theorem aH {b n c j : Nat} {op : Bool} (hj : j < n) (k : IntKind) : cV 1 (.slc b 0 n c op) (.int k (.ofNat j)) = some (.ptr b j) := by
 simp only [cV, nM, aR]; rw [dL hj]; simp
theorem aSN (a b : Nat) : decide (Int.ofNat a < Int.ofNat b) = decide (a < b) := by
 rw [decide_eq_decide]; simp only [Int.ofNat_eq_natCast]; omega
theorem lF {i : Nat} (h : i + 1 < 9223372036854775808) : cF (.int .i64 (.ofNat i)) (.int .i64 (.ofNat 1)) = some (.int .i64 (.ofNat (i + 1))) := by
 rw [qQ, show Int.ofNat i + Int.ofNat 1 = Int.ofNat (i + 1) from rfl, wrap_i64 h]
theorem tV {s : Ln} {j : Nat} (h : j <= s.length) (k : IntKind) : iM (.str s) none (some (.int k (.ofNat j))) = some (.str (s.take j)) := by
 simp only [iM, dE, dHi, dLo]; rw [Nat.ble_eq_true_of_le h, cond_true, Nat.ble_eq_true_of_le (Nat.zero_le _), cond_true, fV]; rfl
theorem wZ {s : Ln} {j : Nat} (h : j <= s.length) (k : IntKind) : iM (.str s) (some (.int k (.ofNat j))) none = some (.str (s.drop j)) := by
 simp only [iM, dE, dHi, dLo]; rw [Nat.ble_eq_true_of_le (Nat.le_refl _), cond_true, Nat.ble_eq_true_of_le h, cond_true, fV, List.take_length]
theorem aQt (s t : Ln) : cR (.str s) (.str t) = some (.bool (s == t)) := by
 show eI (sEq s t) = _; rw [fG, uE]
theorem jZ (k : IntKind) (a b : Nat) : cR (.int k (.ofNat a)) (.int k (.ofNat b)) = some (.bool (decide (a = b))) := by
 rw [oG]; congr 2; rw [Bool.eq_iff_iff, beq_iff_eq, decide_eq_true_iff]; simp only [Int.ofNat_eq_natCast]; omega
end Go.DI
namespace Go.DI
open Go.RowKit
theorem bDA {a b : Nat} (h : a ≠ b) : Nat.beq a b = false := by
 cases hb : Nat.beq a b
 · rfl
 · exact absurd (Nat.eq_of_beq_eq_true hb) h
theorem qC {a b : Nat} (h : ¬ a <= b) : Nat.ble a b = false := by
 cases hb : Nat.ble a b
 · rfl
 · exact absurd (Nat.le_of_ble_eq_true hb) h
def bX (h : H) (b : Nat) (L : List DV) : Prop := b < h.size /\ ∃ pl t, h.get b = some (.blk ⟨L.length, 1, false, pl, t⟩) /\ ∀ j x, L[j]? = some x -> t.at_ j = some x
section
variable {h h' : H} {b : Nat} {L : List DV}
theorem bX.rd (hb : bX h b L) {j : Nat} {x : DV} (hj : L[j]? = some x) : rdCell h.get b j = some x := by
 obtain ⟨hlt, pl, t, h1, h2⟩ := hb; have hjl : j < L.length := by
   rcases Nat.lt_or_ge j L.length with h3 | h3
   · exact h3
   · rw [List.getElem?_eq_none h3] at hj; cases hj
 rw [rX h1 hjl]; exact h2 j x hj
theorem bX.read (hb : bX h b L) {j : Nat} {x : DV} (hj : L[j]? = some x) : aO h.get (.ptr b j) = some x := by
 simp only [aO, cE]; exact hb.rd hj
theorem bX.cells (hb : bX h b L) {o k : Nat} (hk : o + k <= L.length) : rdCells h.get b o k = some ((L.drop o).take k) := by
 have hl : ((L.drop o).take k).length = k := by simp; omega
 have := mB (rd := h.get) (b := b) ((L.drop o).take k) o λ i v hi => hb.rd (by
   rw [List.getElem?_take] at hi; split at hi
   · rw [List.getElem?_drop] at hi; exact hi
   · cases hi)
 rw [hl] at this; exact this
theorem bX.cells_all (hb : bX h b L) : rdCells h.get b 0 L.length = some L := by
 have := hb.cells (o := 0) (k := L.length) (by omega)
 simpa using this
theorem bX.but (hb : bX h b L) {c : Nat} (hc : b ≠ c) (k : rL c h h') : bX h' b L := by
 obtain ⟨hlt, pl, t, h1, h2⟩ := hb; exact ⟨by rw [k.size]; exact hlt, pl, t, by rw [k.get b hc]; exact h1, h2⟩
theorem bX.store (hb : bX h b L) {vs : List DV} {o : Nat} (hv : vs.all DV.one = true) (ho : o + vs.length <= L.length) :
   ∃ h', eZ vs h b o = some h' /\ bX h' b (L.take o ++ vs ++ L.drop (o + vs.length)) /\ rL b h h' := by
 obtain ⟨hlt, pl, t, h1, h2⟩ := hb; obtain ⟨h', t', f1, f2, f3, f4, f5⟩ := pW (h := h) (b := b) (o := o) (vs := vs) h1 rfl ho hv; have hlen : (L.take o ++ vs ++ L.drop (o + vs.length)).length = L.length := by simp; omega
 refine ⟨h', f1, ⟨by rw [f2]; exact hlt, pl, t', by rw [f4, hlen], λ j x hj => ?_⟩, ⟨f2, f3⟩⟩
 rw [f5]; have ht : (L.take o).length = o := by simp; omega
 by_cases hjo : o <= j /\ j < o + vs.length
 · rw [if_pos hjo]; rw [List.append_assoc, List.getElem?_append_right (by omega), ht, List.getElem?_append_left (by omega)] at hj
   exact hj
 · rw [if_neg hjo]; apply h2; rcases Nat.lt_or_ge j o with hlt | hge
   · rw [List.append_assoc, List.getElem?_append_left (by omega), List.getElem?_take, if_pos hlt] at hj
     exact hj
   · have hge2 : o + vs.length <= j := by
       rcases Nat.lt_or_ge j (o + vs.length) with h3 | h3
       · exact absurd ⟨hge, h3⟩ hjo
       · exact h3
     rw [List.getElem?_append_right (by simp only [List.length_append, ht]; omega), List.length_append, ht, List.getElem?_drop] at hj
     rw [show j = o + vs.length + (j - (o + vs.length)) from by omega]; exact hj
theorem bX.set (hb : bX h b L) {j : Nat} {v : DV} (hv : v.one = true) (hj : j < L.length) :
   ∃ h', eK 1 (.ptr b j) v h = some (.tup [], h') /\ bX h' b (L.set j v) /\ rL b h h' := by
 obtain ⟨h', f1, f2, f3⟩ := hb.store (vs := [v]) (o := j) (by simp [hv]) (by simp; omega)
 refine ⟨h', ?_, ?_, f3⟩
 · rw [mS]; have hc : v.cells = [v] := by cases v <;> first | rfl | cases hv
   simp only [dSt, hc, List.length_singleton, Nat.beq_refl, cond_true, f1, Option.map_some]
 · have : L.take j ++ [v] ++ L.drop (j + [v].length) = L.set j v := by
     rw [List.set_eq_take_append_cons_drop, if_pos hj]; simp
   rw [<- this]; exact f2
theorem bX.text {s : Ln} (hb : bX h b (bC s)) (hok : aW s = true) (c : Nat) (op : Bool) : iT h.get (.slc b 0 s.length c op) = some (.str s) := by
 have hr := hb.cells_all; have hlen : (bC s).length = s.length := by simp [bC]
 rw [hlen] at hr; simp only [iT, bT, hr, Option.bind_some, nA hok, fV]
end
theorem bX.pushed {h : H} {L : List DV} {pl : Bool} : bX (h.push (.blk ⟨L.length, 1, false, pl, Tr.ofL L⟩)) h.size L :=
 ⟨by rw [H.size_push]; omega, pl, _, by rw [H.get_push, if_pos rfl], λ j x hj => by rw [Tr.at_ofL]; exact hj⟩
theorem bX.push {h : H} {b : Nat} {L : List DV} (hb : bX h b L) (o : eY) : bX (h.push o) b L := by
 obtain ⟨hlt, pl, t, h1, h2⟩ := hb; exact ⟨by rw [H.size_push]; omega, pl, t, by rw [H.get_push, if_neg (by omega)]; exact h1, h2⟩
theorem bX.made {h : H} {z : DV} {n : Nat} (hn : n < 140737488355328) : bX (h.push (.blk ⟨n, 1, false, true, Tr.full z 48⟩)) h.size (List.replicate n z) := by
 refine ⟨by rw [H.size_push]; omega, true, _, by rw [H.get_push, if_pos rfl, List.length_replicate], λ j x hj => ?_⟩
 have hlt : j < n := by
   rcases Nat.lt_or_ge j n with h3 | h3
   · exact h3
   · rw [List.getElem?_eq_none (by simpa using h3)] at hj; cases hj
 have hx : x = z := by
   rw [List.getElem?_replicate, if_pos hlt] at hj; exact (Option.some.inj hj).symm
 subst hx; exact Tr.at_full _ (by omega)
structure dH (n0 : Nat) (h h' : H) : Prop where
 size : h.size <= h'.size
 get : ∀ c, c < n0 -> h'.get c = h.get c
theorem dH.refl (n0 : Nat) (h : H) : dH n0 h h := ⟨Nat.le_refl _, λ _ _ => rfl⟩
theorem dH.trans {n0 : Nat} {x y z : H} (a : dH n0 x y) (c : dH n0 y z) : dH n0 x z := ⟨Nat.le_trans a.size c.size, λ i hi => (c.get i hi).trans (a.get i hi)⟩
theorem dH.grown {h h' : H} (a : dH h.size h h') : bF h h' := ⟨a.size, a.get⟩
theorem rL.keeps {n0 b : Nat} {h h' : H} (k : rL b h h') (hb : n0 <= b) : dH n0 h h' := ⟨by rw [k.size]; exact Nat.le_refl _, λ c hc => k.get c (by omega)⟩
theorem dH.push {n0 : Nat} {h : H} (hn : n0 <= h.size) (o : eY) : dH n0 h (h.push o) := ⟨by rw [H.size_push]; omega, λ c hc => by rw [H.get_push, if_neg (by omega)]⟩
def cL (n0 : Nat) (h : H) (v : DV) (L : List DV) : Prop := (v = .nils /\ L = []) \/ ∃ b, n0 <= b /\ v = .slc b 0 L.length L.length true /\ bX h b L
theorem cL.nil (n0 : Nat) (h : H) : cL n0 h .nils [] := .inl ⟨rfl, rfl⟩
theorem cL.len {n0 : Nat} {h : H} {v : DV} {L : List DV} (o : cL n0 h v L) : bO v = some (.int .i64 (.ofNat L.length)) := by
 rcases o with ⟨rfl, rfl⟩ | ⟨b, _, rfl, _⟩ <;> rfl
theorem cL.append {n0 : Nat} {h : H} {v x : DV} {L new : List DV} {bytes : Nat} (o : cL n0 h v L) (hn0 : n0 <= h.size) (hl : fI x = some new.length) (hc : eG 1 h.get x = some new) (h1 : new.all DV.one = true) (hne : new ≠ [])
   (hs : (L.length + new.length) * bytes < bP) (hs2 : L.length + new.length < bP) : ∃ v' h', cT 1 bytes v x h = some (v', h') /\ cL n0 h' v' (L ++ new) /\ dH n0 h h' := by
 have hpos : 0 < new.length := List.length_pos_iff.2 hne; rcases o with ⟨rfl, rfl⟩ | ⟨b, hb0, rfl, hb⟩
 · refine ⟨.slc h.size 0 new.length new.length true, h.push (.blk ⟨new.length, 1, false, true, Tr.ofL new⟩), ?_, .inr ⟨h.size, hn0, ?_, ?_⟩, dH.push hn0 _⟩
   · rw [iX]; simp only [iF, hl, hc, Option.bind_some]; simp only [List.length_nil, Nat.zero_add] at hs hs2; rw [bDA (show new.length ≠ 0 by omega), dL hs, dL hs2]
     simp only [cond_false, Bool.and_self, cond_true, H.pushK_eq, Nat.mul_one]
   · simp
   · simpa using bX.pushed
 · obtain ⟨hlt, pl, t, g1, g2⟩ := hb; refine ⟨.slc h.size 0 (L.length + new.length) (L.length + new.length) true, (h.push (.blk ⟨(L.length + new.length) * 1, 1, false, false, Tr.ofF new (L.length * 1) t⟩)).put b .dead, ?_, .inr ⟨h.size, hn0, ?_, ?_⟩, ?_⟩
   · rw [iX]; simp only [iF, hl, hc, Option.bind_some, aR]; rw [qC (show ¬ L.length + new.length <= L.length by omega), dL hs, dL hs2]
     simp only [cond_false, Bool.and_self, cond_true, g1, h1, Nat.zero_add, Nat.mul_one, Nat.beq_refl, Bool.not_false, Nat.ble_eq_true_of_le (Nat.le_refl _), yU, Option.bind_some, H.pushK_eq, H.putK_eq]
   · simp
   · refine ⟨by rw [H.size_put, H.size_push]; omega, false, Tr.ofF new (L.length * 1) t, ?_, λ j x hj => ?_⟩
     · rw [H.get_put, if_neg (by omega), H.get_push, if_pos rfl, List.length_append, Nat.mul_one]
     · rw [Tr.at_ofF, Nat.mul_one]; rcases Nat.lt_or_ge j L.length with hj1 | hj1
       · rw [if_neg (by omega)]
         rw [List.getElem?_append_left hj1] at hj; exact g2 j x hj
       · rw [List.getElem?_append_right hj1] at hj; have : j - L.length < new.length := by
           rcases Nat.lt_or_ge (j - L.length) new.length with h3 | h3
           · exact h3
           · rw [List.getElem?_eq_none h3] at hj; cases hj
         rw [if_pos ⟨hj1, by omega⟩]; exact hj
   · refine ⟨by rw [H.size_put, H.size_push]; omega, λ c hc' => ?_⟩
     rw [H.get_put, if_neg (by omega), H.get_push, if_neg (by omega)]
theorem cL.push1 {n0 : Nat} {h : H} {v x z : DV} {L : List DV} {bytes : Nat} (o : cL n0 h v L) (hn0 : n0 <= h.size) (h1 : x.one = true)
   (hs : (L.length + 1) * bytes < bP) (hs2 : L.length + 1 < bP) : ∃ v' h', (∀ (R : Type) (k : DV -> H -> Option R), (eM 1 1 [z] [(0, 1, x)] h λ y h' => wK (cT 1 bytes v y h') k) = k v' h') /\ cL n0 h' v' (L ++ [x]) /\ dH n0 h h' := by
 let h1' := h.push (.blk ⟨1 * 1, 1, false, true, Tr.ofL [x]⟩)
 have hp : bX h1' h.size [x] := bX.pushed (h := h) (L := [x]) (pl := true); have o' : cL n0 h1' v L := by
   rcases o with ⟨rfl, rfl⟩ | ⟨b, hb0, rfl, hb⟩
   · exact .inl ⟨rfl, rfl⟩
   · exact .inr ⟨b, hb0, rfl, hb.push _⟩
 obtain ⟨v', h', f1, f2, f3⟩ := o'.append (x := .slc h.size 0 1 1 false) (new := [x]) (bytes := bytes) (by show n0 <= (h.push _).size; rw [H.size_push]; omega) rfl
   (by simpa [eG] using hp.cells_all) (by simp [h1]) (by simp) hs hs2
 refine ⟨v', h', λ R k => ?_, f2, (dH.push hn0 _).trans f3⟩
 have hf : fW (iR [z] 1) [(0, 1, x)] = some [x] := by
   have hc : x.cells = [x] := by cases x <;> first | rfl | cases h1
   simp [fW, iR, hc, pP]; rfl
 simp only [eM, hf, Option.bind_some, H.pushK_eq]; show wK (cT 1 bytes v (.slc h.size 0 1 1 false) h1') k = _; rw [f1]; rfl
theorem cL.lt {n0 : Nat} {h : H} {v : DV} {L : List DV} (o : cL n0 h v L) (hL : L ≠ []) : ∃ b, n0 <= b /\ v = .slc b 0 L.length L.length true /\ bX h b L := by
 rcases o with ⟨rfl, rfl⟩ | o
 · exact absurd rfl hL
 · exact o
theorem cL.load1 {n0 : Nat} {h : H} {v x : DV} {L : List DV} {j : Nat} (o : cL n0 h v L) (hj : L[j]? = some x) (k : IntKind) :
   ∃ b, cV 1 v (.int k (.ofNat j)) = some (.ptr b j) /\ aO h.get (.ptr b j) = some x := by
 have hlt : j < L.length := by
   rcases Nat.lt_or_ge j L.length with h3 | h3
   · exact h3
   · rw [List.getElem?_eq_none h3] at hj; cases hj
 obtain ⟨b, hb0, rfl, hb⟩ := o.lt (by intro e; subst e; simp at hlt)
 exact ⟨b, aH hlt k, hb.read hj⟩
theorem cL.text {n0 : Nat} {h : H} {v : DV} {s : Ln} (o : cL n0 h v (bC s)) (hok : aW s = true) : iT h.get v = some (.str s) := by
 have hl : (bC s).length = s.length := by simp [bC]
 rcases o with ⟨rfl, e⟩ | ⟨b, _, rfl, hb⟩
 · have : s = [] := by
     cases s with
     | nil => rfl
     | cons _ _ => cases e
   subst this; rfl
 · rw [hl]; exact hb.text hok _ _
def jS (s : Ln) (n : Nat) : Ln := s ++ List.replicate (n - s.length) 0
theorem yS {s : Ln} {n : Nat} (h : s.length <= n) : (jS s n).length = n := by unfold jS; simp; omega
theorem aIv {s : Ln} (h : aW s = true) (n : Nat) : aW (jS s n) = true := eJ h (iW _)
theorem sH {s : Ln} (h : aW s = true) (n : Nat) : aW (s.take n) = true := by
 rw [gX] at h ⊢; intro b hb; exact h b (List.mem_of_mem_take hb)
theorem aKQ {s : Ln} (h : aW s = true) (n : Nat) : aW (s.drop n) = true := by
 rw [gX] at h ⊢; intro b hb; exact h b (List.mem_of_mem_drop hb)
theorem kP (s t : Ln) : bC (s ++ t) = bC s ++ bC t := by simp [bC]
theorem uT (s : Ln) (n : Nat) : bC (s.take n) = (bC s).take n := by simp [bC, List.map_take]
theorem aJA (s : Ln) (n : Nat) : bC (s.drop n) = (bC s).drop n := by simp [bC, List.map_drop]
theorem cJ (s : Ln) : (bC s).length = s.length := by simp [bC]
theorem aLB (s : Ln) (j x : Nat) : bC (s.set j x) = (bC s).set j (iH x) := by simp [bC, List.map_set]
theorem fH (k : IntKind) (a b : Nat) : dW (.int k (.ofNat a)) (.int k (.ofNat b)) = some (.bool (decide (b < a))) := by rw [aAg, aSN]
theorem cN (k : IntKind) (a b : Nat) : bY (.int k (.ofNat a)) (.int k (.ofNat b)) = some (.bool (decide (a < b))) := by rw [jI, aSN]
theorem aG {a b : Nat} (h : b <= a) (ha : a < 9223372036854775808) : jD (.int .i64 (.ofNat a)) (.int .i64 (.ofNat b)) = some (.int .i64 (.ofNat (a - b))) := by
 rw [aAd, show Int.ofNat a - Int.ofNat b = Int.ofNat (a - b) from by simp only [Int.ofNat_eq_natCast]; omega, wrap_i64 (by omega)]
theorem aF {a b : Nat} (h : a + b < 9223372036854775808) : cF (.int .i64 (.ofNat a)) (.int .i64 (.ofNat b)) = some (.int .i64 (.ofNat (a + b))) := by
 rw [qQ, show Int.ofNat a + Int.ofNat b = Int.ofNat (a + b) from rfl, wrap_i64 h]
theorem aQr (k : IntKind) {a : Int} (h : a < 0) : bY (.int k a) (.int k (.ofNat 0)) = some (.bool true) := by
 rw [jI]; simp [h]
def xU : bQ := λ args h => match args with
 | [] => some (.bool true, h)
 | _ => none
theorem bU.goodW {N0 : Nat} {w0 : World} {m : Mp} {h : H} {w : World} (hw : bU N0 w0 m h w) : aWZ w := λ x hx => by
 obtain ⟨g1, g2⟩ := hw.good x hx; have := hw.below.block x.1 g1; simp only [World.cell?] at g2 ⊢; rw [this]; exact g2
theorem aKC {P : Program} {B : bH} {T : Tr (bH -> bQ)} {f : FuncId} {s : bH -> bQ} (hB : gT P B) (hT : aJM P T) (hf : T.at_ f = some s) {n : Nat} (hrun : (s (SE B T n) [] H0).map (·.1) = some (.bool true)) : gJ P f xU := by
 intro N0 w0 m h w args args' v h' hr ht hw; unfold xU at hr; split at hr
 · cases hr; simp only [trs, Option.some.injEq] at ht; subst ht; exact (calls_true2 hB hT hf (args := []) (args' := []) rfl hrun w hw.goodW).mono λ e w' hh => ⟨m, .bool true, hh.1, rfl, hw.after hh.2, gY.refl _ _⟩
 · cases hr
def iN (l : List (Ln)) : List DV := l.map DV.str
theorem nU (a b : List (Ln)) : iN (a ++ b) = iN a ++ iN b := by simp [iN]
theorem dP (l : List (Ln)) : (iN l).length = l.length := by simp [iN]
theorem aEA {l : List (Ln)} {j : Nat} {s : Ln} (h : l[j]? = some s) : (iN l)[j]? = some (.str s) := by simp [iN, h]
theorem cL.keep {n0 n1 : Nat} {h h' : H} {v : DV} {L : List DV} (o : cL n0 h v L) (k : dH n1 h h') (hn : h.size <= n1) : cL n0 h' v L := by
 rcases o with o | ⟨b, hb, e, hlt, pl, t, g1, g2⟩
 · exact .inl o
 · exact .inr ⟨b, hb, e, Nat.lt_of_lt_of_le hlt k.size, pl, t, by rw [k.get b (by omega)]; exact g1, g2⟩
theorem cL.mono {n0 n1 : Nat} {h : H} {v : DV} {L : List DV} (o : cL n0 h v L) (hn : n1 <= n0) : cL n1 h v L := by
 rcases o with o | ⟨b, hb, e⟩
 · exact .inl o
 · exact .inr ⟨b, by omega, e⟩
theorem vG {s t : Ln} (h : s.length + t.length < nV) : cF (.str s) (.str t) = some (.str (s ++ t)) := by
 show (bif Nat.blt (s.length + t.length) nV then tO (s ++ t) else none) = _; rw [dL h, fV]; rfl
theorem aKL (n : Nat) : iR [0] n = List.replicate n 0 := by
 induction n with
 | zero => rfl
 | succ n ih => rw [List.replicate_succ, <- ih]; rfl
theorem aHw (n : Nat) (hn : n <= 140737488355328) (h : H) : rI [.str [0], .int .i64 (.ofNat n)] h = some (.str (List.replicate n 0), h) := by
 show (bif Nat.ble n 9223372036854775807 && Nat.ble (([0] : Ln).length * n) 140737488355328 then (tO (iR [0] n)).map λ v => (v, h) else none) = _
 rw [Nat.ble_eq_true_of_le (by omega), Nat.ble_eq_true_of_le (by simp; omega), fV, aKL]; rfl
def pH (n : Nat) : Nat -> Ln -> List (Ln)
 | 0, _ => []
 | k + 1, s => if s = [] then [] else jS (s.take n) n :: pH n k (s.drop n)
theorem uP (n k : Nat) : pH n k [] = [] := by cases k <;> rfl
theorem aFo {n k : Nat} {s : Ln} (h : s ≠ []) : pH n (k + 1) s = jS (s.take n) n :: pH n k (s.drop n) := by rw [pH, if_neg h]
end Go.DI
namespace Go.DI
open Go.RowKit
theorem lG {α : Type} {l : List α} {j : Nat} {x : α} (h : l[j]? = some x) : j < l.length := by
 rcases Nat.lt_or_ge j l.length with h1 | h1
 · exact h1
 · rw [List.getElem?_eq_none h1] at h; cases h
def lW (h : H) (v : DV) (L : List DV) : Prop :=
 (L = [] /\ (v = .nils \/ ∃ b o o2, v = .slE b o o2)) \/ ∃ b o c op, v = .slc b o L.length c op /\ L.length <= c /\ b < h.size /\ ∀ j x, L[j]? = some x -> rdCell h.get b (o + j) = some x
section
variable {h h' : H} {v : DV} {L : List DV}
theorem lW.nil (h : H) : lW h .nils [] := .inl ⟨rfl, .inl rfl⟩
theorem lW.len (r : lW h v L) : bO v = some (.int .i64 (.ofNat L.length)) := by
 rcases r with ⟨rfl, rfl | ⟨b, o, o2, rfl⟩⟩ | ⟨b, o, c, op, rfl, _⟩ <;> rfl
theorem lW.grown (r : lW h v L) (g : bF h h') : lW h' v L := by
 rcases r with r | ⟨b, o, c, op, e, hc, hb, hx⟩
 · exact .inl r
 · exact .inr ⟨b, o, c, op, e, hc, Nat.lt_of_lt_of_le hb g.size, λ j x hj => by rw [pS (g.get b hb)]; exact hx j x hj⟩
theorem aRT {b o n c j : Nat} {op : Bool} (hj : j < n) (k : IntKind) : cV 1 (.slc b o n c op) (.int k (.ofNat j)) = some (.ptr b (o + j)) := by
 simp only [cV, nM, aR]; rw [dL hj]; simp
theorem lW.at (r : lW h v L) {j : Nat} {x : DV} (hj : L[j]? = some x) (k : IntKind) : ∃ b o, cV 1 v (.int k (.ofNat j)) = some (.ptr b o) /\ aO h.get (.ptr b o) = some x := by
 rcases r with ⟨rfl, _⟩ | ⟨b, o, c, op, rfl, _, _, hx⟩
 · cases hj
 · exact ⟨b, o + j, aRT (lG hj) k, by simp only [aO, cE]; exact hx j x hj⟩
end
theorem bX.row {h : H} {b : Nat} {L : List DV} (hb : bX h b L) (op : Bool) : lW h (.slc b 0 L.length L.length op) L :=
 .inr ⟨b, 0, _, op, rfl, Nat.le_refl _, hb.1, λ j x hj => by rw [Nat.zero_add]; exact hb.rd hj⟩
theorem cL.row {n0 : Nat} {h : H} {v : DV} {L : List DV} (o : cL n0 h v L) : lW h v L := by
 rcases o with ⟨rfl, rfl⟩ | ⟨b, hb0, rfl, hb⟩
 · exact lW.nil h
 · exact hb.row true
theorem aEu (k : IntKind) {a b : Nat} (hb : 0 < b) : aCf (.int k (.ofNat a)) (.int k (.ofNat b)) = some (.int k (.ofNat (a % b))) := by
 show (bif kEq k k then aOc k (.ofNat a) (.ofNat b) else none) = _; rw [gQ]; show (bif iEq (.ofNat b) 0 then none else aGq ((Int.ofNat a).tmod (.ofNat b)) λ n => some (DV.int k n)) = _
 rw [mF, show ((Int.ofNat b) == 0) = false from by simp; omega, cond_false, lR]; rfl
theorem aEv {a b : Nat} (hb : 0 < b) (ha : a < 9223372036854775808) : aCg (.int .i64 (.ofNat a)) (.int .i64 (.ofNat b)) = some (.int .i64 (.ofNat (a / b))) := by
 show (bif kEq .i64 .i64 then aOd .i64 (.ofNat a) (.ofNat b) else none) = _; rw [gQ]; show (bif iEq (.ofNat b) 0 then none else iP .i64 ((Int.ofNat a).tdiv (.ofNat b))) = _; rw [mF, show ((Int.ofNat b) == 0) = false from by simp; omega, cond_false, gR]
 rw [show (Int.ofNat a).tdiv (.ofNat b) = .ofNat (a / b) from rfl, wrap_i64 (by have := Nat.div_le_self a b; omega)]
theorem aAh (k : IntKind) (a b : Int) : fK (.int k a) (.int k b) = some (.bool (decide (b <= a))) := by
 show (bif kEq k k then aOj k a b else none) = _; rw [gQ]; show eI (iLe b a) = _; rw [fG, aLb]
theorem aEx (k : IntKind) (a b : Int) : tY (.int k a) (.int k b) = some (.bool (decide (a <= b))) := by
 show (bif kEq k k then aOh k a b else none) = _; rw [gQ]; show eI (iLe a b) = _; rw [fG, aLb]
theorem aSQ (a b : Nat) : decide (Int.ofNat a <= Int.ofNat b) = decide (a <= b) := by
 rw [decide_eq_decide]; simp only [Int.ofNat_eq_natCast]; omega
theorem oF (k : IntKind) (a b : Nat) : fK (.int k (.ofNat a)) (.int k (.ofNat b)) = some (.bool (decide (b <= a))) := by rw [aAh, aSQ]
theorem aEw (k : IntKind) (a b : Nat) : tY (.int k (.ofNat a)) (.int k (.ofNat b)) = some (.bool (decide (a <= b))) := by rw [aEx, aSQ]
theorem yD (n : Int) : IntKind.u64.wrap n = n % 18446744073709551616 := by simp [IntKind.wrap, IntKind.bits, IntKind.signed]
theorem aFM (a : Int) : ∃ n : Nat, n < 18446744073709551616 /\ IntKind.u64.wrap a = .ofNat n := by
 refine ⟨(IntKind.u64.wrap a).toNat, ?_, ?_⟩ <;> rw [yD] <;> (try simp only [Int.ofNat_eq_natCast]) <;> omega
theorem oJ {n : Nat} (h : n < 18446744073709551616) : IntKind.u64.wrap (.ofNat n) = .ofNat n := by
 rw [yD]; simp only [Int.ofNat_eq_natCast]; omega
theorem aUp (a : Int) {n : Nat} (hn : 0 < n) (hn2 : n < 9223372036854775808) : ∃ i, i < n /\ cS .u64 (.int .i64 a) = some (.int .u64 (IntKind.u64.wrap a)) /\ cS .u64 (.int .i64 (.ofNat n)) = some (.int .u64 (.ofNat n)) /\
   aCf (.int .u64 (IntKind.u64.wrap a)) (.int .u64 (.ofNat n)) = some (.int .u64 (.ofNat i)) /\ cS .i64 (.int .u64 (.ofNat i)) = some (.int .i64 (.ofNat i)) := by
 obtain ⟨m, hm, e⟩ := aFM a; have hlt := Nat.mod_lt m hn; refine ⟨m % n, hlt, gF _ _ _, ?_, ?_, ?_⟩
 · rw [gF, oJ (by omega)]
 · rw [e, aEu _ hn]
 · rw [gF, wrap_i64 (by omega)]
theorem bF.keeps {h h' : H} (g : bF h h') {n : Nat} (hn : n <= h.size) : dH n h h' := ⟨g.size, λ c hc => g.get c (by omega)⟩
end Go.DI
namespace Go.DI
open Go.RowKit
theorem Trod_lt {H : Type} {enc : TypeId × Value -> H} {P : Program} {W : World} {base : Nat} {sp : Nat -> Bool} {held : Bool} {t : TypeId} {v : Value} {d : DataW H} {ps : List MemPlace} (h : DataW.Trod enc P W base sp held t v d ps) : ∀ x ∈ ps, x.block < W.heap.size := λ x hx => by
 obtain ⟨n, e⟩ := h; exact DataW.trod_lt n _ _ _ e x hx
end Go.DI
namespace Go.DI
open Go.RowKit
section
variable {n0 : Nat} {h h' : H} {v : DV} {L : List DV}
end
end Go.DI
namespace Go.DI
open Go.RowKit
theorem sO {R : Type} (l : List DV) (t : Bool) (op : (DV -> H -> Option R) -> Option R) (h : H) (k : DV -> H -> Option R) : aQ (.tup l) t op h k = k (.tup []) h := id rfl
theorem kS (a : DV) (l : List DV) : aX 0 (.tup (a :: l)) = some a := id rfl
theorem kR (a b : DV) (l : List DV) : aX 1 (.tup (a :: b :: l)) = some b := id rfl
theorem aKA {s : Ln} {i j : Nat} (hi : i <= j) (hj : j <= s.length) (k k' : IntKind) : iM (.str s) (some (.int k (.ofNat i))) (some (.int k' (.ofNat j))) = some (.str ((s.take j).drop i)) := by
 simp only [iM, dE, dHi, dLo]; rw [Nat.ble_eq_true_of_le hj, cond_true, Nat.ble_eq_true_of_le hi, cond_true, fV]
theorem aK (k k' : IntKind) (a b : Nat) : aAf (.int k (.ofNat a)) (.int k' (.ofNat b)) = some (.int k (.ofNat (min a b))) := by
 simp only [aAf, mE]
 congr 2
 by_cases h : b < a
 · rw [show decide (Int.ofNat b < Int.ofNat a) = true from by simp only [Int.ofNat_eq_natCast, decide_eq_true_iff]; omega]
   show Int.ofNat b = _; congr 1; omega
 · rw [show decide (Int.ofNat b < Int.ofNat a) = false from by simp only [Int.ofNat_eq_natCast, decide_eq_false_iff_not]; omega]
   show Int.ofNat a = _; congr 1; omega
theorem lX (k : IntKind) (a b : Nat) : dQ (.int k (.ofNat a)) (.int k (.ofNat b)) = some (.bool (!decide (a = b))) := by
 rw [vF]; congr 2; rw [Bool.eq_iff_iff]; simp only [bne_iff_ne, ne_eq, Int.ofNat_eq_natCast, Bool.not_eq_true', decide_eq_false_iff_not]; omega
theorem oE (s t : Ln) : dQ (.str s) (.str t) = some (.bool (s != t)) := by
 show eI (!sEq s t) = _; rw [fG, uE]; rfl
end Go.DI
namespace Go.DI
open Go.RowKit
def aB (h : H) (b : Nat) (L : List DV) : Prop := b < h.size /\ ∃ es t, h.get b = some (.blk ⟨L.length, es, false, true, t⟩) /\ ∀ j x, L[j]? = some x -> t.at_ j = some x
section
variable {h h' : H} {b : Nat} {L : List DV}
theorem aB.rd (hb : aB h b L) {j : Nat} {x : DV} (hj : L[j]? = some x) : rdCell h.get b j = some x := by
 obtain ⟨hlt, es, t, h1, h2⟩ := hb; rw [rX h1 (lG hj)]; exact h2 j x hj
theorem aB.read (hb : aB h b L) {j : Nat} {x : DV} (hj : L[j]? = some x) : aO h.get (.ptr b j) = some x := by
 simp only [aO, cE]; exact hb.rd hj
theorem aB.cells (hb : aB h b L) {o k : Nat} (hk : o + k <= L.length) : rdCells h.get b o k = some ((L.drop o).take k) := by
 have hl : ((L.drop o).take k).length = k := by simp; omega
 have := mB (rd := h.get) (b := b) ((L.drop o).take k) o λ i v hi => hb.rd (by
   rw [List.getElem?_take] at hi; split at hi
   · rw [List.getElem?_drop] at hi; exact hi
   · cases hi)
 rw [hl] at this; exact this
theorem aB.readN (hb : aB h b L) {o k : Nat} (hk : o + k <= L.length) : dD k h.get (.ptr b o) = some (.agg ((L.drop o).take k)) := by
 simp only [dD, bT, hb.cells hk]; rfl
theorem aB.but (hb : aB h b L) {c : Nat} (hc : b ≠ c) (k : rL c h h') : aB h' b L := by
 obtain ⟨hlt, es, t, h1, h2⟩ := hb; exact ⟨by rw [k.size]; exact hlt, es, t, by rw [k.get b hc]; exact h1, h2⟩
theorem aB.grown (hb : aB h b L) (g : bF h h') : aB h' b L := by
 obtain ⟨hlt, es, t, h1, h2⟩ := hb; exact ⟨Nat.lt_of_lt_of_le hlt g.size, es, t, by rw [g.get b hlt]; exact h1, h2⟩
theorem aB.keep {n : Nat} (hb : aB h b L) (k : dH n h h') (hn : b < n) : aB h' b L := by
 obtain ⟨hlt, es, t, h1, h2⟩ := hb; exact ⟨Nat.lt_of_lt_of_le hlt k.size, es, t, by rw [k.get b hn]; exact h1, h2⟩
theorem aB.store (hb : aB h b L) {vs : List DV} {o : Nat} (hv : vs.all DV.one = true) (ho : o + vs.length <= L.length) :
   ∃ h', eZ vs h b o = some h' /\ aB h' b (L.take o ++ vs ++ L.drop (o + vs.length)) /\ rL b h h' := by
 obtain ⟨hlt, es, t, h1, h2⟩ := hb; obtain ⟨h', t', f1, f2, f3, f4, f5⟩ := pW (h := h) (b := b) (o := o) (vs := vs) h1 rfl ho hv; have hlen : (L.take o ++ vs ++ L.drop (o + vs.length)).length = L.length := by simp; omega
 refine ⟨h', f1, ⟨by rw [f2]; exact hlt, es, t', by rw [f4, hlen], λ j x hj => ?_⟩, ⟨f2, f3⟩⟩
 rw [f5]; have ht : (L.take o).length = o := by simp; omega
 by_cases hjo : o <= j /\ j < o + vs.length
 · rw [if_pos hjo]; rw [List.append_assoc, List.getElem?_append_right (by omega), ht, List.getElem?_append_left (by omega)] at hj
   exact hj
 · rw [if_neg hjo]; apply h2; rcases Nat.lt_or_ge j o with hlt | hge
   · rw [List.append_assoc, List.getElem?_append_left (by omega), List.getElem?_take, if_pos hlt] at hj
     exact hj
   · have hge2 : o + vs.length <= j := by
       rcases Nat.lt_or_ge j (o + vs.length) with h3 | h3
       · exact absurd ⟨hge, h3⟩ hjo
       · exact h3
     rw [List.getElem?_append_right (by simp only [List.length_append, ht]; omega), List.length_append, ht, List.getElem?_drop] at hj
     rw [show j = o + vs.length + (j - (o + vs.length)) from by omega]; exact hj
theorem vU {v : DV} (hv : v.one = true) : v.cells = [v] := by cases v <;> first | rfl | cases hv
theorem aB.set (hb : aB h b L) {j : Nat} {v : DV} (hv : v.one = true) (hj : j < L.length) :
   ∃ h', eK 1 (.ptr b j) v h = some (.tup [], h') /\ aB h' b (L.set j v) /\ rL b h h' := by
 obtain ⟨h', f1, f2, f3⟩ := hb.store (vs := [v]) (o := j) (by simp [hv]) (by simp; omega)
 refine ⟨h', ?_, ?_, f3⟩
 · rw [mS]; simp only [dSt, vU hv, List.length_singleton, Nat.beq_refl, cond_true, f1, Option.map_some]
 · have : L.take j ++ [v] ++ L.drop (j + [v].length) = L.set j v := by
     rw [List.set_eq_take_append_cons_drop, if_pos hj]; simp
   rw [<- this]; exact f2
theorem aB.setN (hb : aB h b L) {o n : Nat} {cs : List DV} (hn : cs.length = n) (hv : cs.all DV.one = true) (ho : o + n <= L.length) :
   ∃ h', eK n (.ptr b o) (.agg cs) h = some (.tup [], h') /\ aB h' b (L.take o ++ cs ++ L.drop (o + n)) /\ rL b h h' := by
 subst hn; obtain ⟨h', f1, f2, f3⟩ := hb.store (vs := cs) (o := o) hv ho; refine ⟨h', ?_, f2, f3⟩; rw [mS]; have : (DV.agg cs).cells = cs := rfl; simp only [dSt, this, Nat.beq_refl, cond_true, f1, Option.map_some]
theorem vM {R : Type} (cs : List DV) (h : H) (k : DV -> H -> Option R) : dJ (.agg cs) h k = k (.ptr h.size 0) (h.push (.blk ⟨cs.length, cs.length, false, true, Tr.ofL cs⟩)) := by
 simp only [dJ, aR, H.pushK_eq]; rfl
theorem vL {R : Type} {v : DV} (hv : v.one = true) (h : H) (k : DV -> H -> Option R) : dJ v h k = k (.ptr h.size 0) (h.push (.blk ⟨1, 1, false, true, Tr.ofL [v]⟩)) := by
 simp only [dJ, aR, H.pushK_eq, vU hv]; rfl
theorem aB.pushed {L : List DV} {es : Nat} : aB (h.push (.blk ⟨L.length, es, false, true, Tr.ofL L⟩)) h.size L :=
 ⟨by rw [H.size_push]; omega, es, _, by rw [H.get_push, if_pos rfl], λ j x hj => by rw [Tr.at_ofL]; exact hj⟩
theorem aB.text {s : Ln} {o c : Nat} {op : Bool} (hb : aB h b L) (hs : (L.drop o).take s.length = bC s) (hk : o + s.length <= L.length) (hok : aW s = true) : iT h.get (.slc b o s.length c op) = some (.str s) := by
 simp only [iT, bT, hb.cells hk, hs, Option.bind_some, nA hok, fV]
end
@[simp] theorem bM (b o : Nat) : aD (.ptr b o) = some (.ptr b o) := id rfl
theorem aE (off b o : Nat) : aP off (.ptr b o) = some (.ptr b (o + off)) := by simp only [aP, aR]
theorem aQs {len es b o j : Nat} (hj : j < len) (k : IntKind) : pL len es (.ptr b o) (.int k (.ofNat j)) = some (.ptr b (o + j * es)) := by
 simp only [pL, nM, aR]; rw [dL hj]; rfl
theorem aRS {n b o j : Nat} (hj : j <= n) (hn : 0 < n) (k : IntKind) : aCe n 1 (.ptr b o) none (some (.int k (.ofNat j))) = some (.slc b o j n false) := by
 simp only [aCe, dE, dHi, dLo]; rw [Nat.ble_eq_true_of_le hj, cond_true, Nat.ble_eq_true_of_le (Nat.zero_le _), cond_true, dL hn, cond_true]; simp [aR]
theorem aDn (rd : Rd) : ∀ {a b : Ln}, a.length = b.length -> rD rd .int (bC a) (bC b) = some (decide (a = b))
 | [], [], _ => rfl
 | x :: a, y :: b, h => by
   have e : rD rd .int (bC (x :: a)) (bC (y :: b)) = bif iEq (.ofNat x) (.ofNat y) then rD rd .int (bC a) (bC b) else some false := rfl; rw [e, aDn rd (a := a) (b := b) (by simpa using h), mF]
   by_cases hxy : x = y
   · subst hxy; simp
   · have : ((Int.ofNat x) == (Int.ofNat y)) = false := by
       rw [Bool.eq_false_iff]; simp only [ne_eq, beq_iff_eq, Int.ofNat_eq_natCast]; omega
     rw [this]; simp [hxy]
theorem aHT (rd : Rd) {n : Nat} {a b : Ln} (ha : a.length = n) (hb : b.length = n) (x y : Nat) :
   uA false (.arr .int 0 n (.leaf .int n .nil)) rd (.agg (bC a ++ [.int .i64 (.ofNat x)])) (.agg (bC b ++ [.int .i64 (.ofNat y)])) = some (.bool (decide (a = b) && decide (x = y))) := by
 have la : (bC a).length = n := by rw [cJ, ha]
 have lb : (bC b).length = n := by rw [cJ, hb]
 have e : jO rd (.arr .int 0 n (.leaf .int n .nil)) (bC a ++ [.int .i64 (.ofNat x)]) (bC b ++ [.int .i64 (.ofNat y)]) = some (decide (a = b) && decide (x = y)) := by
   show (bif Nat.ble (0 + n) (bC a ++ [_]).length && Nat.ble (0 + n) (bC b ++ [_]).length then
     (match rD rd .int (((bC a ++ [_]).drop 0).take n) (((bC b ++ [_]).drop 0).take n) with
       | some c => bif c then jO rd (.leaf .int n .nil) (bC a ++ [_]) (bC b ++ [_]) else some false
       | none => none) else none) = _
   rw [Nat.ble_eq_true_of_le (by simp [la]), Nat.ble_eq_true_of_le (by simp [lb])]
   have t1 : ((bC a ++ [DV.int .i64 (.ofNat x)]).drop 0).take n = bC a := by rw [List.drop_zero, <- la]; simp
   have t2 : ((bC b ++ [DV.int .i64 (.ofNat y)]).drop 0).take n = bC b := by rw [List.drop_zero, <- lb]; simp
   rw [t1, t2, aDn rd (by omega)]
   simp only [Bool.and_self, cond_true]; cases decide (a = b) with
   | false => rfl
   | true =>
     simp only [cond_true, Bool.true_and]; have g1 : (bC a ++ [DV.int .i64 (.ofNat x)])[n]? = some (.int .i64 (.ofNat x)) := by rw [<- la]; simp
     have g2 : (bC b ++ [DV.int .i64 (.ofNat y)])[n]? = some (.int .i64 (.ofNat y)) := by rw [<- lb]; simp
     show (match (bC a ++ [DV.int .i64 (.ofNat x)])[n]?, (bC b ++ [DV.int .i64 (.ofNat y)])[n]? with
       | some a, some b => match iO rd .int a b with
         | some c => bif c then some true else some false
         | none => none
       | _, _ => none) = _
     rw [g1, g2]; show (match iO rd .int (DV.int .i64 (.ofNat x)) (DV.int .i64 (.ofNat y)) with
         | some c => bif c then some true else some false
         | none => none) = _
     have : iO rd .int (DV.int .i64 (.ofNat x)) (DV.int .i64 (.ofNat y)) = some (decide (x = y)) := by
       show (bif decide (IntKind.i64 = IntKind.i64) then some (iEq (.ofNat x) (.ofNat y)) else none) = _; rw [decide_eq_true rfl, cond_true, mF]
       congr 1
       rw [Bool.eq_iff_iff, beq_iff_eq, decide_eq_true_iff]; simp only [Int.ofNat_eq_natCast]; omega
     rw [this]; cases decide (x = y) <;> rfl
 unfold uA; simp only [e, Option.bind_some, fG]; rfl
end Go.DI
namespace Go.DI
open Go.RowKit
theorem aAe (k' : IntKind) {a b : Nat} (hb : b <= 64) : tW (.int .u64 (.ofNat a)) (.int k' (.ofNat b)) = some (.int .u64 (.ofNat (a * 2 ^ b % 18446744073709551616))) := by
 show mI .shl .u64 (.ofNat a) (.ofNat b) = _; unfold mI; rw [show iLt (.ofNat b) 0 = false from by rw [mE]; simp]
 simp only [cond_false, gR]; rw [show min (Int.ofNat b).toNat IntKind.u64.bits = b from by show min b 64 = b; omega, yD]
 congr 2
theorem aQp {a : Nat} (ha : a < 9223372036854775808) (k' : IntKind) : lI (.int .i64 (.negSucc a)) (.int k' (.ofNat 63)) = some (.int .i64 (.negSucc 0)) := by
 show mI .shr .i64 (.negSucc a) (.ofNat 63) = _; unfold mI; rw [show iLt (.ofNat 63) 0 = false from by rw [mE]; simp]
 simp only [cond_false, lR]; rw [show min (Int.ofNat 63).toNat IntKind.i64.bits = 63 from rfl]
 congr 2
 rw [Int.fdiv_eq_ediv_of_nonneg _ (by omega)]
 omega
theorem aRW {u : Nat} (h : u < 18446744073709551616) : qP (.int .u64 (.ofNat u)) (.int .u64 (.ofNat 127)) = some (.int .u64 (.ofNat (u % 128))) := by
 have e : u &&& 127 = u % 128 := Nat.and_two_pow_sub_one_eq_mod u 7; rw [aAi .u64 u 127 (by show u < 2 ^ 64; omega) (by decide), e, oJ (by omega)]
theorem bDa {u : Nat} (h : u < 18446744073709551616) : qP (.int .u64 (.ofNat u)) (.int .u64 (.ofNat 1)) = some (.int .u64 (.ofNat (u % 2))) := by
 have e : u &&& 1 = u % 2 := Nat.and_two_pow_sub_one_eq_mod u 1; rw [aAi .u64 u 1 (by show u < 2 ^ 64; omega) (by decide), e, oJ (by omega)]
theorem aHR (k : IntKind) (a b : Nat) (ha : a < 2 ^ k.bits) (hb : b < 2 ^ k.bits) : aEd (.int k (.ofNat a)) (.int k (.ofNat b)) = some (.int k (k.wrap (.ofNat (a ||| b)))) := by
 show (bif kEq k k then aYH k (.ofNat a) (.ofNat b) else none) = _; rw [gQ]; show (bif Nat.blt a (2 ^ k.bits) && Nat.blt b (2 ^ k.bits) then iP k (.ofNat (Nat.lor a b)) else _) = _; rw [dL ha, dL hb]; exact gR _ _
set_option maxRecDepth 100000 in
theorem bDo : ∀ x, x < 256 -> x ||| 128 = x % 128 + 128 := by decide
theorem aYb {x : Nat} (h : x < 256) : aEd (.int .u8 (.ofNat x)) (.int .u8 (.ofNat 128)) = some (iH (x % 128 + 128)) := by
 rw [aHR .u8 x 128 (by show x < 2 ^ 8; omega) (by decide), bDo x h]
 unfold iH; rw [wrap_u8 (by omega)]
theorem aIs {a b i : Nat} (h : a < 2 ^ i) : a ||| b * 2 ^ i = a + b * 2 ^ i := by
 have := Nat.two_pow_add_eq_or_of_lt h b; rw [Nat.mul_comm b, Nat.or_comm]; omega
theorem conv_u8 (u : Nat) (k : IntKind) : cS .u8 (.int k (.ofNat u)) = some (.int .u8 (.ofNat (u % 256))) := by
 rw [gF, IntKind.wrap_u8]
 congr 2
theorem qF {b : Nat} (h : b < 18446744073709551616) (k : IntKind) : cS .u64 (.int k (.ofNat b)) = some (.int .u64 (.ofNat b)) := by
 rw [gF, oJ h]
theorem aFW {a b : Nat} (k k' : IntKind) (hb : b <= k.bits) : lI (.int k (.ofNat a)) (.int k' (.ofNat b)) = some (.int k (.ofNat (a / 2 ^ b))) := qO k k' a b hb
theorem aHL {x : Nat} (h : x < 18446744073709551616) : x ^^^ 18446744073709551615 = 18446744073709551615 - x := by
 apply Nat.eq_of_testBit_eq; intro i; rw [Nat.testBit_xor, show 18446744073709551615 - x = 2 ^ 64 - (x + 1) from by omega, Nat.testBit_two_pow_sub_succ h, show 18446744073709551615 = 2 ^ 64 - 1 from rfl, Nat.testBit_two_pow_sub_one]
 by_cases hi : i < 64
 · simp [hi]
 · have : x.testBit i = false := Nat.testBit_lt_two_pow (Nat.lt_of_lt_of_le h (by
     show 2 ^ 64 <= 2 ^ i; exact Nat.pow_le_pow_right (by omega) (by omega)))
   simp [hi, this]
def zz (n : Int) : Nat := match n with
 | .ofNat a => 2 * a
 | .negSucc a => 2 * a + 1
theorem bCR {n : Int} (h1 : -9223372036854775808 <= n) (h2 : n < 9223372036854775808) : ∃ (x y z : DV), cS .u64 (.int .i64 n) = some x /\ tW x (.int .u64 (.ofNat 1)) = some y /\ lI (.int .i64 n) (.int .u64 (.ofNat 63)) = some z /\
   ∃ w, cS .u64 z = some w /\ pK y w = some (.int .u64 (.ofNat (zz n))) := by
 cases n with
 | ofNat a =>
   simp only [Int.ofNat_eq_natCast] at h2; refine ⟨_, _, _, qF (by omega) _, aAe _ (by omega), aFW _ _ (by decide), _, qF (by omega) _, ?_⟩
   have e1 : a * 2 ^ 1 % 18446744073709551616 = 2 * a := by omega
   have e2 : a / 2 ^ 63 = 0 := by omega
   rw [e1, e2, lE .u64 _ _ (by show 2 * a < 2 ^ 64; omega) (by decide), Nat.xor_zero, oJ (by omega)]; rfl
 | negSucc a =>
   have ha : a < 9223372036854775808 := by omega
   have e0 : IntKind.u64.wrap (.negSucc a) = .ofNat (18446744073709551615 - a) := by
     rw [yD]; simp only [Int.ofNat_eq_natCast]; omega
   have e3 : IntKind.u64.wrap (.negSucc 0) = .ofNat 18446744073709551615 := by rw [yD]; rfl
   refine ⟨.int .u64 (.ofNat (18446744073709551615 - a)), _, _, by rw [gF, e0], aAe _ (by omega), aQp ha _, .int .u64 (.ofNat 18446744073709551615), by rw [gF, e3], ?_⟩
   have e1 : (18446744073709551615 - a) * 2 ^ 1 % 18446744073709551616 = 18446744073709551614 - 2 * a := by omega
   rw [e1, lE .u64 _ _ (by show 18446744073709551614 - 2 * a < 2 ^ 64; omega) (by decide), aHL (by omega), oJ (by omega)]
   have e5 : 18446744073709551615 - (18446744073709551614 - 2 * a) = 2 * a + 1 := by omega
   rw [e5]; rfl
theorem aQq (k : IntKind) (n : Int) : wL (.int k n) = some (.int k (k.wrap (0 - n))) := gR _ _
theorem bDD {n : Int} (h1 : -9223372036854775808 <= n) (h2 : n < 9223372036854775808) : IntKind.i64.wrap n = n := pJ (by omega) (by omega)
theorem aRX {u : Nat} (h : u < 18446744073709551616) : ∃ x y z w : DV, lI (.int .u64 (.ofNat u)) (.int .u64 (.ofNat 1)) = some x /\ cS .i64 x = some y /\ qP (.int .u64 (.ofNat u)) (.int .u64 (.ofNat 1)) = some z /\ cS .i64 z = some w /\
   ∃ q, wL w = some q /\ pK y q = some (.int .i64 (if u % 2 = 0 then .ofNat (u / 2) else .negSucc (u / 2))) := by
 refine ⟨_, .int .i64 (.ofNat (u / 2)), _, .int .i64 (.ofNat (u % 2)), aFW _ _ (by decide), by rw [gF, wrap_i64 (by omega)], bDa h, by rw [gF, wrap_i64 (by omega)], _, aQq _ _, ?_⟩
 by_cases hu : u % 2 = 0
 · rw [hu, if_pos rfl]; have : IntKind.i64.wrap (0 - Int.ofNat 0) = .ofNat 0 := rfl; rw [this, lE .i64 _ _ (by show u / 2 < 2 ^ 64; omega) (by decide), Nat.xor_zero, wrap_i64 (by omega)]
 · have hu1 : u % 2 = 1 := by omega
   rw [hu1, if_neg (by omega)]
   have : IntKind.i64.wrap (0 - Int.ofNat 1) = .negSucc 0 := rfl; rw [this]; show (bif kEq .i64 .i64 then aIW .i64 (.ofNat (u / 2)) (.negSucc 0) else none) = _; rw [gQ]; show iP .i64 (nR .i64 (· ^^^ ·) (.ofNat (u / 2)) (.negSucc 0)) = _; rw [gR]; have e : nR .i64 (· ^^^ ·) (.ofNat (u / 2)) (.negSucc 0) = .ofNat (18446744073709551615 - u / 2) := by
     unfold nR; have b1 : (BitVec.ofInt IntKind.i64.bits (.ofNat (u / 2))).toNat = u / 2 := oY 64 (u / 2) (by show u / 2 < 2 ^ 64; omega)
     have b2 : (BitVec.ofInt IntKind.i64.bits (.negSucc 0)).toNat = 18446744073709551615 := rfl; rw [BitVec.toNat_xor, b1, b2, aHL (by omega)]; rfl
   rw [e]
   congr 2
   have : IntKind.i64.wrap (.ofNat (18446744073709551615 - u / 2)) = IntKind.i64.wrap (.negSucc (u / 2)) := by
     simp only [IntKind.wrap_i64, Int.ofNat_eq_natCast]; omega
   rw [this]; exact bDD (by omega) (by omega)
theorem aKW {R : Type} {n es : Nat} (L : List DV) (h : H) (k : DV -> H -> Option R) : jG n es (.list L) h k = k (.ptr h.size 0) (h.push (.blk ⟨n, es, false, true, Tr.ofL L⟩)) := by
 simp only [jG, H.pushK_eq]; rfl
theorem aYr (k : IntKind) (n : Int) : rcK (some (.int k n)) (.int k n) = true := by
 show kG (.int k n) (.int k n) = true; simp only [kG, Bool.and_eq_true]
 first | (constructor <;> simp) | simp
theorem fJ (rd : Rd) (b o : Nat) : dN .ptr false rd (.ptr b o) .nilp = some (.bool false) := rfl
theorem tZ (rd : Rd) (b o : Nat) : dN .ptr true rd (.ptr b o) .nilp = some (.bool true) := rfl
def aQj (n0 : Nat) (h : H) (v : DV) (L : List DV) : Prop := cL n0 h v L \/
 ∃ b o B, v = .slc b o L.length L.length false /\ h.get b = some (.blk B) /\ ∀ j x, L[j]? = some x -> rdCell h.get b (o + j) = some x
theorem aQj.push1 {n0 : Nat} {h : H} {v x z : DV} {L : List DV} {bytes : Nat} (o : aQj n0 h v L) (hlt : ∀ b o n c op, v = .slc b o n c op -> b < h.size) (hn0 : n0 <= h.size) (h1 : x.one = true)
   (hs : (L.length + 1) * bytes < bP) (hs2 : L.length + 1 < bP) : ∃ v' h', (∀ (R : Type) (k : DV -> H -> Option R), (eM 1 1 [z] [(0, 1, x)] h λ y h' => wK (cT 1 bytes v y h') k) = k v' h') /\ cL n0 h' v' (L ++ [x]) /\ dH n0 h h' := by
 rcases o with o | ⟨b, off, B, rfl, hB, hc⟩
 · exact o.push1 hn0 h1 hs hs2
 · have hb := hlt b off _ _ _ rfl
   let h1' := h.push (.blk ⟨1 * 1, 1, false, true, Tr.ofL [x]⟩)
   have hp : bX h1' h.size [x] := bX.pushed (h := h) (L := [x]) (pl := true); have hB' : h1'.get b = some (.blk B) := by show (h.push _).get b = _; rw [H.get_push, if_neg (by omega)]; exact hB
   have hrow : rdCells h1'.get b off L.length = some L := mB L off λ j y hj => by rw [pS (hB'.trans hB.symm)]; exact hc j y hj
   have hf : fW (iR [z] 1) [(0, 1, x)] = some [x] := by simp [fW, iR, vU h1, pP]; rfl
   have hne : ¬ L.length + 1 <= L.length := by omega
   have hap : cT 1 bytes (.slc b off L.length L.length false) (.slc h.size 0 1 1 false) h1' = some (.slc h1'.size 0 (L.length + 1) (L.length + 1) true, h1'.push (.blk ⟨L.length + 1, 1, false, true, Tr.ofL (L ++ [x])⟩)) := by
     rw [iX]; have hx : eG 1 h1'.get (.slc h.size 0 1 1 false) = some [x] := by
       have := hp.cells_all
       simpa [eG] using this
     simp only [iF, fI, hx, Option.bind_some, aR, qC hne, cond_false, dL hs, dL hs2, Bool.and_self, cond_true, hB', Nat.mul_one, hrow, H.pushK_eq]
   refine ⟨.slc h1'.size 0 (L.length + 1) (L.length + 1) true, h1'.push (.blk ⟨L.length + 1, 1, false, true, Tr.ofL (L ++ [x])⟩), λ R k => ?_, .inr ⟨h1'.size, by show n0 <= h1'.size; rw [show h1'.size = h.size + 1 from rfl]; omega, ?_, ?_⟩, ?_⟩
   · simp only [eM, hf, Option.bind_some, H.pushK_eq]; show wK (cT 1 bytes (.slc b off L.length L.length false) (.slc h.size 0 1 1 false) h1') k = _; rw [hap]; rfl
   · simp
   · have := bX.pushed (h := h1') (L := L ++ [x]) (pl := true); rw [List.length_append] at this; exact this
   · exact (dH.push hn0 _).trans (dH.push (by show n0 <= h1'.size; rw [show h1'.size = h.size + 1 from rfl]; omega) _)
theorem cL.lt_size {n0 : Nat} {h : H} {v : DV} {L : List DV} (o : cL n0 h v L) : ∀ b o n c op, v = .slc b o n c op -> b < h.size := by
 intro b off n c op e; rcases o with ⟨rfl, _⟩ | ⟨b', _, rfl, hb⟩
 · cases e
 · cases e; exact hb.1
def aMJ (h : H) (v : DV) (L : List DV) : Prop := aQj h.size h v L /\ ∀ b o n c op, v = .slc b o n c op -> b < h.size
theorem aB.all {h : H} {b n : Nat} {L : List DV} (hb : aB h b L) (hn : L.length = n) : dD n h.get (.ptr b 0) = some (.agg L) := by
 rw [hb.readN (by omega), List.drop_zero, List.take_of_length_le (by omega)]
theorem aB.setAll {h : H} {b n : Nat} {L cs : List DV} (hb : aB h b L) (hL : L.length = n) (hn : cs.length = n) (hv : cs.all DV.one = true) :
   ∃ h', eK n (.ptr b 0) (.agg cs) h = some (.tup [], h') /\ aB h' b cs /\ rL b h h' := by
 obtain ⟨h', f1, f2, f3⟩ := hb.setN (o := 0) hn hv (by omega)
 refine ⟨h', f1, ?_, f3⟩; rw [List.take_zero, List.nil_append, Nat.zero_add, List.drop_of_length_le (by omega), List.append_nil] at f2
 exact f2
end Go.DI
end
