/- D once more, its registers a function; plain functions that are D's; functions told by what they compute; deferred closures that recover. No condition beyond the theorems' own. -/
import Derived.Recover
import Derived.SliceStrings
import Derived.SizedLaws
import Derived.WideShapes
import Derived.Lib.Join
import Derived.Test.YthpciaidbgjoeaaGreatDb
set_option linter.unusedVariables false
set_option linter.unusedSimpArgs false
noncomputable section
namespace Go.DI
open Go.RowKit
theorem gN.mono {P : Program} {f : FuncId} {F G : bU} (hF : gN P f F) (h : ∀ args h r, G args h = some r -> F args h = some r) : gN P f G :=
 λ N0 w0 m hh w args args' v h' hr ht hw => hF N0 w0 m hh w args args' v h' (h _ _ _ hr) ht hw
structure bM (h h' : H) : Prop where
 size : h.size <= h'.size
 get : ∀ b, b < h.size -> h'.get b = h.get b
theorem bM.refl (h : H) : bM h h := ⟨Nat.le_refl _, λ _ _ => rfl⟩
theorem bM.trans {a b c : H} (x : bM a b) (y : bM b c) : bM a c :=
 ⟨Nat.le_trans x.size y.size, λ i hi => (y.get i (Nat.lt_of_lt_of_le hi x.size)).trans (x.get i hi)⟩
theorem bM.push (h : H) (o : fN) : bM h (h.push o) := ⟨by simp, λ b hb => by rw [H.get_push, if_neg (by omega)]⟩
def wZ (v : DV) : Prop := ∀ m m' : Mp, tr m v = tr m' v
theorem bX.forget {N0 : Nat} {w0 : World} {m m' : Mp} {h h' : H} {w w' : World} (hw : bX N0 w0 m h w) (hw' : bX N0 w0 m' h' w') (he : iB m h m' h') (hg : bM h h') : bX N0 w0 m h w' := by
 have hgb : ∀ b i, m b = some i -> h'.get b = h.get b := λ b i e => hg.get b (hw.lt b i e).1
 refine ⟨λ b i e => ⟨(hw.lt b i e).1, (hw'.lt b i (he.le b i e)).2⟩, λ b i e => ?_, hw.inj, hw'.below, hw'.base, hw.wf, hw.good⟩
 obtain ⟨o, g, r, n⟩ := hw.has b i e; obtain ⟨o', g', r', n'⟩ := hw'.has b i (he.le b i e); rw [hgb b i e, g] at g'; cases g'; refine ⟨o, g, ?_, n⟩; cases o with
 | blk B =>
   obtain ⟨⟨c, el, fr, h1, h2, h3⟩, _, _⟩ := r; obtain ⟨⟨c', el', fr', h1', h2', h3'⟩, hf', hp'⟩ := r'; refine ⟨⟨c', el', fr', h1', h2', λ j hj => ?_⟩, hf', hp'⟩
   rcases h3 j hj with ⟨v, v', a, b', d⟩ | hx
   · rcases h3' j hj with ⟨u, u', a', b'', d'⟩ | ⟨_, hx⟩
     · rw [a] at a'; cases a'; rw [gO he.le _ _ b'] at b''; cases b''; exact .inl ⟨v, v', a, b', d'⟩
     · rw [a] at hx; cases hx
   · exact .inr hx
 | dead => trivial
 | map ds clock =>
   obtain ⟨es, h1, h2⟩ := r; obtain ⟨es', h1', h2'⟩ := r'; refine ⟨es', h1', ?_⟩; have same : ∀ {ds : List dO} {es es' : List MapEntry}, dL m ds es -> dL m' ds es' -> dL m ds es' := by
     intro ds
     induction ds with
     | nil => intro es es' a b; cases es' <;> first | trivial | exact b.elim
     | cons d ds ih =>
       intro es es' a b; cases es with
       | nil => exact a.elim
       | cons e es =>
         cases es' with
         | nil => exact b.elim
         | cons e' es' =>
           refine ⟨⟨?_, ?_, b.1.2.2⟩, ih a.2 b.2⟩
           · have := gO he.le _ _ a.1.1; rw [b.1.1] at this; rw [a.1.1, this]
           · have := gO he.le _ _ a.1.2.1; rw [b.1.2.1] at this; rw [a.1.2.1, this]
   exact same h2 h2'
 | iter b since seen last =>
   obtain ⟨hs, j, h0, h1, h2⟩ := r; obtain ⟨hs', j', h0', h1', h2'⟩ := r'; have := he.le _ _ h0; rw [h0'] at this; cases this; exact ⟨hs, _, h0, h1', h2⟩
theorem gN.forget {P : Program} {f : FuncId} {F G : bU} (hF : gN P f F)
   (hG : ∀ args h v h', G args h = some (v, h') -> h' = h /\ wZ v /\ ∃ h1, F args h = some (v, h1) /\ bM h h1) : gN P f G := by
 intro N0 w0 m h w args args' v h' hr ht hw; obtain ⟨rfl, hv, h1, h2, h3⟩ := hG _ _ _ _ hr; refine (hF N0 w0 m h' w args args' v h1 h2 ht hw).mono λ e w' hh => ?_
 obtain ⟨m', v', e1, e2, e3, e4⟩ := hh; exact ⟨m, v', e1, by rw [hv m m']; exact e2, hw.forget e3 e4 h3, iB.refl _ _⟩
theorem wZ.int (k : IntKind) (n : Int) : wZ (.int k n) := λ _ _ => rfl
theorem wZ.str (s : Ln) : wZ (.str s) := λ _ _ => rfl
theorem wZ.tup2 {a b : DV} (ha : wZ a) (hb : wZ b) : wZ (.tup [a, b]) := λ m m' => by simp only [tr, trs, ha m m', hb m m']
end Go.DI
namespace Go.DI
open Go.RowKit
section
variable {R : Type}
def vK (o : Option DV) (k : DV -> Option R) : Option R := Option.rec (motive := λ _ => Option R) none k o
def wK (o : Option (DV × H)) (k : DV -> H -> Option R) : Option R := Option.rec (motive := λ _ => Option R) none (λ x => Prod.rec (motive := λ _ => Option R) k x) o
def bK (x : DV) (a b : Option R) : Option R := match x with
 | .bool c => Bool.rec b a c
 | _ => none
def gK (x : DV) (t : Bool) (a b : Option R) : Option R := match x with
 | .bool c => Bool.rec (Bool.rec a b t) (Bool.rec b a t) c
 | _ => b
def rcK (o : Option DV) (v : DV) : Bool := Option.rec (motive := λ _ => Bool) false (λ u => jR u v) o
theorem bBt (o : Option DV) (k : DV -> Option R) : vK o k = o.bind k := by cases o <;> rfl
theorem bBs (o : Option (DV × H)) (k : DV -> H -> Option R) : wK o k = o.bind λ x => k x.1 x.2 := by cases o <;> rfl
end
theorem pH (n a : Nat) (ha : a < 2 ^ n) : (BitVec.ofInt n (Int.ofNat a)).toNat = a := by
 rw [BitVec.toNat_ofInt]; have h2 : (Int.ofNat a) % ((2 ^ n : Nat) : Int) = (a : Int) := by
   rw [Int.ofNat_eq_natCast, <- Int.natCast_emod, Nat.mod_eq_of_lt ha]
 have h3 : ∀ z : Int, z = ((2 ^ n : Nat) : Int) -> ((Int.ofNat a) % z).toNat = a := by
   intro z hz; rw [hz, h2]; rfl
 exact h3 _ (by simp)
def fb (f : Nat -> Nat -> Nat) (s : IntKind -> Int -> Int -> Option DV) (k : IntKind) (x y : Int) : Option DV :=
 Int.rec (motive := λ _ => Option DV) (λ a => Int.rec (motive := λ _ => Option DV) (λ b => bif Nat.blt a (2 ^ k.bits) && Nat.blt b (2 ^ k.bits) then iR k (.ofNat (f a b)) else s k x y) (λ _ => s k x y) y) (λ _ => s k x y) x
theorem aTY {f : Nat -> Nat -> Nat} {s : IntKind -> Int -> Int -> Option DV} {k : IntKind} (h : ∀ a b, a < 2 ^ k.bits -> b < 2 ^ k.bits -> s k (.ofNat a) (.ofNat b) = iR k (.ofNat (f a b))) (x y : Int) : fb f s k x y = s k x y := by
 cases x with
 | negSucc a => rfl
 | ofNat a =>
   cases y with
   | negSucc b => rfl
   | ofNat b =>
     show (bif Nat.blt a (2 ^ k.bits) && Nat.blt b (2 ^ k.bits) then iR k (.ofNat (f a b)) else s k (.ofNat a) (.ofNat b)) = _; cases hb : (Nat.blt a (2 ^ k.bits) && Nat.blt b (2 ^ k.bits)) with
     | false => rfl
     | true =>
       rw [Bool.and_eq_true, Nat.blt_eq, Nat.blt_eq] at hb; exact (h a b hb.1 hb.2).symm
def aJw : IntKind -> Int -> Int -> Option DV := fb Nat.land aOT
def aZr : IntKind -> Int -> Int -> Option DV := fb Nat.lor bAB
def aJu : IntKind -> Int -> Int -> Option DV := fb Nat.xor aOI
theorem aJv (k : IntKind) (x y : Int) : aJw k x y = aOT k x y := aTY (λ a b ha hb => by
 unfold aOT nJ; rw [BitVec.toNat_and, pH _ _ ha, pH _ _ hb]; rfl) x y
theorem aZq (k : IntKind) (x y : Int) : aZr k x y = bAB k x y := aTY (λ a b ha hb => by
 unfold bAB nJ; rw [BitVec.toNat_or, pH _ _ ha, pH _ _ hb]; rfl) x y
theorem aTZ (k : IntKind) (x y : Int) : aJu k x y = aOI k x y := aTY (λ a b ha hb => by
 unfold aOI nJ; rw [BitVec.toNat_xor, pH _ _ ha, pH _ _ hb]; rfl) x y
def vF (f : IntKind -> Int -> Int -> Option DV) (g : Ln -> Ln -> Option DV) (a b : DV) : Option DV := match a, b with
 | .int k x, .int k' y => bif kEq k k' then f k x y else none
 | .str s, .str t => g s t
 | _, _ => none
def wT (s t : Ln) : Option DV := none
def bBA (s t : Ln) : Option DV := bif Nat.blt (s.length + t.length) oH then uA (s ++ t) else none
def bBz (s t : Ln) : Option DV := eV (sEq s t)
def bBu (s t : Ln) : Option DV := eV (!sEq s t)
def bBv (s t : Ln) : Option DV := eV (sLt s t)
def bBw (s t : Ln) : Option DV := eV (sLt s t || sEq s t)
def bBx (s t : Ln) : Option DV := eV (!(sLt s t || sEq s t))
def bBy (s t : Ln) : Option DV := eV (!sLt s t)
def bAz (op : BinOp) (a b : DV) : Option DV := match a, b with
 | .int k x, .int _ y => mQ op k x y
 | _, _ => none
def cG : DV -> DV -> Option DV := vF aOU bBA
def iX : DV -> DV -> Option DV := vF aOJ wT
def jP : DV -> DV -> Option DV := vF aON wT
def aBi : DV -> DV -> Option DV := vF aOL wT
def aNv : DV -> DV -> Option DV := vF aOK wT
def nX : DV -> DV -> Option DV := vF aJw wT
def aEv : DV -> DV -> Option DV := vF aZr wT
def pT : DV -> DV -> Option DV := vF aJu wT
def uH : DV -> DV -> Option DV := bAz .shl
def lL : DV -> DV -> Option DV := bAz .shr
def aSI : DV -> DV -> Option DV := vF aDT wT
def cU : DV -> DV -> Option DV := vF aOS bBz
def dR : DV -> DV -> Option DV := vF aOM bBu
def bV : DV -> DV -> Option DV := vF aOO bBv
def uJ : DV -> DV -> Option DV := vF aOP bBw
def dS : DV -> DV -> Option DV := vF aOQ bBx
def fV : DV -> DV -> Option DV := vF aOR bBy
def aNz (op : BinOp) : DV -> DV -> Option DV :=
 BinOp.rec (motive := λ _ => DV -> DV -> Option DV) cG iX jP aBi aNv nX aEv pT uH lL aSI cU dR bV uJ dS fV op
theorem jG {op : BinOp} (hs : mX op = false) {f : IntKind -> Int -> Int -> Option DV} {g : Ln -> Ln -> Option DV} (hf : ∀ k x y, f k x y = qH op k x y) (hg : ∀ s t, g s t = qG op s t) (a b : DV) : vF f g a b = aAa op a b := by
 cases a <;> cases b <;> first | rfl | (simp only [vF, aAa, aTG, hs, cond_false, hf, hg])
theorem aOF {op : BinOp} (hs : mX op = true) (hg : ∀ s t, qG op s t = none) (a b : DV) : bAz op a b = aAa op a b := by
 cases a <;> cases b <;> first | rfl | (simp only [bAz, aAa, hs, cond_true, hg])
theorem aSH (op : BinOp) (a b : DV) : aNz op a b = aAa op a b := by
 cases op
 · exact jG (op := .add) (f := aOU) (g := bBA) rfl (λ k x y => by show iR k (aTL x y) = iR k (x + y); rw [aGD]) (λ _ _ => rfl) a b
 · exact jG (op := .sub) (f := aOJ) (g := wT) rfl (λ _ _ _ => rfl) (λ _ _ => rfl) a b
 · exact jG (op := .mul) (f := aON) (g := wT) rfl (λ _ _ _ => rfl) (λ _ _ => rfl) a b
 · exact jG (op := .quo) (f := aOL) (g := wT) rfl (λ _ _ _ => rfl) (λ _ _ => rfl) a b
 · exact jG (op := .rem) (f := aOK) (g := wT) rfl (λ _ _ _ => rfl) (λ _ _ => rfl) a b
 · exact jG (op := .and) (f := aJw) (g := wT) rfl (λ k x y => aJv k x y) (λ _ _ => rfl) a b
 · exact jG (op := .or) (f := aZr) (g := wT) rfl (λ k x y => aZq k x y) (λ _ _ => rfl) a b
 · exact jG (op := .xor) (f := aJu) (g := wT) rfl (λ k x y => aTZ k x y) (λ _ _ => rfl) a b
 · exact aOF (op := .shl) rfl (λ _ _ => rfl) a b
 · exact aOF (op := .shr) rfl (λ _ _ => rfl) a b
 · exact jG (op := .andNot) (f := aDT) (g := wT) rfl (λ _ _ _ => rfl) (λ _ _ => rfl) a b
 · exact jG (op := .eql) (f := aOS) (g := bBz) rfl (λ _ _ _ => rfl) (λ _ _ => rfl) a b
 · exact jG (op := .neq) (f := aOM) (g := bBu) rfl (λ _ _ _ => rfl) (λ _ _ => rfl) a b
 · exact jG (op := .lss) (f := aOO) (g := bBv) rfl (λ _ _ _ => rfl) (λ _ _ => rfl) a b
 · exact jG (op := .leq) (f := aOP) (g := bBw) rfl (λ _ _ _ => rfl) (λ _ _ => rfl) a b
 · exact jG (op := .gtr) (f := aOQ) (g := bBx) rfl (λ _ _ _ => rfl) (λ _ _ => rfl) a b
 · exact jG (op := .geq) (f := aOR) (g := bBy) rfl (λ _ _ _ => rfl) (λ _ _ => rfl) a b
def zH (rd : Rd) (b j : Nat) : Option DV := match rd b with
 | some (.blk B) => bif Nat.blt j B.n then B.t.at_ j else none
 | _ => none
theorem cH (rd : Rd) (b j : Nat) : zH rd b j = rdCell rd b j := by
 unfold zH rdCell; cases rd b with
 | none => rfl
 | some o =>
   cases o with
   | blk B =>
     show (bif Nat.blt j B.n then B.t.at_ j else none) = if j < B.n then B.t.at_ j else none
     by_cases h : j < B.n
     · rw [if_pos h, show Nat.blt j B.n = true from by rw [Nat.blt_eq]; exact h]; rfl
     · rw [if_neg h, show Nat.blt j B.n = false from by rw [Bool.eq_false_iff, ne_eq, Nat.blt_eq]; exact h]; rfl
   | dead => rfl
   | map a b => rfl
   | iter a b c d => rfl
def aTM (t : Tr DV) (n : Nat) : Nat -> Option (List DV) :=
 Nat.rec (motive := λ _ => Nat -> Option (List DV)) (λ _ => some []) (λ _ ih j => Option.rec (motive := λ _ => Option (List DV)) none (λ v => cX (Nat.succ j) λ j => Option.rec (motive := λ _ => Option (List DV)) none (λ vs => some (v :: vs)) (ih j)) (t.at_ j)) n
theorem aJk {rd : Rd} {b : Nat} {B : Blk} (h : rd b = some (.blk B)) : ∀ (n j : Nat), j + n <= B.n -> aTM B.t n j = rdCells rd b j n
 | 0, j, _ => rfl
 | n + 1, j, hl => by
   show Option.rec (motive := λ _ => Option (List DV)) none (λ v => cX (Nat.succ j) λ j => Option.rec (motive := λ _ => Option (List DV)) none (λ vs => some (v :: vs)) (aTM B.t n j)) (B.t.at_ j) = _
   simp only [aR, rdCells]; rw [aJk h n (j + 1) (by omega)]
   have e : rdCell rd b j = B.t.at_ j := by simp only [rdCell, h]; rw [if_pos (by omega)]
   rw [e]; cases B.t.at_ j with
   | none => rfl
   | some v => cases rdCells rd b (j + 1) n <;> rfl
theorem sP {rd : Rd} {b : Nat} : ∀ (n j : Nat), (∀ B, rd b = some (.blk B) -> B.n < j + n) -> 0 < n -> rdCells rd b j n = none
 | 0, j, _, h => absurd h (by omega)
 | n + 1, j, hb, _ => by
   simp only [rdCells]; cases hc : rdCell rd b j with
   | none => rfl
   | some v =>
     have : 0 < n := by
       unfold rdCell at hc; split at hc
       · rename_i B hB; split at hc
         · have := hb B hB; omega
         · cases hc
       · cases hc
     rw [sP n (j + 1) (λ B hB => by have := hb B hB; omega) this]
def lQ (rd : Rd) (b j n : Nat) : Option (List DV) := bif Nat.beq n 0 then some [] else match rd b with
 | some (.blk B) => bif Nat.ble (j + n) B.n then aTM B.t n j else none
 | _ => none
theorem bW (rd : Rd) (b j n : Nat) : lQ rd b j n = rdCells rd b j n := by
 unfold lQ; by_cases h0 : n = 0
 · subst h0; rfl
 · rw [show Nat.beq n 0 = false from by cases h : Nat.beq n 0; rfl; exact absurd (Nat.eq_of_beq_eq_true h) h0, cond_false]
   split
   · rename_i B hB; by_cases hl : j + n <= B.n
     · rw [Nat.ble_eq_true_of_le hl, cond_true]; exact aJk hB n j hl
     · rw [show Nat.ble (j + n) B.n = false from by cases h : Nat.ble (j + n) B.n; rfl; exact absurd (Nat.le_of_ble_eq_true h) hl, cond_false]
       exact (sP n j (λ B' hB' => by rw [hB] at hB'; cases hB'; omega) (by omega)).symm
   · rename_i hn; exact (sP n j (λ B' hB' => absurd hB' (hn B')) (by omega)).symm
def aNH {β : Type} (vs : List DV) : Nat -> Tr DV -> (Tr DV -> β) -> β :=
 List.rec (motive := λ _ => Nat -> Tr DV -> (Tr DV -> β) -> β) (λ _ t k => k t) (λ v _ ih o t k => Tr.setK v (Pa.of o) t λ t => cX (Nat.succ o) λ o => ih o t k) vs
def aIw : List DV -> Nat -> Tr DV -> Tr DV
 | [], _, t => t
 | v :: vs, o, t => aIw vs (o + 1) (Tr.set v (Pa.of o) t)
theorem aCI {β : Type} : ∀ (vs : List DV) (o : Nat) (t : Tr DV) (k : Tr DV -> β), aNH vs o t k = k (aIw vs o t)
 | [], _, _, _ => rfl
 | v :: vs, o, t, k => by
   show (Tr.setK v (Pa.of o) t λ t => cX (Nat.succ o) λ o => aNH vs o t k) = _
   rw [Tr.setK_eq, aR, aCI vs]; rfl
theorem Tr.set_set {α : Type} (x y : α) : ∀ (p : Pa) (t : Tr α), Tr.set y p (Tr.set x p t) = Tr.set y p t
 | .h, .e => rfl
 | .h, .n _ _ _ => rfl
 | .l p, .e => by show Tr.n (Tr.set y p (Tr.set x p .e)) none .e = Tr.n (Tr.set y p .e) none .e; rw [Tr.set_set x y p]
 | .l p, .n l v r => by show Tr.n (Tr.set y p (Tr.set x p l)) v r = Tr.n (Tr.set y p l) v r; rw [Tr.set_set x y p]
 | .r p, .e => by show Tr.n .e none (Tr.set y p (Tr.set x p .e)) = Tr.n .e none (Tr.set y p .e); rw [Tr.set_set x y p]
 | .r p, .n l v r => by show Tr.n l v (Tr.set y p (Tr.set x p r)) = Tr.n l v (Tr.set y p r); rw [Tr.set_set x y p]
theorem H.put_put (h : H) (b : Nat) (x y : fN) : (h.put b x).put b y = h.put b y := by
 unfold H.put Tr.put; simp only [Tr.set_set]
def zW (vs : List DV) (h : H) (b o : Nat) : Option H := match vs with
 | [] => some h
 | v :: vs => match h.get b with
   | some (.blk B) => bif (!B.ro) && Nat.ble (o + (v :: vs).length) B.n && (v :: vs).all DV.one then
       aNH (v :: vs) o B.t λ t => h.putK b (.blk { B with t := t }) some
     else none
   | _ => none
theorem aAO : ∀ (vs : List DV) (h : H) (b o : Nat) (B : Blk), h.get b = some (.blk B) -> vs ≠ [] ->
   fO vs h b o = if (!B.ro) = true /\ o + vs.length <= B.n /\ vs.all DV.one = true then some (h.put b (.blk { B with t := aIw vs o B.t })) else none
 | [], _, _, _, _, _, h => absurd rfl h
 | v :: vs, h, b, o, B, hB, _ => by
   simp only [fO, hB]; by_cases hc : ((!B.ro) && Nat.blt o B.n && v.one) = true
   · rw [hc, cond_true, Tr.setK_eq, H.putK_eq, aR]; rw [Bool.and_eq_true, Bool.and_eq_true, Nat.blt_eq] at hc; obtain ⟨⟨h1, h2⟩, h3⟩ := hc; cases vs with
     | nil =>
       rw [if_pos ⟨h1, by simp only [List.length_cons, List.length_nil]; omega, by simp [h3]⟩]; rfl
     | cons u us =>
       rw [aAO (u :: us) _ b (o + 1) { B with t := Tr.set v (Pa.of o) B.t } (by rw [H.get_put, if_pos rfl]) (by simp)]
       simp only [H.put_put]; by_cases hd : (!B.ro) = true /\ o + 1 + (u :: us).length <= B.n /\ (u :: us).all DV.one = true
       · rw [if_pos hd, if_pos ⟨h1, by have := hd.2.1; simp only [List.length_cons] at this ⊢; omega, by rw [List.all_cons, h3, hd.2.2]; rfl⟩]; rfl
       · rw [if_neg hd, if_neg]; intro hh; apply hd; refine ⟨h1, by have := hh.2.1; simp only [List.length_cons] at this ⊢; omega, ?_⟩
         have := hh.2.2; rw [List.all_cons, Bool.and_eq_true] at this; exact this.2
   · have hc' : ((!B.ro) && Nat.blt o B.n && v.one) = false := by simpa using hc
     rw [hc', cond_false, if_neg]; intro hh; apply hc; rw [Bool.and_eq_true, Bool.and_eq_true, Nat.blt_eq]; have h3 := hh.2.2; rw [List.all_cons, Bool.and_eq_true] at h3; exact ⟨⟨hh.1, by have := hh.2.1; simp only [List.length_cons] at this; omega⟩, h3.1⟩
theorem yF (vs : List DV) (h : H) (b o : Nat) : zW vs h b o = fO vs h b o := by
 unfold zW; split
 · rfl
 · rename_i v vs; split
   · rename_i B hB; rw [aAO (v :: vs) h b o B hB (by simp)]
     by_cases hd : (!B.ro) = true /\ o + (v :: vs).length <= B.n /\ (v :: vs).all DV.one = true
     · rw [if_pos hd, hd.1, Nat.ble_eq_true_of_le hd.2.1, hd.2.2]; simp only [Bool.and_self, cond_true, aCI, H.putK_eq]
     · rw [if_neg hd]; have : ((!B.ro) && Nat.ble (o + (v :: vs).length) B.n && (v :: vs).all DV.one) = false := by
         rw [Bool.eq_false_iff]; intro hh; rw [Bool.and_eq_true, Bool.and_eq_true] at hh; exact hd ⟨hh.1.1, Nat.le_of_ble_eq_true hh.1.2, hh.2⟩
       rw [this, cond_false]
   · rename_i hn; simp only [fO]
def eU (n : Nat) (a x : DV) (h : H) : Option (DV × H) :=
 match a with
 | .ptr b o => bif Nat.beq x.cells.length n then (zW x.cells h b o).map λ h => (.tup [], h) else none
 | _ => none
theorem nA (n : Nat) (a x : DV) (h : H) : eU n a x h = dSt n a x h := by unfold eU dSt; simp only [yF]; cases a <;> rfl
def aAB (es : Nat) (rd : Rd) (x : DV) : Option (List DV) :=
 match x with
 | .nils => some []
 | .slE _ _ _ => some []
 | .slc b o n _ _ => lQ rd b o (n * es)
 | .str s => bif Nat.beq es 1 then some (s.map λ b => .int .u8 (.ofNat b)) else none
 | _ => none
theorem aGn (es : Nat) (rd : Rd) (x : DV) : aAB es rd x = dV es rd x := by unfold aAB dV; simp only [bW]; cases x <;> rfl
def aLL (o len es : Nat) (B : Blk) (new : List DV) (rd : Rd) (b : Nat) : Option (Tr DV) := bif Nat.beq o 0 then aNH new (len * es) B.t some else (lQ rd b o (len * es)).map λ old => Tr.ofL (old ++ new)
def cT (es bytes : Nat) (s x : DV) (h : H) : Option (DV × H) :=
 (fE x).bind λ n => (aAB es h.get x).bind λ new =>
 match s with
 | .nils => bif Nat.beq n 0 then some (.nils, h) else
     bif Nat.blt (n * bytes) bP && Nat.blt n bP then h.pushK (.blk ⟨n * es, es, false, true, Tr.ofL new⟩) λ h' => some (.slc h.size 0 n n true, h') else none
 | .slE b o o2 => bif Nat.beq n 0 then some (.slE b o o2, h) else none
 | .slc b o len cap op => cX (len + n) λ need =>
     bif Nat.ble need cap then (zW new h b (o + len * es)).map λ h => (.slc b o need cap op, h)
     else bif Nat.blt (need * bytes) bP && Nat.blt need bP then
       match h.get b with
       | some (.blk B) =>
         bif op then
           bif Nat.beq (o + cap * es) B.n && Nat.beq B.es es && (!B.ro) && Nat.ble len cap && new.all DV.one then
             (aLL o len es B new h.get b).bind λ t => cX (need * es) λ n' => h.pushK (.blk ⟨n', es, false, false, t⟩) λ h' => h'.putK b .dead λ h'' => some (.slc h.size 0 need need true, h'')
           else none
         else
           (lQ h.get b o (len * es)).bind λ old => cX (need * es) λ n' => h.pushK (.blk ⟨n', es, false, true, Tr.ofL (old ++ new)⟩) λ h' => some (.slc h.size 0 need need true, h')
       | _ => none
     else none
 | _ => none
theorem aAC : ∀ (vs : List DV) (o : Nat) (t : Tr DV), aIw vs o t = Tr.ofF vs o t
 | [], _, _ => rfl
 | v :: vs, o, t => aAC vs (o + 1) _
theorem aRN (o len es : Nat) (B : Blk) (new : List DV) (rd : Rd) (b : Nat) : aLL o len es B new rd b = zL o len es B new rd b := by
 unfold aLL zL; rw [aCI, aAC, bW]
theorem iI (es bytes : Nat) (s x : DV) (h : H) : cT es bytes s x h = gS es bytes s x h := by
 unfold cT gS; simp only [aGn, yF, bW, aRN]; cases fE x with
 | none => rfl
 | some n =>
   simp only [Option.bind_some]; cases dV es h.get x with
   | none => rfl
   | some new =>
     simp only [Option.bind_some]; cases s <;> rfl
def aCC (es k : Nat) (rd : Rd) (x : DV) : Option (List DV) :=
 match x with
 | .nils => some []
 | .slE _ _ _ => some []
 | .slc b o _ _ _ => lQ rd b o (k * es)
 | .str s => bif Nat.beq es 1 then some ((s.take k).map λ b => .int .u8 (.ofNat b)) else none
 | _ => none
theorem aIu (es k : Nat) (rd : Rd) (x : DV) : aCC es k rd x = mT es k rd x := by unfold aCC mT; simp only [bW]; cases x <;> rfl
def lF (es : Nat) (d x : DV) (h : H) : Option (DV × H) :=
 (fE x).bind λ n => match d with
 | .nils => some (.int .i64 0, h)
 | .slE _ _ _ => some (.int .i64 0, h)
 | .slc b o len _ _ => cX (bif Nat.ble n len then n else len) λ k => (aCC es k h.get x).bind λ new => (zW new h b o).map λ h => (.int .i64 (.ofNat k), h)
 | _ => none
theorem aSe (es : Nat) (d x : DV) (h : H) : lF es d x h = aBJ es d x h := by
 unfold lF aBJ; simp only [aIu, yF]; cases fE x with
 | none => rfl
 | some n => cases d <;> rfl
def bDD (x y : DV) : Option DV := match x, y with
 | .str s, .int .u8 (.ofNat c) => bif Nat.blt c 256 then aGH (aJx c s) λ n => some (.int .i64 n) else none
 | _, _ => none
def bDE (x y : DV) : Option DV := match x, y with
 | .str s, .int .u8 (.ofNat c) => bif Nat.blt c 256 then cX (aLS c s) λ n => some (.int .i64 (.ofNat n)) else none
 | _, _ => none
def aNw (k : Prm) : DV -> DV -> Option DV := Prm.rec (motive := λ _ => DV -> DV -> Option DV) bDD bDE k
def uI (kt : oF) (z : DV) (ok : Bool) (rd : Rd) (x k : DV) : Option DV := (match x with
   | .nilm => some none
   | .mp b => match rd b with
     | some (.map es _) => rM kt k es
     | _ => none
   | _ => none).map λ r => match r with
     | some v => bif ok then .tup [v, .bool true] else v
     | none => bif ok then .tup [z, .bool false] else z
def aCx (es : Nat) (x : DV) (lo : Option DV) (hi mx : DV) : Option DV := match mx with
   | .int _ (.ofNat k) => (match x with
     | .nils => bif Nat.beq k 0 then dG 0 0 lo (some hi) λ l h => some .nils else none
     | .slc b o len cap op => bif Nat.ble k cap then dG len k lo (some hi) λ l h =>
         bif Nat.blt l k then (cX (o + l * es) λ o => cX (h - l) λ n => cX (k - l) λ c => some (.slc b o n c false)) else some (.slc b o 0 0 false) else none
     | _ => none)
   | _ => none
def aN (c a b : DV) : Option DV := match c with
   | .bool t => some (Bool.rec b a t)
   | _ => none
def dM (t : EqT) (neg : Bool) (rd : Rd) (x y : DV) : Option DV := (dEq rd t x y).bind λ b => eV (bif neg then !b else b)
def uL (neg : Bool) (s : EqS) (rd : Rd) (x y : DV) : Option DV := match x, y with
   | .agg xs, .agg ys => (jS rd s xs ys).bind λ b => eV (bif neg then !b else b)
   | _, _ => none
def fH (x : DV) : Option DV := match x with
   | .bool b => eV (!b)
   | _ => none
def xA (x : DV) : Option DV := match x with
   | .int k n => iR k (0 - n)
   | _ => none
def dF (k : IntKind) (x : DV) : Option DV := match x with
   | .int _ n => iR k n
   | _ => none
def aGg (x : DV) : Option DV := match x with
   | .str s => some (.str s)
   | _ => none
def iQ (rd : Rd) (x : DV) : Option DV := match x with
   | .nils => some (.str [])
   | .slE _ _ _ => some (.str [])
   | .slc b o len _ _ => ((lQ rd b o len).bind jQ).bind uA
   | _ => none
def aO (rd : Rd) (x : DV) : Option DV := match x with
   | .ptr b o => zH rd b o
   | _ => none
def dE (n : Nat) (rd : Rd) (x : DV) : Option DV := match x with
   | .ptr b o => (lQ rd b o n).map .agg
   | _ => none
def aH (x : DV) : Option DV := match x with
   | .ptr b o => some (.ptr b o)
   | _ => none
def aP (off : Nat) (x : DV) : Option DV := match x with
   | .ptr b o => cX (o + off) λ o => some (.ptr b o)
   | _ => none
def aNy (off n : Nat) (agg : Bool) (x : DV) : Option DV := match x with
   | .agg cs => bif agg then (bif Nat.ble (off + n) cs.length then some (.agg ((cs.drop off).take n)) else none) else cs[off]?
   | _ => none
def pU (len es : Nat) (x i : DV) : Option DV := match x with
   | .ptr b o => nU len i λ n => cX (o + n * es) λ o => some (.ptr b o)
   | _ => none
def cW (es : Nat) (x i : DV) : Option DV := match x with
   | .slc b o len _ _ => nU len i λ n => cX (o + n * es) λ o => some (.ptr b o)
   | _ => none
def aNx (len es : Nat) (agg : Bool) (x i : DV) : Option DV := match x with
   | .agg cs => nU len i λ n => bif agg then (bif Nat.ble (n * es + es) cs.length then some (.agg ((cs.drop (n * es)).take es)) else none) else cs[n * es]?
   | _ => none
def oV (x i : DV) : Option DV := match x with
   | .str s => nU s.length i λ n => (s[n]?).map λ b => .int .u8 (.ofNat b)
   | _ => none
def iP (x : DV) (lo hi : Option DV) : Option DV := match x with
   | .str s => dG s.length s.length lo hi λ l h => uA ((s.take h).drop l)
   | _ => none
def fQ (es : Nat) (x : DV) (lo hi : Option DV) : Option DV := match x with
   | .nils => dG 0 0 lo hi λ l h => some .nils
   | .slc b o len cap op => dG len cap lo hi λ l h =>
       bif Nat.blt l cap then (cX (o + l * es) λ o => cX (h - l) λ n => cX (cap - l) λ c => some (.slc b o n c op))
       else bif op then (cX (o + l * es) λ o2 => some (.slE b o o2)) else some (.slc b o 0 0 false)
   | .slE b o o2 => dG 0 0 lo hi λ l h => some (.slE b o o2)
   | _ => none
def aCy (n es : Nat) (x : DV) (lo hi : Option DV) : Option DV := match x with
   | .ptr b o => dG n n lo hi λ l h =>
       bif Nat.blt l n then (cX (o + l * es) λ o => cX (h - l) λ m => cX (n - l) λ c => some (.slc b o m c false))
       else some (.slc b o 0 0 false)
   | _ => none
def aX (i : Nat) (x : DV) : Option DV := match x with
   | .tup vs => vs[i]?
   | _ => none
def eO (x : DV) : Option DV := match x with
   | .str s => cX s.length λ n => some (.int .i64 (.ofNat n))
   | _ => none
def bH (x : DV) : Option DV := match x with
   | .nils => some (.int .i64 (.ofNat 0))
   | .slc _ _ n _ _ => some (.int .i64 (.ofNat n))
   | .slE _ _ _ => some (.int .i64 (.ofNat 0))
   | _ => none
abbrev aCz (x : DV) : Option DV := aFC x
abbrev aIk (rd : Rd) (x y : DV) : Option DV := aGR rd x y
def aGh (rd : Rd) (x : DV) : Option DV := match x with
   | .nilm => some (.int .i64 (.ofNat 0))
   | .mp b => match rd b with
     | some (.map es _) => cX es.length λ n => some (.int .i64 (.ofNat n))
     | _ => none
   | _ => none
def aAt (a b : DV) : Option DV := match a, b with
   | .int k x, .int k' y => some (.int k (bif iLt y x then y else x))
   | _, _ => none
def yP (a b : DV) : Option DV := match a, b with
   | .int k x, .int k' y => some (.int k (bif iLt x y then y else x))
   | _, _ => none
def dT (zero : List DV) (parts : List (Nat × Nat × DV)) : Option DV := (fZ zero parts).map .agg
def aEL (t : Nat) (zero : DV) (ok : Bool) (x : DV) : Option DV := match x with
   | .nili => bif ok then some (.tup [zero, .bool false]) else none
   | .ifc u v => bif Nat.beq u t then some (bif ok then .tup [v, .bool true] else v) else bif ok then some (.tup [zero, .bool false]) else none
   | _ => none
section
variable {R : Type}
def jJ (n es : Nat) (z : Zs) (h : H) (k : DV -> H -> Option R) : Option R := h.pushK (.blk ⟨n, es, false, true, z.tr⟩) λ h' => k (.ptr h.size 0) h'
def dN (x : DV) (h : H) (k : DV -> H -> Option R) : Option R := cX x.cells.length λ n => h.pushK (.blk ⟨n, n, false, true, Tr.ofL x.cells⟩) λ h' => k (.ptr h.size 0) h'
def eX (n es : Nat) (zero : List DV) (parts : List (Nat × Nat × DV)) (h : H) (k : DV -> H -> Option R) : Option R :=
 (fZ (iW zero n) parts).bind λ cs => h.pushK (.blk ⟨n * es, es, false, true, Tr.ofL cs⟩) λ h' => k (.slc h.size 0 n n false) h'
def kL (es bytes : Nat) (zero : DV) (l c : DV) (h : H) (k : DV -> H -> Option R) : Option R := match l, c with
   | .int _ (.ofNat l), .int _ (.ofNat c) =>
     bif Nat.ble l c && Nat.blt (bytes * c) 140737488355328 && Nat.blt c 140737488355328 then
       h.pushK (.blk ⟨c, 1, false, true, Tr.full zero 48⟩) λ h' => k (.slc h.size 0 l c false) h'
     else none
   | _, _ => none
def aBx (h : H) (k : DV -> H -> Option R) : Option R := h.pushK (.map [] 0) λ h' => k (.mp h.size) h'
def aTB (x : DV) (h : H) (k : DV -> H -> Option R) : Option R := match x with
   | .str s => cX s.length λ n => h.pushK (.blk ⟨n, 1, false, false, Tr.ofL (s.map λ b => .int .u8 (.ofNat b))⟩) λ h' => k (.slc h.size 0 n n true) h'
   | _ => none
end
end Go.DI
namespace Go.DI
open Go.RowKit
abbrev Rg := Pa -> DV
def e2 (σ : Rg) (x : bB) : DV := bB.rec (motive := λ _ => DV) (λ p => σ p) (λ v => v) x
def aRS (p : Pa) (v : DV) (σ : Rg) : Rg := λ q => Bool.rec (σ q) v (tC q p)
def reg (ρ : Tr DV) : Rg := λ p => ev ρ (.r p)
theorem aMa (ρ : Tr DV) (x : bB) : e2 (reg ρ) x = ev ρ x := by cases x <;> rfl
theorem cK (ρ : Tr DV) : e2 (reg ρ) = ev ρ := funext (aMa ρ)
theorem aNV (ρ : Tr DV) (p : Pa) (v : DV) : reg (Tr.set v p ρ) = aRS p v (reg ρ) := by
 funext q
 unfold reg aRS; rw [pC]; by_cases h : q = p
 · subst h; rw [if_pos rfl, rG]
 · rw [if_neg h]; cases e : tC q p with
   | true => exact absurd (gQ e) h
   | false => rfl
section
variable {R : Type}
abbrev bLp (σ : Rg) (h : H) (k : DV -> H -> Option R) : Option R := none
abbrev bKT (q : Prm) (x y : bB) (σ : Rg) (h : H) (k : DV -> H -> Option R) : Option R := vK (aNw q (e2 σ x) (e2 σ y)) λ v => k v h
abbrev bLb (kt : oF) (z : DV) (ok : Bool) (x y : bB) (σ : Rg) (h : H) (k : DV -> H -> Option R) : Option R := vK (uI kt z ok h.get (e2 σ x) (e2 σ y)) λ v => k v h
abbrev bKP (es : Nat) (x : bB) (lo : Option bB) (hi mx : bB) (σ : Rg) (h : H) (k : DV -> H -> Option R) : Option R := vK (aCx es (e2 σ x) (lo.map (e2 σ)) (e2 σ hi) (e2 σ mx)) λ v => k v h
abbrev bDW (c a b : bB) (σ : Rg) (h : H) (k : DV -> H -> Option R) : Option R := vK (aN (e2 σ c) (e2 σ a) (e2 σ b)) λ v => k v h
abbrev bLo (op : BinOp) (x y : bB) (σ : Rg) (h : H) (k : DV -> H -> Option R) : Option R := vK (aNz op (e2 σ x) (e2 σ y)) λ v => k v h
abbrev bLj (t : EqT) (neg : Bool) (x y : bB) (σ : Rg) (h : H) (k : DV -> H -> Option R) : Option R := vK (dM t neg h.get (e2 σ x) (e2 σ y)) λ v => k v h
abbrev bLk (neg : Bool) (s : EqS) (x y : bB) (σ : Rg) (h : H) (k : DV -> H -> Option R) : Option R := vK (uL neg s h.get (e2 σ x) (e2 σ y)) λ v => k v h
abbrev bKV (x : bB) (σ : Rg) (h : H) (k : DV -> H -> Option R) : Option R := vK (fH (e2 σ x)) λ v => k v h
abbrev bKW (x : bB) (σ : Rg) (h : H) (k : DV -> H -> Option R) : Option R := vK (xA (e2 σ x)) λ v => k v h
abbrev bEb (q : IntKind) (x : bB) (σ : Rg) (h : H) (k : DV -> H -> Option R) : Option R := vK (dF q (e2 σ x)) λ v => k v h
abbrev bDV (x : bB) (σ : Rg) (h : H) (k : DV -> H -> Option R) : Option R := vK (aGg (e2 σ x)) λ v => k v h
abbrev bLq (x : bB) (σ : Rg) (h : H) (k : DV -> H -> Option R) : Option R := vK (iQ h.get (e2 σ x)) λ v => k v h
abbrev o_ld (x : bB) (σ : Rg) (h : H) (k : DV -> H -> Option R) : Option R := vK (aO h.get (e2 σ x)) λ v => k v h
abbrev bLc (n : Nat) (x : bB) (σ : Rg) (h : H) (k : DV -> H -> Option R) : Option R := vK (dE n h.get (e2 σ x)) λ v => k v h
abbrev aTx (x : bB) (σ : Rg) (h : H) (k : DV -> H -> Option R) : Option R := vK (aH (e2 σ x)) λ v => k v h
abbrev o_fa (off : Nat) (x : bB) (σ : Rg) (h : H) (k : DV -> H -> Option R) : Option R := vK (aP off (e2 σ x)) λ v => k v h
abbrev bLh (off n : Nat) (agg : Bool) (x : bB) (σ : Rg) (h : H) (k : DV -> H -> Option R) : Option R := vK (aNy off n agg (e2 σ x)) λ v => k v h
abbrev bLg (len es : Nat) (x i : bB) (σ : Rg) (h : H) (k : DV -> H -> Option R) : Option R := vK (pU len es (e2 σ x) (e2 σ i)) λ v => k v h
abbrev bLf (es : Nat) (x i : bB) (σ : Rg) (h : H) (k : DV -> H -> Option R) : Option R := vK (cW es (e2 σ x) (e2 σ i)) λ v => k v h
abbrev bLe (len es : Nat) (agg : Bool) (x i : bB) (σ : Rg) (h : H) (k : DV -> H -> Option R) : Option R := vK (aNx len es agg (e2 σ x) (e2 σ i)) λ v => k v h
abbrev bLd (x i : bB) (σ : Rg) (h : H) (k : DV -> H -> Option R) : Option R := vK (oV (e2 σ x) (e2 σ i)) λ v => k v h
abbrev bKO (x : bB) (lo hi : Option bB) (σ : Rg) (h : H) (k : DV -> H -> Option R) : Option R := vK (iP (e2 σ x) (lo.map (e2 σ)) (hi.map (e2 σ))) λ v => k v h
abbrev bKQ (es : Nat) (x : bB) (lo hi : Option bB) (σ : Rg) (h : H) (k : DV -> H -> Option R) : Option R := vK (fQ es (e2 σ x) (lo.map (e2 σ)) (hi.map (e2 σ))) λ v => k v h
abbrev bKR (n es : Nat) (x : bB) (lo hi : Option bB) (σ : Rg) (h : H) (k : DV -> H -> Option R) : Option R := vK (aCy n es (e2 σ x) (lo.map (e2 σ)) (hi.map (e2 σ))) λ v => k v h
abbrev bLi (i : Nat) (x : bB) (σ : Rg) (h : H) (k : DV -> H -> Option R) : Option R := vK (aX i (e2 σ x)) λ v => k v h
abbrev bDX (x : bB) (σ : Rg) (h : H) (k : DV -> H -> Option R) : Option R := vK (eO (e2 σ x)) λ v => k v h
abbrev bDZ (x : bB) (σ : Rg) (h : H) (k : DV -> H -> Option R) : Option R := vK (bH (e2 σ x)) λ v => k v h
abbrev bDY (x : bB) (σ : Rg) (h : H) (k : DV -> H -> Option R) : Option R := vK (aGh h.get (e2 σ x)) λ v => k v h
abbrev bEc (x : bB) (σ : Rg) (h : H) (k : DV -> H -> Option R) : Option R := vK (aCz (e2 σ x)) λ v => k v h
abbrev bKU (x y : bB) (σ : Rg) (h : H) (k : DV -> H -> Option R) : Option R := vK (aIk h.get (e2 σ x) (e2 σ y)) λ v => k v h
abbrev o_mn (a b : bB) (σ : Rg) (h : H) (k : DV -> H -> Option R) : Option R := vK (aAt (e2 σ a) (e2 σ b)) λ v => k v h
abbrev o_mx (a b : bB) (σ : Rg) (h : H) (k : DV -> H -> Option R) : Option R := vK (yP (e2 σ a) (e2 σ b)) λ v => k v h
abbrev bLn (zero : List DV) (parts : List (Nat × Nat × bB)) (σ : Rg) (h : H) (k : DV -> H -> Option R) : Option R := vK (dT zero (parts.map λ p => (p.1, p.2.1, e2 σ p.2.2))) λ v => k v h
abbrev bKN (t : Nat) (zero : DV) (ok : Bool) (x : bB) (σ : Rg) (h : H) (k : DV -> H -> Option R) : Option R := vK (aEL t zero ok (e2 σ x)) λ v => k v h
abbrev o_mv (x : bB) (σ : Rg) (h : H) (k : DV -> H -> Option R) : Option R := k (e2 σ x) h
abbrev bKZ (t : Nat) (x : bB) (σ : Rg) (h : H) (k : DV -> H -> Option R) : Option R := k (.ifc t (e2 σ x)) h
abbrev bLa (f : Fn) (a c : List bB) (σ : Rg) (h : H) (k : DV -> H -> Option R) : Option R := k (.fn f (a.map (e2 σ)) (c.map (e2 σ))) h
abbrev bEa (n : Nat) (σ : Rg) (h : H) (k : DV -> H -> Option R) : Option R := k (.int .i64 (.ofNat n)) h
abbrev bLr (n es : Nat) (z : Zs) (σ : Rg) (h : H) (k : DV -> H -> Option R) : Option R := jJ n es z h k
abbrev bLm (x : bB) (σ : Rg) (h : H) (k : DV -> H -> Option R) : Option R := dN (e2 σ x) h k
abbrev bLl (n es : Nat) (zero : List DV) (parts : List (Nat × Nat × bB)) (σ : Rg) (h : H) (k : DV -> H -> Option R) : Option R := eX n es zero (parts.map λ p => (p.1, p.2.1, e2 σ p.2.2)) h k
abbrev bKX (es bytes : Nat) (zero : DV) (l c : bB) (σ : Rg) (h : H) (k : DV -> H -> Option R) : Option R := kL es bytes zero (e2 σ l) (e2 σ c) h k
abbrev bKY  (σ : Rg) (h : H) (k : DV -> H -> Option R) : Option R := aBx h k
abbrev bKS (x : bB) (σ : Rg) (h : H) (k : DV -> H -> Option R) : Option R := aTB (e2 σ x) h k
abbrev aZk (d : vS) : Rg -> H -> (DV -> H -> Option R) -> Option R :=
 vS.rec (motive := λ _ => Rg -> H -> (DV -> H -> Option R) -> Option R) bLp bKT bLb bKP o_mv bDW bLo bLj bLk bKV bKW bEb bDV bLq bKZ bLa o_ld bLc aTx o_fa bLh bLg bLf bLe bLd bKO bKQ bKR bLi bDX bDZ bDY bEc bKU bEa o_mn o_mx bLn bKN bLr bLm bLl bKX bKY bKS d
end
def bBU (q : Prm) (x y : bB) (σ : Rg) (rd : Rd) : Option DV := aNw q (e2 σ x) (e2 σ y)
def bCa (kt : oF) (z : DV) (ok : Bool) (x y : bB) (σ : Rg) (rd : Rd) : Option DV := uI kt z ok rd (e2 σ x) (e2 σ y)
def bBR (es : Nat) (x : bB) (lo : Option bB) (hi mx : bB) (σ : Rg) (rd : Rd) : Option DV := aCx es (e2 σ x) (lo.map (e2 σ)) (e2 σ hi) (e2 σ mx)
def aTP (c a b : bB) (σ : Rg) (rd : Rd) : Option DV := aN (e2 σ c) (e2 σ a) (e2 σ b)
def bCl (op : BinOp) (x y : bB) (σ : Rg) (rd : Rd) : Option DV := aNz op (e2 σ x) (e2 σ y)
def bCi (t : EqT) (neg : Bool) (x y : bB) (σ : Rg) (rd : Rd) : Option DV := dM t neg rd (e2 σ x) (e2 σ y)
def bCj (neg : Bool) (s : EqS) (x y : bB) (σ : Rg) (rd : Rd) : Option DV := uL neg s rd (e2 σ x) (e2 σ y)
def bBW (x : bB) (σ : Rg) (rd : Rd) : Option DV := fH (e2 σ x)
def bBX (x : bB) (σ : Rg) (rd : Rd) : Option DV := xA (e2 σ x)
def aTU (q : IntKind) (x : bB) (σ : Rg) (rd : Rd) : Option DV := dF q (e2 σ x)
def aTO (x : bB) (σ : Rg) (rd : Rd) : Option DV := aGg (e2 σ x)
def bCm (x : bB) (σ : Rg) (rd : Rd) : Option DV := iQ rd (e2 σ x)
def g_ld (x : bB) (σ : Rg) (rd : Rd) : Option DV := aO rd (e2 σ x)
def bCb (n : Nat) (x : bB) (σ : Rg) (rd : Rd) : Option DV := dE n rd (e2 σ x)
def aJl (x : bB) (σ : Rg) (rd : Rd) : Option DV := aH (e2 σ x)
def g_fa (off : Nat) (x : bB) (σ : Rg) (rd : Rd) : Option DV := aP off (e2 σ x)
def bCg (off n : Nat) (agg : Bool) (x : bB) (σ : Rg) (rd : Rd) : Option DV := aNy off n agg (e2 σ x)
def bCf (len es : Nat) (x i : bB) (σ : Rg) (rd : Rd) : Option DV := pU len es (e2 σ x) (e2 σ i)
def bCe (es : Nat) (x i : bB) (σ : Rg) (rd : Rd) : Option DV := cW es (e2 σ x) (e2 σ i)
def bCd (len es : Nat) (agg : Bool) (x i : bB) (σ : Rg) (rd : Rd) : Option DV := aNx len es agg (e2 σ x) (e2 σ i)
def bCc (x i : bB) (σ : Rg) (rd : Rd) : Option DV := oV (e2 σ x) (e2 σ i)
def bBQ (x : bB) (lo hi : Option bB) (σ : Rg) (rd : Rd) : Option DV := iP (e2 σ x) (lo.map (e2 σ)) (hi.map (e2 σ))
def bBS (es : Nat) (x : bB) (lo hi : Option bB) (σ : Rg) (rd : Rd) : Option DV := fQ es (e2 σ x) (lo.map (e2 σ)) (hi.map (e2 σ))
def bBT (n es : Nat) (x : bB) (lo hi : Option bB) (σ : Rg) (rd : Rd) : Option DV := aCy n es (e2 σ x) (lo.map (e2 σ)) (hi.map (e2 σ))
def bCh (i : Nat) (x : bB) (σ : Rg) (rd : Rd) : Option DV := aX i (e2 σ x)
def aTQ (x : bB) (σ : Rg) (rd : Rd) : Option DV := eO (e2 σ x)
def aTS (x : bB) (σ : Rg) (rd : Rd) : Option DV := bH (e2 σ x)
def aTR (x : bB) (σ : Rg) (rd : Rd) : Option DV := aGh rd (e2 σ x)
def aTV (x : bB) (σ : Rg) (rd : Rd) : Option DV := aCz (e2 σ x)
def bBV (x y : bB) (σ : Rg) (rd : Rd) : Option DV := aIk rd (e2 σ x) (e2 σ y)
def g_mn (a b : bB) (σ : Rg) (rd : Rd) : Option DV := aAt (e2 σ a) (e2 σ b)
def g_mx (a b : bB) (σ : Rg) (rd : Rd) : Option DV := yP (e2 σ a) (e2 σ b)
def bCk (zero : List DV) (parts : List (Nat × Nat × bB)) (σ : Rg) (rd : Rd) : Option DV := dT zero (parts.map λ p => (p.1, p.2.1, e2 σ p.2.2))
def bBP (t : Nat) (zero : DV) (ok : Bool) (x : bB) (σ : Rg) (rd : Rd) : Option DV := aEL t zero ok (e2 σ x)
def g_mv (x : bB) (σ : Rg) (rd : Rd) : Option DV := some (e2 σ x)
def bBY (t : Nat) (x : bB) (σ : Rg) (rd : Rd) : Option DV := some (.ifc t (e2 σ x))
def bBZ (f : Fn) (a c : List bB) (σ : Rg) (rd : Rd) : Option DV := some (.fn f (a.map (e2 σ)) (c.map (e2 σ)))
def aTT (n : Nat) (σ : Rg) (rd : Rd) : Option DV := some (.int .i64 (.ofNat n))
def bLI (n es : Nat) (z : Zs) (σ : Rg) (rd : Rd) : Option DV := none
def bLG (x : bB) (σ : Rg) (rd : Rd) : Option DV := none
def bLF (n es : Nat) (zero : List DV) (parts : List (Nat × Nat × bB)) (σ : Rg) (rd : Rd) : Option DV := none
def bLB (es bytes : Nat) (zero : DV) (l c : bB) (σ : Rg) (rd : Rd) : Option DV := none
def bLC  (σ : Rg) (rd : Rd) : Option DV := none
def bLx (x : bB) (σ : Rg) (rd : Rd) : Option DV := none
def bLH  (σ : Rg) (rd : Rd) : Option DV := none
def eM (d : vS) : Rg -> Rd -> Option DV :=
 vS.rec (motive := λ _ => Rg -> Rd -> Option DV) bLH bBU bCa bBR g_mv aTP bCl bCi bCj bBW bBX aTU aTO bCm bBY bBZ g_ld bCb aJl g_fa bCg bCf bCe bCd bCc bBQ bBS bBT bCh aTQ aTS aTR aTV bBV aTT g_mn g_mx bCk bBP bLI bLG bLF bLB bLC bLx d
def aOf : vS -> Bool
 | .alc _ _ _ | .box _ | .bsl _ _ _ _ | .mks _ _ _ _ _ | .mkm | .s2b _ | .bad => true
 | _ => false
theorem aZK (q : Prm) (x y : bB) (ρ : Tr DV) (rd : Rd) : cO (.prm q x y) ρ rd = (aNw q (ev ρ x) (ev ρ y)).map .val := by
 simp only [cO, aNw]; generalize ev ρ x = x'; generalize ev ρ y = y'; cases x' <;> (try (cases q <;> rfl))
 cases y' <;> (try (cases q <;> rfl))
 rename_i s kk n; cases kk <;> (try (cases q <;> rfl))
 cases n <;> (try (cases q <;> rfl))
 rename_i c; cases q
 · show (bif Nat.blt c 256 then _ else none) = (bif Nat.blt c 256 then _ else none : Option DV).map _; cases Nat.blt c 256 <;> simp only [cond_false, cond_true, lV] <;> rfl
 · show (bif Nat.blt c 256 then _ else none) = (bif Nat.blt c 256 then _ else none : Option DV).map _; cases Nat.blt c 256 <;> simp only [cond_false, cond_true, aR] <;> rfl
theorem aZQ (kt : oF) (z : DV) (ok : Bool) (x y : bB) (ρ : Tr DV) (rd : Rd) : cO (.lkp kt z ok x y) ρ rd = (uI kt z ok rd (ev ρ x) (ev ρ y)).map .val := by
 simp only [cO, uI, Option.map_map]
 congr 1; funext r; cases r <;> rfl
theorem aZG (es : Nat) (x : bB) (lo : Option bB) (hi mx : bB) (ρ : Tr DV) (rd : Rd) : cO (.slM es x lo hi mx) ρ rd = (aCx es (ev ρ x) (lo.map (ev ρ)) (ev ρ hi) (ev ρ mx)).map .val := by
 simp only [cO, aCx]; generalize ev ρ x = x'; generalize ev ρ hi = hi'; generalize ev ρ mx = mx'; cases mx' <;> try rfl
 rename_i k n; cases n <;> try rfl
 rename_i n; cases x' <;> try rfl
 · show (bif Nat.beq n 0 then _ else none) = (bif Nat.beq n 0 then _ else none : Option DV).map _; cases Nat.beq n 0 <;> rfl
 · rename_i a b c d e; show (bif Nat.ble n d then _ else none) = (bif Nat.ble n d then _ else none : Option DV).map _; cases Nat.ble n d <;> rfl
theorem aUr (c a b : bB) (ρ : Tr DV) (rd : Rd) : cO (.pick c a b) ρ rd = (aN (ev ρ c) (ev ρ a) (ev ρ b)).map .val := by
 simp only [cO, aN]; generalize ev ρ c = c'; generalize ev ρ a = a'; generalize ev ρ b = b'; cases c' <;> try rfl
 rename_i t; cases t <;> rfl
theorem bAb (op : BinOp) (x y : bB) (ρ : Tr DV) (rd : Rd) : cO (.bin op x y) ρ rd = (aNz op (ev ρ x) (ev ρ y)).map .val := by
 rw [aSH]; rfl
theorem aZY (t : EqT) (neg : Bool) (x y : bB) (ρ : Tr DV) (rd : Rd) : cO (.eqv t neg x y) ρ rd = (dM t neg rd (ev ρ x) (ev ρ y)).map .val := by
 rfl
theorem aZZ (neg : Bool) (s : EqS) (x y : bB) (ρ : Tr DV) (rd : Rd) : cO (.eqs neg s x y) ρ rd = (uL neg s rd (ev ρ x) (ev ρ y)).map .val := by
 simp only [cO, uL]; generalize ev ρ x = x'; generalize ev ρ y = y'; cases x' <;> cases y' <;> rfl
theorem aZM (x : bB) (ρ : Tr DV) (rd : Rd) : cO (.not x) ρ rd = (fH (ev ρ x)).map .val := by
 simp only [cO, fH, cH, bW]; generalize ev ρ x = x'; cases x' <;> rfl
theorem aZN (x : bB) (ρ : Tr DV) (rd : Rd) : cO (.neg x) ρ rd = (xA (ev ρ x)).map .val := by
 simp only [cO, xA, cH, bW]; generalize ev ρ x = x'; cases x' <;> rfl
theorem aUw (q : IntKind) (x : bB) (ρ : Tr DV) (rd : Rd) : cO (.conv q x) ρ rd = (dF q (ev ρ x)).map .val := by
 simp only [cO, dF, cH, bW]; generalize ev ρ x = x'; cases x' <;> rfl
theorem aUq (x : bB) (ρ : Tr DV) (rd : Rd) : cO (.same x) ρ rd = (aGg (ev ρ x)).map .val := by
 simp only [cO, aGg, cH, bW]; generalize ev ρ x = x'; cases x' <;> rfl
theorem bAc (x : bB) (ρ : Tr DV) (rd : Rd) : cO (.b2s x) ρ rd = (iQ rd (ev ρ x)).map .val := by
 simp only [cO, iQ, cH, bW]; generalize ev ρ x = x'; cases x' <;> rfl
theorem bED (x : bB) (ρ : Tr DV) (rd : Rd) : cO (.ld x) ρ rd = (aO rd (ev ρ x)).map .val := by
 simp only [cO, aO, cH, bW]; generalize ev ρ x = x'; cases x' <;> rfl
theorem aZR (n : Nat) (x : bB) (ρ : Tr DV) (rd : Rd) : cO (.ldN n x) ρ rd = (dE n rd (ev ρ x)).map .val := by
 simp only [cO, dE, cH, bW]; generalize ev ρ x = x'; cases x' <;> rfl
theorem aLZ (x : bB) (ρ : Tr DV) (rd : Rd) : cO (.nilchk x) ρ rd = (aH (ev ρ x)).map .val := by
 simp only [cO, aH, cH, bW]; generalize ev ρ x = x'; cases x' <;> rfl
theorem bEE (off : Nat) (x : bB) (ρ : Tr DV) (rd : Rd) : cO (.fa off x) ρ rd = (aP off (ev ρ x)).map .val := by
 simp only [cO, aP, aR]; generalize ev ρ x = x'; cases x' <;> rfl
theorem aZW (off n : Nat) (agg : Bool) (x : bB) (ρ : Tr DV) (rd : Rd) : cO (.fld off n agg x) ρ rd = (aNy off n agg (ev ρ x)).map .val := by
 simp only [cO, aNy]; generalize ev ρ x = x'; cases x' <;> try rfl
 rename_i cs; cases agg <;> try rfl
 show (bif Nat.ble (off + n) cs.length then _ else none) = (bif Nat.ble (off + n) cs.length then _ else none : Option DV).map _; cases Nat.ble (off + n) cs.length <;> rfl
theorem aZV (len es : Nat) (x i : bB) (ρ : Tr DV) (rd : Rd) : cO (.iaA len es x i) ρ rd = (pU len es (ev ρ x) (ev ρ i)).map .val := by
 simp only [cO, pU, cH, bW]; generalize ev ρ x = x'; generalize ev ρ i = i'; cases x' <;> rfl
theorem aZU (es : Nat) (x i : bB) (ρ : Tr DV) (rd : Rd) : cO (.iaS es x i) ρ rd = (cW es (ev ρ x) (ev ρ i)).map .val := by
 simp only [cO, cW, cH, bW]; generalize ev ρ x = x'; generalize ev ρ i = i'; cases x' <;> rfl
theorem aZT (len es : Nat) (agg : Bool) (x i : bB) (ρ : Tr DV) (rd : Rd) : cO (.ixA len es agg x i) ρ rd = (aNx len es agg (ev ρ x) (ev ρ i)).map .val := by
 simp only [cO, aNx, cH, bW]; generalize ev ρ x = x'; generalize ev ρ i = i'; cases x' <;> rfl
theorem aZS (x i : bB) (ρ : Tr DV) (rd : Rd) : cO (.ixS x i) ρ rd = (oV (ev ρ x) (ev ρ i)).map .val := by
 simp only [cO, oV, cH, bW]; generalize ev ρ x = x'; generalize ev ρ i = i'; cases x' <;> rfl
theorem aZF (x : bB) (lo hi : Option bB) (ρ : Tr DV) (rd : Rd) : cO (.slS x lo hi) ρ rd = (iP (ev ρ x) (lo.map (ev ρ)) (hi.map (ev ρ))).map .val := by
 simp only [cO, iP, cH, bW]; generalize ev ρ x = x'; cases x' <;> rfl
theorem aZH (es : Nat) (x : bB) (lo hi : Option bB) (ρ : Tr DV) (rd : Rd) : cO (.slL es x lo hi) ρ rd = (fQ es (ev ρ x) (lo.map (ev ρ)) (hi.map (ev ρ))).map .val := by
 simp only [cO, fQ, cH, bW]; generalize ev ρ x = x'; cases x' <;> rfl
theorem aZI (n es : Nat) (x : bB) (lo hi : Option bB) (ρ : Tr DV) (rd : Rd) : cO (.slA n es x lo hi) ρ rd = (aCy n es (ev ρ x) (lo.map (ev ρ)) (hi.map (ev ρ))).map .val := by
 simp only [cO, aCy, cH, bW]; generalize ev ρ x = x'; cases x' <;> rfl
theorem aZX (i : Nat) (x : bB) (ρ : Tr DV) (rd : Rd) : cO (.ext i x) ρ rd = (aX i (ev ρ x)).map .val := by
 simp only [cO, aX, cH, bW]; generalize ev ρ x = x'; cases x' <;> rfl
theorem aUs (x : bB) (ρ : Tr DV) (rd : Rd) : cO (.lenS x) ρ rd = (eO (ev ρ x)).map .val := by
 simp only [cO, eO, aR]; generalize ev ρ x = x'; cases x' <;> rfl
theorem aUu (x : bB) (ρ : Tr DV) (rd : Rd) : cO (.lenL x) ρ rd = (bH (ev ρ x)).map .val := by
 simp only [cO, bH, cH, bW]; generalize ev ρ x = x'; cases x' <;> rfl
theorem aUt (x : bB) (ρ : Tr DV) (rd : Rd) : cO (.lenM x) ρ rd = (aGh rd (ev ρ x)).map .val := by
 simp only [cO, aGh, aR]; generalize ev ρ x = x'; cases x' <;> try rfl
 rename_i b; simp only []; cases rd b with
 | none => rfl
 | some o => cases o <;> rfl
theorem aUx (x : bB) (ρ : Tr DV) (rd : Rd) : cO (.capL x) ρ rd = (aCz (ev ρ x)).map .val := by
 rfl
theorem aZL (x y : bB) (ρ : Tr DV) (rd : Rd) : cO (.ovl x y) ρ rd = (aIk rd (ev ρ x) (ev ρ y)).map .val := by
 rfl
theorem bEC (a b : bB) (ρ : Tr DV) (rd : Rd) : cO (.mn a b) ρ rd = (aAt (ev ρ a) (ev ρ b)).map .val := by
 simp only [cO, aAt]; generalize ev ρ a = a'; generalize ev ρ b = b'; cases a' <;> cases b' <;> rfl
theorem bEA (a b : bB) (ρ : Tr DV) (rd : Rd) : cO (.mx a b) ρ rd = (yP (ev ρ a) (ev ρ b)).map .val := by
 simp only [cO, yP]; generalize ev ρ a = a'; generalize ev ρ b = b'; cases a' <;> cases b' <;> rfl
theorem bAa (zero : List DV) (parts : List (Nat × Nat × bB)) (ρ : Tr DV) (rd : Rd) : cO (.bld zero parts) ρ rd = (dT zero (parts.map λ p => (p.1, p.2.1, ev ρ p.2.2))).map .val := by
 rfl
theorem aZE (t : Nat) (zero : DV) (ok : Bool) (x : bB) (ρ : Tr DV) (rd : Rd) : cO (.tas t zero ok x) ρ rd = (aEL t zero ok (ev ρ x)).map .val := by
 simp only [cO, aEL]; generalize ev ρ x = x'; cases x' <;> try rfl
 · cases ok <;> rfl
 · rename_i u v; simp only []; cases Nat.beq u t <;> cases ok <;> rfl
theorem bEB (x : bB) (ρ : Tr DV) (rd : Rd) : cO (.mv x) ρ rd = (some (ev ρ x) : Option DV).map .val := rfl
theorem aZO (t : Nat) (x : bB) (ρ : Tr DV) (rd : Rd) : cO (.mkI t x) ρ rd = (some (.ifc t (ev ρ x)) : Option DV).map .val := rfl
theorem aZP (f : Fn) (a c : List bB) (ρ : Tr DV) (rd : Rd) : cO (.mkF f a c) ρ rd = (some (.fn f (a.map (ev ρ)) (c.map (ev ρ))) : Option DV).map .val := rfl
theorem aUv (n : Nat) (ρ : Tr DV) (rd : Rd) : cO (.lenA n) ρ rd = (some (.int .i64 (.ofNat n)) : Option DV).map .val := rfl
theorem aFw {d : vS} (hd : aOf d = false) (ρ : Tr DV) (rd : Rd) : cO d ρ rd = (eM d (reg ρ) rd).map .val := by
 cases d
 · cases hd
 · rw [aZK]; simp only [eM, bBU, cK]
 · rw [aZQ]; simp only [eM, bCa, cK]
 · rw [aZG]; simp only [eM, bBR, cK]
 · rw [bEB]; simp only [eM, g_mv, cK]
 · rw [aUr]; simp only [eM, aTP, cK]
 · rw [bAb]; simp only [eM, bCl, cK]
 · rw [aZY]; simp only [eM, bCi, cK]
 · rw [aZZ]; simp only [eM, bCj, cK]
 · rw [aZM]; simp only [eM, bBW, cK]
 · rw [aZN]; simp only [eM, bBX, cK]
 · rw [aUw]; simp only [eM, aTU, cK]
 · rw [aUq]; simp only [eM, aTO, cK]
 · rw [bAc]; simp only [eM, bCm, cK]
 · rw [aZO]; simp only [eM, bBY, cK]
 · rw [aZP]; simp only [eM, bBZ, cK]
 · rw [bED]; simp only [eM, g_ld, cK]
 · rw [aZR]; simp only [eM, bCb, cK]
 · rw [aLZ]; simp only [eM, aJl, cK]
 · rw [bEE]; simp only [eM, g_fa, cK]
 · rw [aZW]; simp only [eM, bCg, cK]
 · rw [aZV]; simp only [eM, bCf, cK]
 · rw [aZU]; simp only [eM, bCe, cK]
 · rw [aZT]; simp only [eM, bCd, cK]
 · rw [aZS]; simp only [eM, bCc, cK]
 · rw [aZF]; simp only [eM, bBQ, cK]
 · rw [aZH]; simp only [eM, bBS, cK]
 · rw [aZI]; simp only [eM, bBT, cK]
 · rw [aZX]; simp only [eM, bCh, cK]
 · rw [aUs]; simp only [eM, aTQ, cK]
 · rw [aUu]; simp only [eM, aTS, cK]
 · rw [aUt]; simp only [eM, aTR, cK]
 · rw [aUx]; simp only [eM, aTV, cK]
 · rw [aZL]; simp only [eM, bBV, cK]
 · rw [aUv]; simp only [eM, aTT, cK]
 · rw [bEC]; simp only [eM, g_mn, cK]
 · rw [bEA]; simp only [eM, g_mx, cK]
 · rw [bAa]; simp only [eM, bCk, cK]
 · rw [aZE]; simp only [eM, bBP, cK]
 · cases hd
 · cases hd
 · cases hd
 · cases hd
 · cases hd
 · cases hd
section
variable {R : Type}
theorem aTt {d : vS} (hd : aOf d = false) (σ : Rg) (h : H) (k : DV -> H -> Option R) : aZk d σ h k = vK (eM d σ h.get) λ v => k v h := by
 cases d <;> first | (cases hd; done) | rfl
theorem aZj (E : bF) (d : vS) (ρ : Tr DV) (h : H) (k : DV -> H -> Option R) : aZk d (reg ρ) h k = (odo E (.e d) ρ h).bind λ x => k x.1 x.2 := by
 cases hd : aOf d with
 | false =>
   rw [aTt hd]; simp only [odo, oJ]; rw [aFw hd]; cases eM d (reg ρ) h.get <;> rfl
 | true =>
   simp only [odo, oJ]; cases d <;> first | (cases hd; done) | skip
   · rfl
   · rename_i n es z; simp only [cO, H.pushK_eq, Option.bind_some]; show jJ n es z h k = _; simp only [jJ, H.pushK_eq]
   · rename_i x; simp only [cO, H.pushK_eq, aR, Option.bind_some]; show dN (e2 (reg ρ) x) h k = _; simp only [dN, H.pushK_eq, aR, cK]
   · rename_i n es zero parts; show eX n es zero (parts.map λ p => (p.1, p.2.1, e2 (reg ρ) p.2.2)) h k = _
     simp only [cO, eX, cK]; cases fZ (iW zero n) (parts.map λ p => (p.1, p.2.1, ev ρ p.2.2)) with
     | none => rfl
     | some cs => simp only [Option.bind_some, Option.map_some, H.pushK_eq]
   · rename_i es bytes zero l c; show kL es bytes zero (e2 (reg ρ) l) (e2 (reg ρ) c) h k = _; simp only [cO, kL, cK]; generalize ev ρ l = l'; generalize ev ρ c = c'; cases l' <;> try rfl
     rename_i k1 n1; cases n1 <;> try rfl
     rename_i n1; cases c' <;> try rfl
     rename_i k2 n2; cases n2 <;> try rfl
     rename_i n2; simp only []; cases (Nat.ble n1 n2 && Nat.blt (bytes * n2) 140737488355328 && Nat.blt n2 140737488355328) with
     | false => rfl
     | true => simp only [cond_true, H.pushK_eq, Option.bind_some]
   · simp only [cO, H.pushK_eq, Option.bind_some]; show aBx h k = _; simp only [aBx, H.pushK_eq]
   · rename_i x; show aTB (e2 (reg ρ) x) h k = _; simp only [cO, aTB, cK]; generalize ev ρ x = x'; cases x' <;> try rfl
     simp only [aR, H.pushK_eq, Option.bind_some]
end
end Go.DI
namespace Go.DI
open Go.RowKit
def lY (E : bF) (f : DV) (args : List DV) (h : H) : Option (DV × H) := match f with
 | .fn (.func g) first captured => aC E g (first ++ args ++ captured) h
 | _ => none
def aKa (E : bF) (tbl : List (Nat × Nat)) (x : DV) (args : List DV) (h : H) : Option (DV × H) := match x with
 | .ifc t v => match aRD t tbl with
   | some f => aC E f (v :: args) h
   | none => none
 | _ => none
def zM (dst : Option Pa) (v : DV) (σ : Rg) : Rg := Option.rec (motive := λ _ => Rg) σ (λ p => aRS p v σ) dst
section
variable {R : Type}
def odoW (d : WOp) : Rg -> H -> (DV -> H -> Option R) -> Option R :=
 WOp.rec (motive := λ _ => Rg -> H -> (DV -> H -> Option R) -> Option R)
   (λ n a x σ h k => wK (eU n (e2 σ a) (e2 σ x) h) k)
   (λ es bytes x y σ h k => wK (cT es bytes (e2 σ x) (e2 σ y) h) k)
   (λ es x y σ h k => wK (lF es (e2 σ x) (e2 σ y) h) k)
   (λ kt x q y σ h k => wK (aBV kt (e2 σ x) (e2 σ q) (e2 σ y) h) k)
   (λ zs x σ h k => wK (vB zs (e2 σ x) h) k)
   (λ x σ h k => wK (lW (e2 σ x) h) k)
   (λ es bytes zs x y σ h k => wK (aEF es bytes zs (e2 σ x) (e2 σ y) h) k)
   (λ x σ h k => wK (aUG (e2 σ x) h) k)
   (λ x σ h k => wK (aUL (e2 σ x) h) k)
   (λ kt x q σ h k => wK (aJN kt (e2 σ x) (e2 σ q) h) k)
   (λ kt z x q σ h k => wK (wV kt z (e2 σ x) (e2 σ q) h) k)
   (λ x q y σ h k => wK (aJI (e2 σ x) (e2 σ q) (e2 σ y) h) k) d
def odoC (E : bF) (d : COp) : Rg -> H -> (DV -> H -> Option R) -> Option R :=
 COp.rec (motive := λ _ => Rg -> H -> (DV -> H -> Option R) -> Option R)
   (λ f args σ h k => wK (aC E f (args.map (e2 σ)) h) k)
   (λ f args σ h k => wK (lY E (e2 σ f) (args.map (e2 σ)) h) k)
   (λ tbl x args σ h k => wK (aKa E tbl (e2 σ x) (args.map (e2 σ)) h) k) d
def aTu (E : bF) (d : DOp) : Rg -> H -> (DV -> H -> Option R) -> Option R :=
 DOp.rec (motive := λ _ => Rg -> H -> (DV -> H -> Option R) -> Option R) aZk odoW (odoC E) d
def aQ (c : DV) (t : Bool) (op : (DV -> H -> Option R) -> Option R) (h : H) (k : DV -> H -> Option R) : Option R := gK c t (op k) (k (.tup []) h)
def aLU (E : bF) (g : DG) (σ : Rg) (h : H) (k : Rg -> H -> Option R) : Option R :=
 Option.rec (motive := λ _ => Option R) (aTu E g.op σ h λ v h => k (zM g.dst v σ) h)
   (λ x => aQ (σ x.1) x.2 (λ kk => aTu E g.op σ h kk) h λ v h => k (zM g.dst v σ) h) g.guard
def zP (E : bF) (l : List DG) : Rg -> H -> (Rg -> H -> Option R) -> Option R :=
 List.rec (motive := λ _ => Rg -> H -> (Rg -> H -> Option R) -> Option R) (λ σ h k => k σ h) (λ g _ ih σ h k => aLU E g σ h λ σ h => ih σ h k) l
def gB (c : DV) (t : Bool) (x : Bool) : Bool := match c with
 | .bool c => Bool.rec (Bool.rec x true t) (Bool.rec true x t) c
 | _ => true
def aZa (d : DOp) (dst : Option Pa) (σ : Rg) (h : H) : Bool :=
 DOp.rec (motive := λ _ => Bool) (λ e => Option.rec (motive := λ _ => Bool) false (λ p => rcK (eM e σ h.get) (σ p)) dst) (λ _ => false) (λ _ => false) d
def oR (g : DG) (σ : Rg) (h : H) : Bool :=
 Option.rec (motive := λ _ => Bool) (aZa g.op g.dst σ h) (λ x => gB (σ x.1) x.2 (aZa g.op g.dst σ h)) g.guard
def rK (b : Bool) (x : Option R) : Option R := Bool.rec none x b
def reK (pre : List DR) (σ : Rg) (h : H) (x : Option R) (l : Ln) : Option R :=
 List.rec (motive := λ _ => Option R) x (λ q _ ih => rK (Option.rec (motive := λ _ => Bool) false (λ g => oR g σ h) (rI q pre)) ih) l
def aLT (E : bF) (l : List DR) : List DR -> Rg -> H -> (Rg -> H -> Option R) -> Option R :=
 List.rec (motive := λ _ => List DR -> Rg -> H -> (Rg -> H -> Option R) -> Option R) (λ _ σ h k => k σ h)
   (λ x _ ih pre σ h k => aLU E x.g σ h λ σ h => reK pre σ h (ih (x :: pre) σ h k) x.re) l
abbrev iL (R : Type) := DX -> Rg -> H -> Option R
def aAy (k : Rg -> H -> Option R) (K : iL R) : iL R := λ x σ h =>
 DX.rec (motive := λ _ => Option R) (k σ h) (λ id => K (.exit id) σ h) (K .ret σ h) x
def aOG (id : Nat) (K : iL R) : iL R := λ x σ h =>
 DX.rec (motive := λ _ => Option R) (K .normal σ h) (λ i => Bool.rec (K (.exit i) σ h) (K .normal σ h) (Nat.beq i id)) (K .ret σ h) x
def aNJ (K : iL R) : iL R := λ x σ h =>
 DX.rec (motive := λ _ => Option R) (K .normal σ h) (λ i => Bool.rec none (K (.exit i) σ h) (Nat.blt i 4294967296)) (K .ret σ h) x
def xY (g : Nat) (k : Rg -> H -> Option R) (K : iL R) : iL R := λ x σ h =>
 DX.rec (motive := λ _ => Option R) (K .normal σ h) (λ i => Bool.rec (Bool.rec none (K (.exit i) σ h) (Nat.blt i 4294967296)) (k σ h) (Nat.beq i g)) (K .ret σ h) x
def qM (body : Rg -> H -> iL R -> Option R) (g : Nat) (K : iL R) (n : Nat) : Rg -> H -> Option R :=
 Nat.rec (motive := λ _ => Rg -> H -> Option R) (λ _ _ => none) (λ _ ih σ h => body σ h (xY g ih K)) n
def uV (body : Rg -> H -> iL R -> Option R) (K : iL R) (n : Nat) : Rg -> H -> Option R :=
 Nat.rec (motive := λ _ => Rg -> H -> Option R) (λ _ _ => none) (λ _ ih σ h => body σ h (aAy ih K)) n
def bCo (p : Pa) (K : iL R) : iL R := λ x σ h => aLH (σ p) h λ h => K x σ h
def jY [Agr R] (E : bF) (c : DC) : Rg -> H -> iL R -> Option R :=
 DC.rec (motive := λ _ => Rg -> H -> iL R -> Option R)
   (λ σ h K => K .normal σ h)
   (λ l σ h K => zP E l σ h λ σ h => K .normal σ h)
   (λ _ _ ia ib σ h K => ia σ h (aAy (λ σ h => ib σ h K) K))
   (λ c _ _ ia ib σ h K => bK (e2 σ c) (ia σ h K) (ib σ h K))
   (λ id _ ia σ h K => ia σ h (aOG id K))
   (λ _ ia σ h K => uV ia K aT σ h)
   (λ id σ h K => K (.exit id) σ h)
   (λ σ h K => K .ret σ h)
   (λ _ ia σ h K => ia σ h (aNJ K))
   (λ l σ h K => aLT E l [] σ h λ σ h => K .normal σ h)
   (λ _ _ _ => none)
   (λ g _ _ ia ir σ h K => ia σ h (xY g (qM ir g K aT) K))
   (λ p x l σ h K => aRy (e2 σ x) h λ v h => zP E l (aRS p v σ) h λ σ h => K .normal σ h)
   (λ _ p _ ia σ h K => ia σ h (bCo p K)) c
end
def rv2 (σ : Rg) (h : H) (r : RV) (k : DV -> Option (DV × H)) : Option (DV × H) :=
 RV.rec (motive := λ _ => Option (DV × H)) (λ p => k (σ p)) (λ p => vK (aO h.get (σ p)) k) (λ p n => vK (dE n h.get (σ p)) k) r
def aTb (σ : Rg) (h : H) (l : List RV) : (List DV -> Option (DV × H)) -> Option (DV × H) :=
 List.rec (motive := λ _ => (List DV -> Option (DV × H)) -> Option (DV × H)) (λ k => k []) (λ r _ ih k => rv2 σ h r λ v => ih λ vs => k (v :: vs)) l
def aNT (res : List RV) : iL (DV × H) := λ x σ h =>
 DX.rec (motive := λ _ => Option (DV × H)) (aTb σ h res λ vs => some (iZ vs, h)) (λ _ => none) (aTb σ h res λ vs => some (iZ vs, h)) x
def aLq (E : bF) (d : DF) : bU := λ args h => Bool.rec none (jY E d.body (reg (Tr.ofL args)) h (aNT d.res)) (Nat.beq args.length d.np)
section
variable {R : Type} {E : bF} {ρ : Tr DV}
theorem aOa (d : DOp) (ρ : Tr DV) (h : H) (k : DV -> H -> Option R) : aTu E d (reg ρ) h k = (odo E d ρ h).bind λ x => k x.1 x.2 := by
 cases d with
 | e d => exact aZj E d ρ h k
 | w d =>
   rw [<- bBs]; cases d <;> (show wK _ k = wK _ k; simp only [odo, wdo, cK, nA, iI, aSe])
 | c d =>
   rw [<- bBs]; cases d with
   | f f args => show wK (aC E f (args.map (e2 (reg ρ))) h) k = wK (aC E f (args.map (ev ρ)) h) k; rw [cK]
   | v f args => show wK (lY E (e2 (reg ρ) f) (args.map (e2 (reg ρ))) h) k = wK (lY E (ev ρ f) (args.map (ev ρ)) h) k; rw [cK]
   | m tbl x args => show wK (aKa E tbl (e2 (reg ρ) x) (args.map (e2 (reg ρ))) h) k = wK (aKa E tbl (ev ρ x) (args.map (ev ρ)) h) k; rw [cK]
theorem aTi (dst : Option Pa) (v : DV) (ρ : Tr DV) : reg (rB dst v ρ) = zM dst v (reg ρ) := by
 cases dst with
 | none => rfl
 | some p => exact aNV ρ p v
theorem bLJ (p : Pa) (t : Bool) (a b : Option R) : gK (reg ρ p) t a b = bif cV ρ (some (p, t)) then a else b := by
 show gK (ev ρ (.r p)) t a b = _; unfold cV; simp only []; generalize ev ρ (.r p) = x; cases x <;> try rfl
 rename_i c; cases c <;> cases t <;> rfl
theorem bLK (p : Pa) (t : Bool) (x : Bool) : gB (reg ρ p) t x = bif cV ρ (some (p, t)) then x else true := by
 show gB (ev ρ (.r p)) t x = _; unfold cV; simp only []; generalize ev ρ (.r p) = y; cases y <;> try rfl
 rename_i c; cases c <;> cases t <;> rfl
theorem aFt (g : DG) (h : H) (k : Tr DV -> H -> Option R) (k2 : Rg -> H -> Option R) (hk : ∀ ρ h, k ρ h = k2 (reg ρ) h) : dW E g ρ h k = aLU E g (reg ρ) h k2 := by
 obtain ⟨dst, guard, op⟩ := g; unfold dW; simp only [kW, hk, aTi]; cases guard with
 | none =>
   show (odo E op ρ h).bind (λ x => k2 (zM dst x.1 (reg ρ)) x.2) = aTu E op (reg ρ) h λ v h => k2 (zM dst v (reg ρ)) h
   rw [aOa]
 | some x =>
   obtain ⟨p, t⟩ := x; show _ = gK (reg ρ p) t (aTu E op (reg ρ) h λ v h => k2 (zM dst v (reg ρ)) h) (k2 (zM dst (.tup []) (reg ρ)) h)
   rw [bLJ, aOa]
theorem xZ : ∀ (l : List DG) (ρ : Tr DV) (h : H) (k : Tr DV -> H -> Option R) (k2 : Rg -> H -> Option R), (∀ ρ h, k ρ h = k2 (reg ρ) h) -> eS E l ρ h k = zP E l (reg ρ) h k2
 | [], ρ, h, k, k2, hk => hk ρ h
 | g :: l, ρ, h, k, k2, hk => aFt g h _ (λ σ h => zP E l σ h k2) λ ρ h => xZ l ρ h k k2 hk
theorem aYZ (g : DG) (h : H) : lP g ρ h = oR g (reg ρ) h := by
 obtain ⟨dst, guard, op⟩ := g; have key : (match op, dst with
     | .e d, some p => match cO d ρ h.get with
       | some (.val v) => jR v (ev ρ (.r p))
       | _ => false
     | _, _ => false) = aZa op dst (reg ρ) h := by
   cases op with
   | w d => rfl
   | c d => rfl
   | e d =>
     cases dst with
     | none => rfl
     | some p =>
       show _ = rcK (eM d (reg ρ) h.get) (reg ρ p); simp only []; cases hd : aOf d with
       | false =>
         rw [aFw hd]; cases eM d (reg ρ) h.get <;> rfl
       | true =>
         have e1 : eM d (reg ρ) h.get = none := by cases d <;> first | (cases hd; done) | rfl
         rw [e1]; show _ = false; split
         · rename_i v hv
           exfalso
           cases d <;> first | (cases hd; done) | skip
           · cases hv
           · cases hv
           · simp only [cO, aR] at hv; cases hv
           · rename_i a b c d; simp only [cO] at hv; cases hq : fZ (iW c a) (d.map λ p => (p.1, p.2.1, ev ρ p.2.2)) with
             | none => rw [hq] at hv; cases hv
             | some cs => rw [hq] at hv; cases hv
           · simp only [cO] at hv; split at hv
             · obtain ⟨_, hv⟩ := aM hv; cases hv
             · cases hv
           · cases hv
           · simp only [cO, aR] at hv; split at hv <;> cases hv
         · rfl
 unfold lP oR; cases guard with
 | none => exact key
 | some x =>
   obtain ⟨p, t⟩ := x; show _ = gB (reg ρ p) t (aZa op dst (reg ρ) h); rw [bLK, <- key]
   rfl
theorem aTk (pre : List DR) (h : H) (x : Option R) : ∀ l : Ln, (bif l.all (eQ pre ρ h) then x else none) = reK pre (reg ρ) h x l
 | [] => rfl
 | q :: l => by
   show _ = rK (Option.rec (motive := λ _ => Bool) false (λ g => oR g (reg ρ) h) (rI q pre)) (reK pre (reg ρ) h x l)
   rw [<- aTk pre h x l]; have e : eQ pre ρ h q = Option.rec (motive := λ _ => Bool) false (λ g => oR g (reg ρ) h) (rI q pre) := by
     unfold eQ; cases rI q pre with
     | none => rfl
     | some g => exact aYZ g h
   rw [<- e, List.all_cons]; cases eQ pre ρ h q <;> rfl
theorem aFr : ∀ (l pre : List DR) (ρ : Tr DV) (h : H) (k : Tr DV -> H -> Option R) (k2 : Rg -> H -> Option R), (∀ ρ h, k ρ h = k2 (reg ρ) h) -> eN E l pre ρ h k = aLT E l pre (reg ρ) h k2
 | [], pre, ρ, h, k, k2, hk => hk ρ h
 | x :: l, pre, ρ, h, k, k2, hk => by
   refine aFt x.g h (λ ρ h => bif x.re.all (eQ pre ρ h) then eN E l (x :: pre) ρ h k else none) (λ σ h => reK pre σ h (aLT E l (x :: pre) σ h k2) x.re) λ ρ h => ?_
   rw [<- aFr l (x :: pre) ρ h k k2 hk]; exact aTk pre h _ x.re
theorem aUf [Agr R] : ∀ (d : DC) (ρ : Tr DV) (h : H) (K : KT R) (K2 : iL R), (∀ x ρ h, K x ρ h = K2 x (reg ρ) h) -> nH E d ρ h K = jY E d (reg ρ) h K2 := by
 intro d
 induction d with
 | skip => intro ρ h K K2 hk; exact hk .normal ρ h
 | reg l => intro ρ h K K2 hk; exact xZ l ρ h _ _ λ ρ h => hk .normal ρ h
 | seq a b iha ihb =>
   intro ρ h K K2 hk; refine iha ρ h _ (aAy (λ σ h => jY E b σ h K2) K2) λ x ρ h => ?_
   cases x with
   | normal => exact ihb ρ h K K2 hk
   | exit i => exact hk (.exit i) ρ h
   | ret => exact hk .ret ρ h
 | cond c a b iha ihb =>
   intro ρ h K K2 hk; show uF c a b (nH E a) (nH E b) ρ h K = bK (e2 (DI.reg ρ) c) (jY E a (DI.reg ρ) h K2) (jY E b (DI.reg ρ) h K2); rw [<- iha ρ h K K2 hk, <- ihb ρ h K K2 hk, aMa]; unfold uF bK; cases ev ρ c <;> try rfl
   rename_i t; cases t <;> rfl
 | block id a iha =>
   intro ρ h K K2 hk; refine iha ρ h _ (aOG id K2) λ x ρ h => ?_
   cases x with
   | normal => exact hk .normal ρ h
   | exit i =>
     show (bif Nat.beq i id then K .normal ρ h else K (.exit i) ρ h) = Bool.rec (K2 (.exit i) (DI.reg ρ) h) (K2 .normal (DI.reg ρ) h) (Nat.beq i id); cases Nat.beq i id
     · exact hk (.exit i) ρ h
     · exact hk .normal ρ h
   | ret => exact hk .ret ρ h
 | loop a iha =>
   intro ρ h K K2 hk; show aFe (nH E a) K aT ρ h = uV (jY E a) K2 aT (DI.reg ρ) h; generalize aT = n
   induction n generalizing ρ h with
   | zero => rfl
   | succ n ih =>
     refine iha ρ h _ (aAy (uV (jY E a) K2 n) K2) λ x ρ h => ?_
     cases x with
     | normal => exact ih ρ h
     | exit i => exact hk (.exit i) ρ h
     | ret => exact hk .ret ρ h
 | exit id => intro ρ h K K2 hk; exact hk (.exit id) ρ h
 | ret => intro ρ h K K2 hk; exact hk .ret ρ h
 | scope a iha =>
   intro ρ h K K2 hk; refine iha ρ h _ (aNJ K2) λ x ρ h => ?_
   cases x with
   | normal => exact hk .normal ρ h
   | exit i =>
     show (bif Nat.blt i 4294967296 then K (.exit i) ρ h else none) = Bool.rec none (K2 (.exit i) (DI.reg ρ) h) (Nat.blt i 4294967296); cases Nat.blt i 4294967296
     · rfl
     · exact hk (.exit i) ρ h
   | ret => exact hk .ret ρ h
 | jump g a r iha ihr =>
   intro ρ h K K2 hk; have jk : ∀ (k : Tr DV -> H -> Option R) (k2 : Rg -> H -> Option R), (∀ ρ h, k ρ h = k2 (DI.reg ρ) h) -> ∀ x ρ h, aDf g k K x ρ h = xY g k2 K2 x (DI.reg ρ) h := by
     intro k k2 hkk x ρ h; cases x with
     | normal => exact hk .normal ρ h
     | exit i =>
       show (bif Nat.beq i g then k ρ h else bif Nat.blt i 4294967296 then K (.exit i) ρ h else none) = Bool.rec (Bool.rec none (K2 (.exit i) (DI.reg ρ) h) (Nat.blt i 4294967296)) (k2 (DI.reg ρ) h) (Nat.beq i g); cases Nat.beq i g
       · cases Nat.blt i 4294967296
         · rfl
         · exact hk (.exit i) ρ h
       · exact hkk ρ h
     | ret => exact hk .ret ρ h
   have key : ∀ n ρ h, aBA (nH E r) g K n ρ h = qM (jY E r) g K2 n (DI.reg ρ) h := by
     intro n
     induction n with
     | zero => intro ρ h; rfl
     | succ n ih => intro ρ h; exact ihr ρ h _ (xY g (qM (jY E r) g K2 n) K2) (jk _ _ ih)
   exact iha ρ h _ (xY g (qM (jY E r) g K2 aT) K2) (jk _ _ (key aT))
 | drg l => intro ρ h K K2 hk; exact aFr l [] ρ h _ _ λ ρ h => hk .normal ρ h
 | bad => intro ρ h K K2 hk; rfl
 | nxt p x l =>
   intro ρ h K K2 hk; show aIh E p x l ρ h K = aRy (e2 (DI.reg ρ) x) h λ v h => zP E l (aRS p v (DI.reg ρ)) h λ σ h => K2 .normal σ h
   unfold aIh; rw [aMa]
   congr 1
   funext v h
   rw [kW, <- aNV]; exact xZ l _ h _ _ λ ρ h => hk .normal ρ h
 | fin t p a iha =>
   intro ρ h K K2 hk; refine iha ρ h _ (bCo p K2) λ x ρ h => ?_
   show aLH (ev ρ (.r p)) h (λ h => K x ρ h) = aLH (DI.reg ρ p) h λ h => K2 x (DI.reg ρ) h
   congr 1
   funext h
   exact hk x ρ h
theorem aNL (h : H) : ∀ (l : List RV) (k : List DV -> Option (DV × H)), aTb (reg ρ) h l k = (fG ρ h l).bind k
 | [], k => rfl
 | r :: l, k => by
   show rv2 (reg ρ) h r (λ v => aTb (reg ρ) h l λ vs => k (v :: vs)) = _
   simp only [aNL h l]; have e : ∀ q : DV -> Option (DV × H), rv2 (reg ρ) h r q = (tZ ρ h r).bind q := by
     intro q; cases r with
     | r p => rfl
     | cell p =>
       show vK (aO h.get (ev ρ (.r p))) q = _; rw [bBt]; simp only [tZ, aO, cH]; generalize ev ρ (.r p) = y; cases y <;> rfl
     | cells p n =>
       show vK (dE n h.get (ev ρ (.r p))) q = _; rw [bBt]; simp only [tZ, dE, bW]; generalize ev ρ (.r p) = y; cases y <;> rfl
   rw [e]; simp only [fG]; cases tZ ρ h r with
   | none => rfl
   | some v =>
     simp only [Option.bind_some]; cases fG ρ h l <;> rfl
theorem aRp (E : bF) (d : DF) (args : List DV) (h : H) : jI E d args h = aLq E d args h := by
 unfold jI aLq; cases Nat.beq args.length d.np with
 | false => rfl
 | true =>
   show nH E d.body (Tr.ofL args) h (aYY d.res) = jY E d.body (reg (Tr.ofL args)) h (aNT d.res); refine aUf d.body _ h _ _ λ x ρ h => ?_
   have e : ((fG ρ h d.res).map λ vs => (iZ vs, h)) = aTb (reg ρ) h d.res λ vs => some (iZ vs, h) := by
     rw [aNL]; cases fG ρ h d.res <;> rfl
   cases x with
   | normal => exact e
   | exit i => rfl
   | ret => exact e
end
section
variable {R : Type}
abbrev bKK (d : WOp) : Rg -> H -> (DV -> H -> Option R) -> Option R :=
 WOp.rec (motive := λ _ => Rg -> H -> (DV -> H -> Option R) -> Option R)
   (λ n a x σ h k => wK (eU n (e2 σ a) (e2 σ x) h) k)
   (λ es bytes x y σ h k => wK (cT es bytes (e2 σ x) (e2 σ y) h) k)
   (λ es x y σ h k => wK (lF es (e2 σ x) (e2 σ y) h) k)
   (λ kt x q y σ h k => wK (aBV kt (e2 σ x) (e2 σ q) (e2 σ y) h) k)
   (λ zs x σ h k => wK (vB zs (e2 σ x) h) k)
   (λ x σ h k => wK (lW (e2 σ x) h) k)
   (λ es bytes zs x y σ h k => wK (aEF es bytes zs (e2 σ x) (e2 σ y) h) k)
   (λ x σ h k => wK (aUG (e2 σ x) h) k)
   (λ x σ h k => wK (aUL (e2 σ x) h) k)
   (λ kt x q σ h k => wK (aJN kt (e2 σ x) (e2 σ q) h) k)
   (λ kt z x q σ h k => wK (wV kt z (e2 σ x) (e2 σ q) h) k)
   (λ x q y σ h k => wK (aJI (e2 σ x) (e2 σ q) (e2 σ y) h) k) d
abbrev bKL (E : bF) (d : COp) : Rg -> H -> (DV -> H -> Option R) -> Option R :=
 COp.rec (motive := λ _ => Rg -> H -> (DV -> H -> Option R) -> Option R)
   (λ f args σ h k => wK (aC E f (args.map (e2 σ)) h) k)
   (λ f args σ h k => wK (lY E (e2 σ f) (args.map (e2 σ)) h) k)
   (λ tbl x args σ h k => wK (aKa E tbl (e2 σ x) (args.map (e2 σ)) h) k) d
abbrev odo3 (E : bF) (d : DOp) : Rg -> H -> (DV -> H -> Option R) -> Option R :=
 DOp.rec (motive := λ _ => Rg -> H -> (DV -> H -> Option R) -> Option R) aZk bKK (bKL E) d
abbrev aUd (E : bF) (g : DG) (σ : Rg) (h : H) (k : Rg -> H -> Option R) : Option R :=
 Option.rec (motive := λ _ => Option R) (odo3 E g.op σ h λ v h => k (zM g.dst v σ) h)
   (λ x => aQ (σ x.1) x.2 (λ kk => odo3 E g.op σ h kk) h λ v h => k (zM g.dst v σ) h) g.guard
abbrev aOm (E : bF) (l : List DG) : Rg -> H -> (Rg -> H -> Option R) -> Option R :=
 List.rec (motive := λ _ => Rg -> H -> (Rg -> H -> Option R) -> Option R) (λ σ h k => k σ h) (λ g _ ih σ h k => aUd E g σ h λ σ h => ih σ h k) l
abbrev reK3 (pre : List DR) (σ : Rg) (h : H) (x : Option R) (l : Ln) : Option R :=
 List.rec (motive := λ _ => Option R) x (λ q _ ih => rK (Option.rec (motive := λ _ => Bool) false (λ g => oR g σ h) (rI q pre)) ih) l
abbrev bEp (E : bF) (l : List DR) : List DR -> Rg -> H -> (Rg -> H -> Option R) -> Option R :=
 List.rec (motive := λ _ => List DR -> Rg -> H -> (Rg -> H -> Option R) -> Option R) (λ _ σ h k => k σ h)
   (λ x _ ih pre σ h k => aUd E x.g σ h λ σ h => reK3 pre σ h (ih (x :: pre) σ h k) x.re) l
abbrev cJ (k : Rg -> H -> Option R) (K : iL R) : iL R := λ x σ h =>
 DX.rec (motive := λ _ => Option R) (k σ h) (λ id => K (.exit id) σ h) (K .ret σ h) x
abbrev cE (id : Nat) (K : iL R) : iL R := λ x σ h =>
 DX.rec (motive := λ _ => Option R) (K .normal σ h) (λ i => Bool.rec (K (.exit i) σ h) (K .normal σ h) (Nat.beq i id)) (K .ret σ h) x
abbrev yV (K : iL R) : iL R := λ x σ h =>
 DX.rec (motive := λ _ => Option R) (K .normal σ h) (λ i => Bool.rec none (K (.exit i) σ h) (Nat.blt i 4294967296)) (K .ret σ h) x
abbrev tE (g : Nat) (k : Rg -> H -> Option R) (K : iL R) : iL R := λ x σ h =>
 DX.rec (motive := λ _ => Option R) (K .normal σ h) (λ i => Bool.rec (Bool.rec none (K (.exit i) σ h) (Nat.blt i 4294967296)) (k σ h) (Nat.beq i g)) (K .ret σ h) x
abbrev bLR (p : Pa) (K : iL R) : iL R := λ x σ h => aLH (σ p) h λ h => K x σ h
abbrev jK [Agr R] (E : bF) (c : DC) : Rg -> H -> iL R -> Option R :=
 DC.rec (motive := λ _ => Rg -> H -> iL R -> Option R)
   (λ σ h K => K .normal σ h)
   (λ l σ h K => aOm E l σ h λ σ h => K .normal σ h)
   (λ _ _ ia ib σ h K => ia σ h (cJ (λ σ h => ib σ h K) K))
   (λ c _ _ ia ib σ h K => bK (e2 σ c) (ia σ h K) (ib σ h K))
   (λ id _ ia σ h K => ia σ h (cE id K))
   (λ _ ia σ h K => uV ia K aT σ h)
   (λ id σ h K => K (.exit id) σ h)
   (λ σ h K => K .ret σ h)
   (λ _ ia σ h K => ia σ h (yV K))
   (λ l σ h K => bEp E l [] σ h λ σ h => K .normal σ h)
   (λ _ _ _ => none)
   (λ g _ _ ia ir σ h K => ia σ h (tE g (qM ir g K aT) K))
   (λ p x l σ h K => aRy (e2 σ x) h λ v h => aOm E l (aRS p v σ) h λ σ h => K .normal σ h)
   (λ _ p _ ia σ h K => ia σ h (bLR p K)) c
end
abbrev rv3 (σ : Rg) (h : H) (r : RV) (k : DV -> Option (DV × H)) : Option (DV × H) :=
 RV.rec (motive := λ _ => Option (DV × H)) (λ p => k (σ p)) (λ p => vK (aO h.get (σ p)) k) (λ p n => vK (dE n h.get (σ p)) k) r
abbrev rvs3 (σ : Rg) (h : H) (l : List RV) : (List DV -> Option (DV × H)) -> Option (DV × H) :=
 List.rec (motive := λ _ => (List DV -> Option (DV × H)) -> Option (DV × H)) (λ k => k []) (λ r _ ih k => rv3 σ h r λ v => ih λ vs => k (v :: vs)) l
abbrev bQ (res : List RV) : iL (DV × H) := λ x σ h =>
 DX.rec (motive := λ _ => Option (DV × H)) (rvs3 σ h res λ vs => some (iZ vs, h)) (λ _ => none) (rvs3 σ h res λ vs => some (iZ vs, h)) x
theorem aUe {R : Type} [Agr R] (E : bF) (c : DC) (σ : Rg) (h : H) (K : iL R) : jK E c σ h K = jY E c σ h K := by
 induction c generalizing σ h K with
 | skip => rfl
 | reg l => rfl
 | seq a b iha ihb =>
   show jK E a σ h (cJ (λ σ h => jK E b σ h K) K) = jY E a σ h (aAy (λ σ h => jY E b σ h K) K)
   rw [iha, show (λ σ h => jK E b σ h K) = λ σ h => jY E b σ h K from funext λ σ => funext λ h => ihb σ h K]
   rfl
 | cond c a b iha ihb =>
   show bK (e2 σ c) (jK E a σ h K) (jK E b σ h K) = bK (e2 σ c) (jY E a σ h K) (jY E b σ h K); rw [iha, ihb]
 | block id a iha => exact iha σ h _
 | loop a iha =>
   have e : jK (R := R) E a = jY E a := funext λ σ => funext λ h => funext λ K => iha σ h K
   show uV (jK E a) K aT σ h = uV (jY E a) K aT σ h; rw [e]
 | exit id => rfl
 | ret => rfl
 | scope a iha => exact iha σ h _
 | drg l => rfl
 | bad => rfl
 | nxt p x l => rfl
 | fin t p a iha => exact iha σ h _
 | jump g a r iha ihr =>
   have e : jK (R := R) E r = jY E r := funext λ σ => funext λ h => funext λ K => ihr σ h K
   show jK E a σ h (tE g (qM (jK E r) g K aT) K) = jY E a σ h (xY g (qM (jY E r) g K aT) K); rw [e, iha]; rfl
def Is {R : Type} [Agr R] (E : bF) (c : DC) (K : iL R) (S : Rg -> H -> Option R) : Prop := ∀ σ h, jK E c σ h K = S σ h
section
variable {R : Type} [Agr R] {E : bF} {K : iL R}
theorem Is.leaf (c : DC) : Is E c K λ σ h => jK E c σ h K := λ _ _ => rfl
theorem Is.seq {a b : DC} {Sa Sb : Rg -> H -> Option R} (hb : Is E b K Sb) (ha : Is E a (cJ Sb K) Sa) : Is E (.seq a b) K Sa := λ σ h => by
 have e : (λ σ h => jK E b σ h K) = Sb := funext λ σ => funext λ h => hb σ h
 show jK E a σ h (cJ (λ σ h => jK E b σ h K) K) = _
 rw [e]; exact ha σ h
theorem Is.block {id : Nat} {a : DC} {Sa : Rg -> H -> Option R} (ha : Is E a (cE id K) Sa) : Is E (.block id a) K Sa := ha
theorem Is.scope {a : DC} {Sa : Rg -> H -> Option R} (ha : Is E a (yV K) Sa) : Is E (.scope a) K Sa := ha
theorem Is.jump {g : Nat} {a r : DC} {Sa : Rg -> H -> Option R} (S : Nat -> Rg -> H -> Option R) (h0 : S 0 = λ _ _ => none) (hs : ∀ n, Is E r (tE g (S n) K) (S (n + 1))) (ha : Is E a (tE g (S aT) K) Sa) : Is E (.jump g a r) K Sa := by
 have key : ∀ n, qM (jK E r) g K n = S n := by
   intro n
   induction n with
   | zero => exact h0.symm
   | succ n ih =>
     funext σ h
     show jK E r σ h (xY g (qM (jK E r) g K n) K) = _; rw [ih]; exact hs n σ h
 intro σ h; show jK E a σ h (tE g (qM (jK E r) g K aT) K) = _; rw [key aT]; exact ha σ h
theorem Is.loop {a : DC} (S : Nat -> Rg -> H -> Option R) (h0 : S 0 = λ _ _ => none) (hs : ∀ n, Is E a (cJ (S n) K) (S (n + 1))) : Is E (.loop a) K (S aT) := by
 have key : ∀ n, uV (jK E a) K n = S n := by
   intro n
   induction n with
   | zero => exact h0.symm
   | succ n ih =>
     funext σ h
     show jK E a σ h (aAy (uV (jK E a) K n) K) = _; rw [ih]; exact hs n σ h
 exact λ σ h => congrFun (congrFun (key aT) σ) h
theorem Is.as {c : DC} {S T : Rg -> H -> Option R} (h : Is E c K S) (e : ∀ σ m, S σ m = T σ m) : Is E c K T := λ σ m => (h σ m).trans (e σ m)
end
end Go.DI
namespace Go.DI
open Go.RowKit
def a0 {R : Type} (args : List DV) (x : Option R) : Option R := List.rec (motive := λ _ => Option R) x (λ _ _ _ => none) args
def aS {R : Type} (args : List DV) (k : DV -> List DV -> Option R) : Option R := List.rec (motive := λ _ => Option R) none (λ v vs _ => k v vs) args
abbrev aV := Option (DV × H)
theorem Is.fn {E : bF} {d : DF} {S : Rg -> H -> aV} (h : Is E d.body (bQ d.res) S) {np : Nat} (hn : d.np = np) (F : bU) (hF : ∀ args h, args.length = np -> S (reg (Tr.ofL args)) h = F args h) (h0 : ∀ args h, args.length ≠ np -> F args h = none) (args : List DV) (m : H) : jI E d args m = F args m := by
 rw [aRp]; unfold aLq; have e0 : ∀ σ m, jY E d.body σ m (aNT d.res) = S σ m := λ σ m => (aUe E d.body σ m (aNT d.res)).symm.trans (h σ m)
 subst hn; by_cases e : args.length = d.np
 · rw [e, Nat.beq_refl]; exact (e0 _ m).trans (hF args m e)
 · have : Nat.beq args.length d.np = false := by
     cases hb : Nat.beq args.length d.np
     · rfl
     · exact absurd (Nat.eq_of_beq_eq_true hb) e
   rw [this]; exact (h0 args m e).symm
theorem Is.fn0 {E : bF} {d : DF} {S : Rg -> H -> aV} (h : Is E d.body (bQ d.res) S) (hn : d.np = 0) (J : H -> aV) (e : ∀ h, S (reg (Tr.ofL [])) h = J h) (args : List DV) (m : H) : jI E d args m = a0 args (J m) :=
 h.fn hn (λ args h => a0 args (J h)) (λ args h hl => by
   match args, hl with
   | [], _ => exact e h) (λ args h hl => by
   match args, hl with
   | [], hl => exact absurd rfl hl
   | _ :: _, _ => rfl) args m
theorem Is.fn1 {E : bF} {d : DF} {S : Rg -> H -> aV} (h : Is E d.body (bQ d.res) S) (hn : d.np = 1) (J : DV -> H -> aV) (e : ∀ r0 h, S (reg (Tr.ofL [r0])) h = J r0 h) (args : List DV) (m : H) : jI E d args m = (λ args h => aS args λ r0 args => a0 args (J r0 h)) args m :=
 h.fn hn (λ args h => aS args λ r0 args => a0 args (J r0 h)) (λ args h hl => by
   match args, hl with
   | [r0], _ => exact e r0 h) (λ args h hl => by
   match args, hl with
   | [], _ => rfl
   | [r0], hl => exact absurd rfl hl
   | _ :: _ :: _, _ => rfl) args m
theorem Is.fn2 {E : bF} {d : DF} {S : Rg -> H -> aV} (h : Is E d.body (bQ d.res) S) (hn : d.np = 2) (J : DV -> DV -> H -> aV) (e : ∀ r0 r1 h, S (reg (Tr.ofL [r0, r1])) h = J r0 r1 h) (args : List DV) (m : H) : jI E d args m = (λ args h => aS args λ r0 args => aS args λ r1 args => a0 args (J r0 r1 h)) args m :=
 h.fn hn (λ args h => aS args λ r0 args => aS args λ r1 args => a0 args (J r0 r1 h)) (λ args h hl => by
   match args, hl with
   | [r0, r1], _ => exact e r0 r1 h) (λ args h hl => by
   match args, hl with
   | [], _ => rfl
   | [_], _ => rfl
   | [r0, r1], hl => exact absurd rfl hl
   | _ :: _ :: _ :: _, _ => rfl) args m
theorem Is.fn3 {E : bF} {d : DF} {S : Rg -> H -> aV} (h : Is E d.body (bQ d.res) S) (hn : d.np = 3) (J : DV -> DV -> DV -> H -> aV) (e : ∀ r0 r1 r2 h, S (reg (Tr.ofL [r0, r1, r2])) h = J r0 r1 r2 h) (args : List DV) (m : H) : jI E d args m = (λ args h => aS args λ r0 args => aS args λ r1 args => aS args λ r2 args => a0 args (J r0 r1 r2 h)) args m :=
 h.fn hn (λ args h => aS args λ r0 args => aS args λ r1 args => aS args λ r2 args => a0 args (J r0 r1 r2 h)) (λ args h hl => by
   match args, hl with
   | [r0, r1, r2], _ => exact e r0 r1 r2 h) (λ args h hl => by
   match args, hl with
   | [], _ => rfl
   | [_], _ => rfl
   | [_, _], _ => rfl
   | [r0, r1, r2], hl => exact absurd rfl hl
   | _ :: _ :: _ :: _ :: _, _ => rfl) args m
theorem Is.fn4 {E : bF} {d : DF} {S : Rg -> H -> aV} (h : Is E d.body (bQ d.res) S) (hn : d.np = 4) (J : DV -> DV -> DV -> DV -> H -> aV) (e : ∀ r0 r1 r2 r3 h, S (reg (Tr.ofL [r0, r1, r2, r3])) h = J r0 r1 r2 r3 h) (args : List DV) (m : H) : jI E d args m = (λ args h => aS args λ r0 args => aS args λ r1 args => aS args λ r2 args => aS args λ r3 args => a0 args (J r0 r1 r2 r3 h)) args m :=
 h.fn hn (λ args h => aS args λ r0 args => aS args λ r1 args => aS args λ r2 args => aS args λ r3 args => a0 args (J r0 r1 r2 r3 h)) (λ args h hl => by
   match args, hl with
   | [r0, r1, r2, r3], _ => exact e r0 r1 r2 r3 h) (λ args h hl => by
   match args, hl with
   | [], _ => rfl
   | [_], _ => rfl
   | [_, _], _ => rfl
   | [_, _, _], _ => rfl
   | [r0, r1, r2, r3], hl => exact absurd rfl hl
   | _ :: _ :: _ :: _ :: _ :: _, _ => rfl) args m
theorem Is.fn5 {E : bF} {d : DF} {S : Rg -> H -> aV} (h : Is E d.body (bQ d.res) S) (hn : d.np = 5) (J : DV -> DV -> DV -> DV -> DV -> H -> aV) (e : ∀ r0 r1 r2 r3 r4 h, S (reg (Tr.ofL [r0, r1, r2, r3, r4])) h = J r0 r1 r2 r3 r4 h) (args : List DV) (m : H) : jI E d args m = (λ args h => aS args λ r0 args => aS args λ r1 args => aS args λ r2 args => aS args λ r3 args => aS args λ r4 args => a0 args (J r0 r1 r2 r3 r4 h)) args m :=
 h.fn hn (λ args h => aS args λ r0 args => aS args λ r1 args => aS args λ r2 args => aS args λ r3 args => aS args λ r4 args => a0 args (J r0 r1 r2 r3 r4 h)) (λ args h hl => by
   match args, hl with
   | [r0, r1, r2, r3, r4], _ => exact e r0 r1 r2 r3 r4 h) (λ args h hl => by
   match args, hl with
   | [], _ => rfl
   | [_], _ => rfl
   | [_, _], _ => rfl
   | [_, _, _], _ => rfl
   | [_, _, _, _], _ => rfl
   | [r0, r1, r2, r3, r4], hl => exact absurd rfl hl
   | _ :: _ :: _ :: _ :: _ :: _ :: _, _ => rfl) args m
structure FD where
 f : Nat
 d : DF
 s : bF -> bU
def rS : List FD -> Prop
 | [] => True
 | x :: l => (∀ E args h, jI E x.d args h = x.s E args h) /\ rS l
theorem rS.mem : ∀ {l : List FD}, rS l -> ∀ x ∈ l, ∀ E args h, jI E x.d args h = x.s E args h
 | y :: l, h, x, hx => by
   rcases List.mem_cons.1 hx with rfl | hx
   · exact h.1
   · exact h.2.mem x hx
theorem rS.append : ∀ {l m : List FD}, rS l -> rS m -> rS (l ++ m)
 | [], _, _, h => h
 | _ :: _, _, h, k => ⟨h.1, h.2.append k⟩
def oE (P : Program) (l : List FD) : Bool := l.all λ x => aJX P x.f x.d
theorem aAc {P : Program} {l m : List FD} (h : oE P l = true) (k : oE P m = true) : oE P (l ++ m) = true := by
 unfold oE at *; rw [List.all_append, h, k]; rfl
def aCS : List FD -> Tr (bF -> bU) -> Tr (bF -> bU)
 | [], t => t
 | x :: l, t => aCS l (Tr.set x.s (Pa.of x.f) t)
theorem aGv : ∀ (l : List FD) (t : Tr (bF -> bU)) (f : Nat) (s : bF -> bU), (aCS l t).at_ f = some s -> t.at_ f = some s \/ ∃ x ∈ l, x.f = f /\ x.s = s
 | [], t, f, d, h => .inl h
 | x :: l, t, f, d, h => by
   rcases aGv l _ f d h with h | ⟨y, hy, h⟩
   · have := Tr.at_put t x.f f x.s; unfold Tr.put at this; rw [this] at h; split at h
     · rename_i hh; cases h; exact .inr ⟨x, by simp, hh.symm, rfl⟩
     · exact .inl h
   · exact .inr ⟨y, List.mem_cons_of_mem _ hy, h⟩
def SE (B : bF) (T : Tr (bF -> bU)) (n : Nat) : bF := Nat.rec (motive := λ _ => bF) (λ _ => none) (λ _ ih f =>
 Option.rec (motive := λ _ => Option bU) (Option.rec (motive := λ _ => Option bU) none (λ s => some (s ih)) (T.at_ f)) some (B f)) n
structure aKn (P : Program) (T : Tr (bF -> bU)) : Prop where
 ok : ∀ f s, T.at_ f = some s -> iJ P f = true /\ ∀ E, gV P E -> gN P f (s E)
theorem bKC {P : Program} {l : List FD} {T : Tr (bF -> bU)} (hT : aCS l .e = T) (hc : oE P l = true) (he : rS l) : aKn P T := by
 refine ⟨λ f s h => ?_⟩
 rw [<- hT] at h; rcases aGv l _ f s h with h | ⟨x, hx, rfl, rfl⟩
 · rw [Tr.at_e] at h; cases h
 · have hk := List.all_eq_true.1 hc x hx; refine ⟨aJZ hk, λ E hE => ?_⟩
   have e : x.s E = jI E x.d := funext λ args => funext λ h => (he.mem x hx E args h).symm
   rw [e]; exact aTX hE hk
theorem aVn {P : Program} {B : bF} {T : Tr (bF -> bU)} (hB : gV P B) (hT : aKn P T) : ∀ n, gV P (SE B T n)
 | 0 => λ f F hF => by cases hF
 | n + 1 => λ f F hF => by
   replace hF : Option.rec (motive := λ _ => Option bU) (Option.rec (motive := λ _ => Option bU) none (λ s => some (s (SE B T n))) (T.at_ f)) some (B f) = some F := hF
   cases hb : B f with
   | some G => rw [hb] at hF; cases hF; exact hB f F hb
   | none =>
     rw [hb] at hF; cases hs : T.at_ f with
     | none => rw [hs] at hF; cases hF
     | some s =>
       rw [hs] at hF; cases hF; exact ⟨(hT.ok f s hs).1, (hT.ok f s hs).2 _ (aVn hB hT n)⟩
theorem calls_true2 {P : Program} {B : bF} {T : Tr (bF -> bU)} {f : FuncId} {s : bF -> bU} (hB : gV P B) (hT : aKn P T) (hf : T.at_ f = some s) {n : Nat} {args : List DV} {args' : List Value} (hargs : trs (λ _ => none) args = some args')
   (hrun : (s (SE B T n) args H0).map (·.1) = some (.bool true)) (w : World) (hg : aXN w := by first | assumption | exact λ _ h => by cases h) :
   Calls P f args'.toArray w λ e w' => e = .returned (.bool true) /\ Below w.heap.size w w' := by
 cases hr : s (SE B T n) args H0 with
 | none => rw [hr] at hrun; cases hrun
 | some r =>
   obtain ⟨v, h'⟩ := r; rw [hr] at hrun; simp only [Option.map_some, Option.some.injEq] at hrun; subst hrun; refine ((hT.ok f s hf).2 _ (aVn hB hT n) w.heap.size w _ H0 w args args' _ h' hr hargs (bX.start w hg)).mono λ e w' hh => ?_
   obtain ⟨m', v', rfl, h2, h3, h4⟩ := hh; rw [jD h2]; exact ⟨rfl, h3.below⟩
end Go.DI
namespace Go.DI
open Go.RowKit
section
variable {R : Type}
@[simp] theorem aA (v : DV) (k : DV -> Option R) : vK (some v) k = k v := id rfl
@[simp] theorem bSI (k : DV -> Option R) : vK none k = none := id rfl
@[simp] theorem aZ (v : DV) (h : H) (k : DV -> H -> Option R) : wK (some (v, h)) k = k v h := id rfl
@[simp] theorem bSH (k : DV -> H -> Option R) : wK none k = none := id rfl
@[simp] theorem cZ (a b : Option R) : bK (.bool true) a b = a := id rfl
@[simp] theorem bC (a b : Option R) : bK (.bool false) a b = b := id rfl
@[simp] theorem aNX (a : Option R) : rK true a = a := id rfl
@[simp] theorem bTj (v : DV) (vs : List DV) (k : DV -> List DV -> Option R) : aS (v :: vs) k = k v vs := id rfl
@[simp] theorem aS_nil (k : DV -> List DV -> Option R) : aS [] k = none := id rfl
@[simp] theorem a0_nil (x : Option R) : a0 [] x = x := id rfl
@[simp] theorem bTk (v : DV) (vs : List DV) (x : Option R) : a0 (v :: vs) x = none := id rfl
end
theorem dP {a b : Nat} (h : a < b) : Nat.blt a b = true := by rw [Nat.blt_eq]; exact h
theorem aU {E : bF} {f : Nat} {F : bU} (h : E f = some F) (args : List DV) (m : H) : aC E f args m = F args m := by unfold aC; rw [h]
theorem gM (k : IntKind) : kEq k k = true := by cases k <;> rfl
theorem qZ (k : IntKind) (a b : Int) : cG (.int k a) (.int k b) = some (.int k (k.wrap (a + b))) := by
 show (bif kEq k k then aOU k a b else none) = _; rw [gM]; show iR k (aTL a b) = _; rw [aGD, gR]
theorem aAq (k : IntKind) (a b : Int) : iX (.int k a) (.int k b) = some (.int k (k.wrap (a - b))) := by
 show (bif kEq k k then aOJ k a b else none) = _; rw [gM]; show iR k (a - b) = _; rw [gR]
theorem iS (k : IntKind) (a b : Int) : bV (.int k a) (.int k b) = some (.bool (decide (a < b))) := by
 show (bif kEq k k then aOO k a b else none) = _; rw [gM]; show eV (iLt a b) = _; rw [fX, mM]
theorem aAu (k : IntKind) (a b : Int) : dS (.int k a) (.int k b) = some (.bool (decide (b < a))) := by
 show (bif kEq k k then aOQ k a b else none) = _; rw [gM]; show eV (iLt b a) = _; rw [fX, mM]
theorem aAw (k : IntKind) (a b : Nat) (ha : a < 2 ^ k.bits) (hb : b < 2 ^ k.bits) : nX (.int k (.ofNat a)) (.int k (.ofNat b)) = some (.int k (k.wrap (.ofNat (a &&& b)))) := by
 show (bif kEq k k then aJw k (.ofNat a) (.ofNat b) else none) = _; rw [gM]; show (bif Nat.blt a (2 ^ k.bits) && Nat.blt b (2 ^ k.bits) then iR k (.ofNat (Nat.land a b)) else _) = _; rw [dP ha, dP hb]; exact gR _ _
theorem lH (k : IntKind) (a b : Nat) (ha : a < 2 ^ k.bits) (hb : b < 2 ^ k.bits) : pT (.int k (.ofNat a)) (.int k (.ofNat b)) = some (.int k (k.wrap (.ofNat (a ^^^ b)))) := by
 show (bif kEq k k then aJu k (.ofNat a) (.ofNat b) else none) = _; rw [gM]; show (bif Nat.blt a (2 ^ k.bits) && Nat.blt b (2 ^ k.bits) then iR k (.ofNat (Nat.xor a b)) else _) = _; rw [dP ha, dP hb]; exact gR _ _
theorem qY (k k' : IntKind) (a b : Nat) (hb : b <= k.bits) : lL (.int k (.ofNat a)) (.int k' (.ofNat b)) = some (.int k (.ofNat (a / 2 ^ b))) := by
 show mQ .shr k (.ofNat a) (.ofNat b) = _; unfold mQ; rw [show iLt (.ofNat b) 0 = false from by rw [mM]; simp]
 simp only [cond_false, lV]; rw [show min (Int.ofNat b).toNat k.bits = b from by simp [Nat.min_eq_left hb]]
 congr 2
 show Int.fdiv (a : Int) (2 ^ b) = ((a / 2 ^ b : Nat) : Int); rw [Int.fdiv_eq_ediv_of_nonneg _ (by exact_mod_cast Nat.zero_le _)]
 simp
theorem jB (k k' : IntKind) (a : Int) : dF k (.int k' a) = some (.int k (k.wrap a)) := gR _ _
theorem cQ (s : Ln) : eO (.str s) = some (.int .i64 (.ofNat s.length)) := by
 simp only [eO, aR]
theorem mG {s : Ln} {i b : Nat} (h : s[i]? = some b) (k : IntKind) : oV (.str s) (.int k (.ofNat i)) = some (.int .u8 (.ofNat b)) := by
 have hi : i < s.length := by
   rcases Nat.lt_or_ge i s.length with h1 | h1
   · exact h1
   · rw [List.getElem?_eq_none h1] at h; cases h
 simp only [oV, nU]; rw [dP hi, h]; rfl
theorem wrap_u32 {n : Nat} (h : n < 4294967296) : IntKind.u32.wrap (.ofNat n) = .ofNat n := by
 rw [IntKind.wrap_u32]; simp only [Int.ofNat_eq_natCast]; omega
theorem wrap_i64 {n : Nat} (h : n < 9223372036854775808) : IntKind.i64.wrap (.ofNat n) = .ofNat n := by
 rw [pS] <;> simp only [Int.ofNat_eq_natCast] <;> omega
def jE (c : Nat) : Nat := Nat.xor (Nat.div c 2) (bif Nat.beq (Nat.mod c 2) 0 then 0 else 3988292384)
def kN : Nat -> Nat -> Nat
 | 0, c => c
 | k + 1, c => kN k (jE c)
def aYU (c : Nat) : Nat := cX (jE c) λ c => cX (jE c) λ c => cX (jE c) λ c => cX (jE c) λ c => cX (jE c) λ c => cX (jE c) λ c => cX (jE c) λ c => jE c
theorem aYT (c : Nat) : aYU c = kN 8 c := by
 unfold aYU; simp only [aR]
 rfl
theorem rY {c : Nat} (h : c < 4294967296) : jE c < 4294967296 := by
 show (c / 2) ^^^ (bif Nat.beq (c % 2) 0 then 0 else 3988292384) < 4294967296; have h1 : c / 2 < 2 ^ 32 := by omega
 have h2 : (bif Nat.beq (c % 2) 0 then 0 else 3988292384) < 2 ^ 32 := by cases Nat.beq (c % 2) 0 <;> decide
 exact Nat.xor_lt_two_pow h1 h2
theorem aBk : ∀ (k c : Nat), c < 4294967296 -> kN k c < 4294967296
 | 0, c, h => h
 | k + 1, c, h => aBk k _ (rY h)
@[simp] theorem jX {R : Type} (op : (DV -> H -> Option R) -> Option R) (h : H) (k : DV -> H -> Option R) : aQ (.bool false) false op h k = op k := id rfl
@[simp] theorem tG {R : Type} (op : (DV -> H -> Option R) -> Option R) (h : H) (k : DV -> H -> Option R) : aQ (.bool true) true op h k = op k := id rfl
@[simp] theorem aAK {R : Type} (op : (DV -> H -> Option R) -> Option R) (h : H) (k : DV -> H -> Option R) : aQ (.bool true) false op h k = k (.tup []) h := id rfl
@[simp] theorem aGE {R : Type} (op : (DV -> H -> Option R) -> Option R) (h : H) (k : DV -> H -> Option R) : aQ (.bool false) true op h k = k (.tup []) h := id rfl
@[simp] theorem iD (a b : DV) : aN (.bool true) a b = some a := id rfl
@[simp] theorem eW (a b : DV) : aN (.bool false) a b = some b := id rfl
theorem gH (b : Bool) : fH (.bool b) = some (.bool (!b)) := fX _
theorem vU (k : IntKind) (a b : Int) : dR (.int k a) (.int k b) = some (.bool (a != b)) := by
 show (bif kEq k k then aOM k a b else none) = _; rw [gM]; show eV (!iEq a b) = _; rw [fX, mN]; rfl
theorem mH (k : IntKind) (a b : Int) : cU (.int k a) (.int k b) = some (.bool (a == b)) := by
 show (bif kEq k k then aOS k a b else none) = _; rw [gM]; show eV (iEq a b) = _; rw [fX, mN]
theorem mF (k : IntKind) (a b : Int) : jP (.int k a) (.int k b) = some (.int k (k.wrap (a * b))) := by
 show (bif kEq k k then aON k a b else none) = _; rw [gM]; show iR k (a * b) = _; rw [gR]
def iK (b : Nat) : DV := .int .u8 (.ofNat b)
def aY (s : Ln) : List DV := s.map iK
theorem nI : ∀ {s : Ln}, aW s = true -> jQ (aY s) = some s
 | [], _ => rfl
 | b :: s, h => by
   simp only [aW, Bool.and_eq_true, Nat.blt_eq] at h; have hb : yG (iK b) = some b := by
     show (bif Nat.blt b 256 then some b else none) = some b; rw [dP h.1]; rfl
   show (match yG (iK b), jQ (aY s) with
     | some b, some bs => some (b :: bs)
     | _, _ => none) = _
   rw [hb, nI h.2]
theorem qQ (s : Ln) : (aY s).all DV.one = true := by
 rw [List.all_eq_true]; intro x hx; obtain ⟨b, _, rfl⟩ := List.mem_map.1 hx
 rfl
theorem mI {rd : Rd} {b : Nat} : ∀ (vs : List DV) (j : Nat), (∀ i v, vs[i]? = some v -> rdCell rd b (j + i) = some v) -> rdCells rd b j vs.length = some vs
 | [], j, _ => rfl
 | v :: vs, j, h => by
   simp only [List.length_cons, rdCells]; have h0 := h 0 v rfl; rw [Nat.add_zero] at h0; rw [h0, mI vs (j + 1) (λ i u hi => by rw [show j + 1 + i = j + (i + 1) from by omega]; exact h (i + 1) u hi)]
theorem aBs {rd : Rd} {b : Nat} : ∀ {n j : Nat} {vs : List DV}, rdCells rd b j n = some vs -> vs.length = n /\ ∀ i v, vs[i]? = some v -> rdCell rd b (j + i) = some v
 | 0, j, vs, h => by
   simp only [rdCells, Option.some.injEq] at h; subst h; exact ⟨rfl, λ i v hi => by simp at hi⟩
 | n + 1, j, vs, h => by
   simp only [rdCells] at h; split at h
   · rename_i v us h1 h2; cases h; obtain ⟨hl, hg⟩ := aBs h2; refine ⟨by simp [hl], λ i u hi => ?_⟩
     cases i with
     | zero => simp at hi; subst hi; exact h1
     | succ i => simp at hi; rw [show j + (i + 1) = j + 1 + i from by omega]; exact hg i u hi
   · cases h
theorem qF {h : H} {b o : Nat} {B : Blk} {vs : List DV} (hg : h.get b = some (.blk B)) (hr : B.ro = false) (hl : o + vs.length <= B.n) (h1 : vs.all DV.one = true) :
   ∃ h' t', fO vs h b o = some h' /\ h'.size = h.size /\ (∀ c, c ≠ b -> h'.get c = h.get c) /\ h'.get b = some (.blk { B with t := t' }) /\ ∀ j, t'.at_ j = if o <= j /\ j < o + vs.length then vs[j - o]? else B.t.at_ j := by
 cases vs with
 | nil => exact ⟨h, B.t, rfl, rfl, λ _ _ => rfl, hg, λ j => by rw [if_neg (by simp only [List.length_nil]; omega)]⟩
 | cons v vs =>
   refine ⟨_, aIw (v :: vs) o B.t, by rw [aAO (v :: vs) h b o B hg (by simp), if_pos ⟨by simp [hr], hl, h1⟩], by simp, λ c hc => by rw [H.get_put, if_neg hc], by rw [H.get_put, if_pos rfl], λ j => ?_⟩
   rw [aAC, Tr.at_ofF]
theorem sY {rd : Rd} {b j : Nat} {B : Blk} (h : rd b = some (.blk B)) (hj : j < B.n) : rdCell rd b j = B.t.at_ j := by
 unfold rdCell; rw [h]; simp only []; rw [if_pos hj]
theorem qB {rd rd' : Rd} {b j : Nat} (h : rd' b = rd b) : rdCell rd' b j = rdCell rd b j := by unfold rdCell; rw [h]
theorem gN.or {P : Program} {f : FuncId} {F G : bU} (hF : gN P f F) (hG : gN P f G) : gN P f λ args h => Option.rec (motive := λ _ => Option (DV × H)) (G args h) some (F args h) := by
 intro N0 w0 m h w args args' v h' hr ht hw; cases hf : F args h with
 | some r =>
   have hr' : some r = some (v, h') := by rw [<- hr]; show _ = Option.rec (motive := λ _ => Option (DV × H)) (G args h) some (F args h); rw [hf]
   cases hr'; exact hF N0 w0 m h w args args' v h' hf ht hw
 | none =>
   have hr' : G args h = some (v, h') := by rw [<- hr]; show _ = Option.rec (motive := λ _ => Option (DV × H)) (G args h) some (F args h); rw [hf]
   exact hG N0 w0 m h w args args' v h' hr' ht hw
def aGy (s : Ln) : Bool := List.rec (motive := λ _ => Bool) true (λ b _ ih => bif Nat.blt b 256 then ih else false) s
theorem aAH : ∀ s, aGy s = aW s
 | [] => rfl
 | b :: s => by
   show (bif Nat.blt b 256 then aGy s else false) = (Nat.blt b 256 && aW s); rw [aAH s]; cases Nat.blt b 256 <;> rfl
def aSj {α : Type} (a b : List α) : List α := List.rec (motive := λ _ => List α) b (λ x _ ih => x :: ih) a
theorem aHb {α : Type} : ∀ a b : List α, aSj a b = a ++ b
 | [], b => rfl
 | x :: a, b => congrArg (x :: ·) (aHb a b)
def aMi (vs : List DV) : Option (Ln) := List.rec (motive := λ _ => Option (Ln)) (some []) (λ v _ ih => match v with
 | .str s => Option.rec (motive := λ _ => Option (Ln)) none (λ t => some (aSj s t)) ih
 | _ => none) vs
end Go.DI
namespace Go.DI
open Go.RowKit
def aHe (P : Program) (f : FuncId) (G : bU) : Prop :=
 ∀ (N0 : Nat) (w0 : World) (m : Mp) (h : H) (w : World) (args : List DV) (args' : List Value) (v : DV) (h' : H), G args h = some (v, h') -> trs m args = some args' -> bX N0 w0 m h w ->
   Calls P f args'.toArray w λ e w' => ∃ m' v', e = .panicked [{ v := v', recovered := false }] /\ tr m' v = some v' /\ bX N0 w0 m' h' w' /\ iB m h m' h'
section
variable {P : Program} {N0 : Nat} {w0 : World} {E : bF}
theorem aCw {R : Type} {ops : Array Oper} {Q : Exit -> Act -> World -> Prop} {n : Nat} {ds : List Deferred} {res : R} (hE : gV P E) (tl : Ln) :
   ∀ (os : List Oper) (gs : List DG) (k : Nat), (∀ j, j < os.length -> os[j]? = ops[k + j]?) -> vE P n ops os gs = true ->
   ∀ (m : Mp) (ρ : Tr DV) (h : H) (a : Act) (w : World) (K : Tr DV -> H -> Option R), eS E gs ρ h K = some res -> fF m n ρ a -> bX N0 w0 m h w -> a.defers = ds ->
   (∀ ρ' h' m' a' w', iB m h m' h' -> fF m' n ρ' a' -> bX N0 w0 m' h' w' -> a'.defers = ds -> K ρ' h' = some res -> wpOps P ops Q tl a' w') ->
   wpOps P ops Q (List.range' k os.length ++ tl) a w := by
 intro os
 induction os with
 | nil =>
   intro gs k _ hc m ρ h a w K he hr hw hd hQ; cases gs with
   | nil => exact hQ ρ h m a w (iB.refl _ _) hr hw hd he
   | cons g gs => cases hc
 | cons o os ih =>
   intro gs k hk hc m ρ h a w K he hr hw hd hQ; cases gs with
   | nil => cases hc
   | cons g gs =>
     simp only [vE, Bool.and_eq_true] at hc; obtain ⟨hg, hc⟩ := hc; unfold aBW at hg; rw [Bool.and_eq_true, Bool.and_eq_true] at hg; obtain ⟨⟨hdst, hgd⟩, hop⟩ := hg; have ho : ops[k]? = some o := by have := hk 0 (by simp); simpa using this.symm
     have hk' : ∀ j, j < os.length -> os[j]? = ops[k + 1 + j]? := λ j hj => by
       have := hk (j + 1) (by simp only [List.length_cons]; omega)
       rw [show k + 1 + j = k + (j + 1) from by omega]
       simpa using this
     simp only [List.length_cons, List.range'_succ, List.cons_append, wpOps, ho]
     replace he : dW E g ρ h (λ ρ h => eS E gs ρ h K) = some res := he
     unfold dW at he; rw [aAp hr hgd]; cases hwt : cV ρ g.guard with
     | true =>
       rw [hwt] at he; simp only [cond_true] at he; simp only [if_true]; cases hod : odo E g.op ρ h with
       | none => rw [hod] at he; cases he
       | some x =>
         obtain ⟨v, h1⟩ := x; rw [hod] at he; simp only [Option.bind_some, kW] at he; refine .inl (aLA hE hop (hr.on _) hw hod λ m' w' v' e1 e2 e3 => ?_)
         exact ih gs (k + 1) hk' hc m' _ h1 _ w' K he ((hr.mono e3.le).put hdst e1) e2 (by rw [Act.put_defers']; exact hd)
           λ ρ' h' m'' a' w'' x1 x2 x3 x4 x5 => hQ ρ' h' m'' a' w'' (e3.trans x1) x2 x3 x4 x5
     | false =>
       rw [hwt] at he; simp only [cond_false, kW] at he; simp only [Bool.false_eq_true, if_false]; exact ih gs (k + 1) hk' hc m _ h _ w K he (hr.put hdst rfl) hw (by rw [Act.put_defers']; exact hd) hQ
inductive DP where
 | no
 | sl (p : DP)
 | sr (d : DC) (p : DP)
 | cd (c : bB) (p q : DP)
 | pan (l : List DG) (x : bB)
 | or (p q : DP)
def goN (E : bF) (d : DC) (ρ : Tr DV) (h : H) : Option (Tr DV × H) := nH E d ρ h λ x ρ h => DX.rec (motive := λ _ => Option (Tr DV × H)) (some (ρ, h)) (λ _ => none) none x
def kO (E : bF) (p : DP) : Tr DV -> H -> Option (DV × H) :=
 DP.rec (motive := λ _ => Tr DV -> H -> Option (DV × H)) (λ _ _ => none) (λ _ ih => ih) (λ d _ ih ρ h => (goN E d ρ h).bind λ x => ih x.1 x.2)
   (λ c _ _ ip iq ρ h => bK (ev ρ c) (ip ρ h) (iq ρ h)) (λ l x ρ h => eS E l ρ h λ ρ h => some (ev ρ x, h)) (λ _ _ ip iq ρ h => Option.rec (motive := λ _ => Option (DV × H)) (iq ρ h) some (ip ρ h)) p
def aAb (P : Program) (n : Nat) (ops : Array Oper) : List Oper -> List DG -> bB -> Bool
 | [o], [], x => (match o.op with
   | .panic y => aK y x
   | _ => false) && o.guard.isNone
 | o :: os, g :: gs, x => aBW P n ops o g && aAb P n ops os gs x
 | _, _, _ => false
def aAS (P : Program) (n : Nat) : Code -> DP -> Bool
 | _, .no => true
 | .seq a b, .sl p => aAS P n a p
 | .seq a b, .sr d p => eR P n a d && aAS P n b p
 | .cond c a b, .cd x p q => aK c x && aAS P n a p && aAS P n b q
 | c, .or p q => aAS P n c p && aAS P n c q
 | .region _ ops draw, .pan l x => !draw && aAb P n ops ops.toList l x
 | _, _ => false
theorem xH {n : Nat} {ops : Array Oper} {x : bB} : ∀ {os : List Oper} {gs : List DG}, aAb P n ops os gs x = true -> ∃ os' o y, os = os' ++ [o] /\ vE P n ops os' gs = true /\ o.op = .panic y /\ aK y x = true /\ o.guard = none
 | [], gs, h => by cases gs <;> cases h
 | [o], [], h => by
   simp only [aAb, Bool.and_eq_true] at h; obtain ⟨h1, h2⟩ := h; split at h1
   · rename_i y hy; exact ⟨[], o, y, rfl, rfl, hy, h1, by simpa using h2⟩
   · cases h1
 | o :: o2 :: os, [], h => by cases h
 | o :: os, g :: gs, h => by
   have h' : (aBW P n ops o g && aAb P n ops os gs x) = true := by cases os <;> exact h
   rw [Bool.and_eq_true] at h'; obtain ⟨os', o', y, h1, h2, h3⟩ := xH h'.2; exact ⟨o :: os', o', y, by rw [h1]; rfl, by simp only [vE, h'.1, h2, Bool.and_self], h3⟩
theorem aIL {n : Nat} {ds : List Deferred} {pv : DV} {hf : H} (hE : gV P E) : ∀ (p : DP) (c : Code), aAS P n c p = true ->
   ∀ (m : Mp) (ρ : Tr DV) (h : H) (a : Act) (w : World) (Q : Exit -> Act -> World -> Prop), kO E p ρ h = some (pv, hf) -> fF m n ρ a -> bX N0 w0 m h w -> a.defers = ds ->
   (∀ m' pv' a' w', iB m h m' hf -> tr m' pv = some pv' -> bX N0 w0 m' hf w' -> a'.defers = ds -> Q (.panic [{ v := pv', recovered := false }]) a' w') ->
   (∃ t v, pv = .ifc t v) -> c.wp P Q a w := by
 intro p
 induction p with
 | no => intro c hc m ρ h a w Q he; cases he
 | sl p ih =>
   intro c hc m ρ h a w Q he hr hw hd hQ hi; cases c <;> first | (cases hc; done) | skip
   rename_i c1 c2; exact wp_seq (ih c1 hc m ρ h a w _ he hr hw hd hQ hi)
 | sr d p ih =>
   intro c hc m ρ h a w Q he hr hw hd hQ hi; cases c <;> first | (cases hc; done) | skip
   rename_i c1 c2; simp only [aAS, Bool.and_eq_true] at hc
   replace he : (goN E d ρ h).bind (λ x => kO E p x.1 x.2) = some (pv, hf) := he
   cases hg : goN E d ρ h with
   | none => rw [hg] at he; cases he
   | some r =>
     obtain ⟨ρ1, h1⟩ := r; rw [hg] at he; simp only [Option.bind_some] at he; refine wp_seq (tH hE d c1 hc.1 m ρ h a w _ _ hg hr hw hd λ x ρ' h' m' a' w' x1 x2 x3 x4 x5 => ?_)
     cases x with
     | normal =>
       have x5 : some (ρ', h') = some (ρ1, h1) := x5; cases x5; exact ih c2 hc.2 m' ρ1 h1 a' w' Q he x2 x3 x4 (λ m'' pv' a'' w'' y1 y2 y3 y4 => hQ m'' pv' a'' w'' (x1.trans y1) y2 y3 y4) hi
     | exit i => cases x5
     | ret => cases x5
 | cd x p q ihp ihq =>
   intro c hc m ρ h a w Q he hr hw hd hQ hi; cases c <;> first | (cases hc; done) | skip
   rename_i c0 c1 c2; simp only [aAS, Bool.and_eq_true] at hc
   replace he : bK (ev ρ x) (kO E p ρ h) (kO E q ρ h) = some (pv, hf) := he
   have hg := hr.on #[c0] c0 (by simp) x hc.1.1
   unfold bK at he; split at he
   · rename_i b hb; rw [hb] at hg; cases b
     · exact wp_cond_false (jD hg) (ihq c2 hc.2 m ρ h a w Q he hr hw hd hQ hi)
     · exact wp_cond_true (jD hg) (ihp c1 hc.1.2 m ρ h a w Q he hr hw hd hQ hi)
   · cases he
 | or p q ihp ihq =>
   intro c hc m ρ h a w Q he hr hw hd hQ hi; have hc' : (aAS P n c p && aAS P n c q) = true := by cases c <;> exact hc
   rw [Bool.and_eq_true] at hc'
   replace he : Option.rec (motive := λ _ => Option (DV × H)) (kO E q ρ h) some (kO E p ρ h) = some (pv, hf) := he
   cases hp : kO E p ρ h with
   | some r =>
     rw [hp] at he; have he : some r = some (pv, hf) := he; cases he; exact ihp c hc'.1 m ρ h a w Q hp hr hw hd hQ hi
   | none =>
     rw [hp] at he; exact ihq c hc'.2 m ρ h a w Q he hr hw hd hQ hi
 | pan l x =>
   intro c hc m ρ h a w Q he hr hw hd hQ hi; cases c <;> first | (cases hc; done) | skip
   rename_i id ops draw; simp only [aAS, Bool.and_eq_true, Bool.not_eq_true'] at hc; obtain ⟨rfl, hc⟩ := hc; obtain ⟨os, o, y, e1, e2, e3, e4, e5⟩ := xH hc; refine wp_region ?_; have hsz : ops.size = os.length + 1 := by rw [<- Array.length_toList, e1]; simp
   rw [hsz, List.range_eq_range', List.range'_concat]; have hget : ∀ j, ops[j]? = (os ++ [o])[j]? := λ j => by rw [<- e1, Array.getElem?_toList]
   have hlast : ops[os.length]? = some o := by rw [hget, List.getElem?_append_right (Nat.le_refl _)]; simp
   rw [show 0 + 1 * os.length = os.length from by omega]
   replace he : eS E l ρ h (λ ρ h => some (ev ρ x, h)) = some (pv, hf) := he
   refine aCw hE [os.length] os l 0 (λ j hj => by rw [Nat.zero_add, hget, List.getElem?_append_left (by simpa using hj)]) e2 m ρ h a w _ he hr hw hd λ ρ' h' m' a' w' x1 x2 x3 x4 x5 => ?_
   simp only [Option.some.injEq, Prod.mk.injEq] at x5; obtain ⟨x5, rfl⟩ := x5; have hv := x2.on #[y] y (by simp) x e4
   rw [x5] at hv; obtain ⟨t, v, rfl⟩ := hi; simp only [wpOps, hlast]; have hwant : Region.wanted o (yielded ops a'.tmps) = true := by unfold Region.wanted; rw [e5]
   rw [hwant]; simp only [if_true]; refine .inl ?_; simp only [tr] at hv; cases hvv : tr m' v with
   | none => rw [hvv] at hv; cases hv
   | some v' =>
     rw [hvv] at hv; have hy : a'.eval y = .iface t v' := (Option.some.inj hv).symm; have hrun : (execOp a'.eval o).run P w' = .halt (.panic (.iface t v')) w' := by
       unfold execOp; rw [e3]; simp only [hy]
       rfl
     unfold Oper.wp; rw [hrun]; exact hQ m' _ a' w' x1 (by simp only [tr, hvv]) x3 x4
end
end Go.DI
namespace Go.DI
open Go.RowKit
section
variable {P : Program} {N0 : Nat} {w0 : World} {E : bF}
structure PF where
 np : Nat
 n : Nat
 p : DP
def bBJ : DV -> Bool
 | .ifc _ _ => true
 | _ => false
def bDL (E : bF) (d : PF) : bU := λ args h => bif Nat.beq args.length d.np then (kO E d.p (Tr.ofL args) h).bind λ x => bif bBJ x.1 then some x else none else none
def aUT (P : Program) (f : FuncId) (d : PF) : Bool := match P.funcs[f]? with
 | some fn => Nat.beq fn.ntmps d.n && Nat.ble d.np d.n && (match fn.body with
   | some c => aAS P d.n c d.p
   | none => false)
 | none => false
theorem xS {m : Mp} {args : List DV} {args' : List Value} {n nt : Nat} (hargs : trs m args = some args') (hl : args.length <= n) (hn : nt = n) :
   fF m n (Tr.ofL args) { tmps := args'.toArray ++ Array.replicate (nt - args'.toArray.size) undef, defers := [] } := by
 have hlen := dA hargs; refine ⟨by simp; omega, λ t => ?_⟩
 show tr m (Option.rec (.tup []) (λ v => v) (Tr.get (Pa.of t) (Tr.ofL args))) = _
 rw [show Tr.get (Pa.of t) (Tr.ofL args) = (Tr.ofL args).at_ t from rfl, Tr.at_ofL]
 rw [Array.getD_eq_getD_getElem?]; by_cases ht : t < args.length
 · obtain ⟨u, h1, h2⟩ := jC hargs t _ (List.getElem?_eq_getElem ht); rw [List.getElem?_eq_getElem ht]; rw [Array.getElem?_append_left (by simp; omega)]
   simp only [List.getElem?_toArray, h1, Option.getD_some]; exact h2
 · rw [List.getElem?_eq_none (by omega)]
   rw [Array.getElem?_append_right (by simp; omega)]
   rw [Array.getElem?_replicate]; split <;> rfl
theorem aRU {f : FuncId} {d : PF} (hE : gV P E) (hc : aUT P f d = true) : aHe P f (bDL E d) := by
 intro N0 w0 m h w args args' v0 h' hrun hargs hw; unfold aUT at hc; cases hf : P.funcs[f]? with
 | none => rw [hf] at hc; cases hc
 | some fn =>
   rw [hf] at hc; simp only [Bool.and_eq_true] at hc; obtain ⟨⟨hn, hnp⟩, hbody⟩ := hc; cases hb : fn.body with
   | none => rw [hb] at hbody; cases hbody
   | some c =>
     rw [hb] at hbody; have hn := Nat.eq_of_beq_eq_true hn; have hnp := Nat.le_of_ble_eq_true hnp; unfold bDL at hrun; obtain ⟨hlen, hrun⟩ := aM hrun; have hlen := Nat.eq_of_beq_eq_true hlen; cases hp : kO E d.p (Tr.ofL args) h with
     | none => rw [hp] at hrun; cases hrun
     | some r =>
       rw [hp] at hrun; simp only [Option.bind_some] at hrun; obtain ⟨hi, hrun⟩ := aM hrun; cases hrun; refine calls_of_wp hf hb ?_; refine aIL (ds := []) hE d.p c hbody m _ h _ w _ hp (xS hargs (by omega) hn) hw rfl (λ m' pv' a' w' x1 x2 x3 x4 => ?_) ?_
       · exact ⟨x4, m', pv', rfl, x2, x3, x1⟩
       · cases v0 <;> first | (cases hi; done) | exact ⟨_, _, rfl⟩
section
variable {n : Nat} {ds : List Deferred} {ops : Array Oper} {m0 : Mp} {h0 : H} {σ pfx rest0 : List DR} {x : DR} {res : Tr DV × H} {Q : Exit -> Act -> World -> Prop}
theorem aCU (hσ0 : σ = pfx ++ x :: rest0) (S : wX P n ops σ) {pre rest : List DR} (hp : pfx = pre ++ rest) {kf : Nat -> Nat} {nw : Nat -> Bool} {listed : Array Bool} {m : Mp} {ρ : Tr DV} {h : H} {a : Act} {w : World}
   (I : Inv N0 w0 n ds ops m0 h0 pre kf nw listed m ρ h a w) : listed.getD x.i false = false := by
 cases hl : listed.getD x.i false with
 | false => rfl
 | true =>
   obtain ⟨y, hy, he⟩ := I.lp _ hl; exact absurd he (S.pair pfx (x :: rest0) hσ0 y (by rw [hp]; exact List.mem_append_left _ hy) x (by simp)).1
theorem aTq (hσ0 : σ = pfx ++ x :: rest0) (hpe : ∀ y ∈ pfx, y.isW = false) (hxw : x.isW = true) (S : wX P n ops σ) (hre : ∀ x ∈ σ, x.isW = false -> x.re = [])
   (hP : ∀ kf nw listed m' ρ' h' a' w', Inv N0 w0 n ds ops m0 h0 pfx kf nw listed m' ρ' h' a' w' -> (ρ', h') = res -> (∀ o, ops[x.i]? = some o -> ∀ d ∈ pP o, listed.getD d false = true) -> ∀ C, wpOp P ops Q x.i C a' w')
   {z : DR} (hz : z ∈ σ) {o : Oper} (ho : ops[z.i]? = some o) {listed : Array Bool} {a : Act} {w : World} (hun : listed.getD z.i false = false) (hr : ∀ d ∈ pP o, listed.getD d false = true) {C : Act -> World -> Prop}
   (hK : ∀ pre' rest' kf' nw' m' ρ' h' a' w', pfx = pre' ++ rest' -> Inv N0 w0 n ds ops m0 h0 pre' kf' nw' (listed.setIfInBounds z.i true) m' ρ' h' a' w' -> eN E rest' pre'.reverse ρ' h' (λ ρ h => some (ρ, h)) = some res -> C a' w') :
   ∀ (rest pre : List DR) (kf : Nat -> Nat) (nw : Nat -> Bool) (m : Mp) (ρ : Tr DV) (h : H), pfx = pre ++ rest -> Inv N0 w0 n ds ops m0 h0 pre kf nw listed m ρ h a w -> eN E rest pre.reverse ρ h (λ ρ h => some (ρ, h)) = some res -> wpOp P ops Q z.i C a w := by
 intro rest
 induction rest with
 | nil =>
   intro pre kf nw m ρ h hp I he; have hp' : pfx = pre := by rw [hp]; simp
   rw [hσ0] at hz; rcases List.mem_append.1 hz with hzp | hzr
   · rw [hp'] at hzp; exact I.ahead (rest := x :: rest0) (by rw [hσ0, hp']) S hzp ho hun hr λ m' a' w' I' => hK pre [] kf nw m' ρ h a' w' hp I' he
   · rcases List.mem_cons.1 hzr with rfl | hzr
     · have he : some (ρ, h) = some res := he; rw [<- hp'] at I; exact hP kf nw listed m ρ h a w I (Option.some.inj he) (λ o' ho' => by rw [ho] at ho'; cases ho'; exact hr) C
     · have hanc := (S.pair (pfx ++ [x]) rest0 (by rw [hσ0]; simp) x (by simp) z hzr).2.2.2.2.2.1 hxw
       have := pL I.cl hanc (λ o' ho' => by rw [ho] at ho'; cases ho'; exact hr)
       rw [aCU hσ0 S hp I] at this; cases this
 | cons y rest ih =>
   intro pre kf nw m ρ h hp I he; have hσ : σ = pre ++ y :: (rest ++ x :: rest0) := by rw [hσ0, hp]; simp
   have hyw : y.isW = false := hpe y (by rw [hp]; simp)
   have adv : wpOp P ops Q z.i C a w := by
     have he' : dW E y.g ρ h (λ ρ h => bif y.re.all (eQ pre.reverse ρ h) then eN E rest (y :: pre.reverse) ρ h (λ ρ h => some (ρ, h)) else none) = some res := he
     obtain ⟨ρ', h', kf', nw', I', _, he'⟩ := I.eager hσ S hyw he'; rw [hre y (by rw [hσ]; simp) hyw] at he'
     refine ih (pre ++ [y]) kf' nw' m ρ' h' (by rw [hp]; simp) I' ?_
     rw [show (pre ++ [y]).reverse = y :: pre.reverse from by simp]
     simpa using he'
   have hz' := hz; rw [hσ] at hz'; rcases List.mem_append.1 hz' with hzp | _
   · exact I.ahead (rest := y :: (rest ++ x :: rest0)) hσ S hzp ho hun hr λ m' a' w' I' => hK pre (y :: rest) kf nw m' ρ h a' w' hp I' he
   · exact adv
theorem bDP (hσ0 : σ = pfx ++ x :: rest0) (hpe : ∀ y ∈ pfx, y.isW = false) (hxw : x.isW = true) (S : wX P n ops σ) (hre : ∀ x ∈ σ, x.isW = false -> x.re = [])
   (hP : ∀ kf nw listed m' ρ' h' a' w', Inv N0 w0 n ds ops m0 h0 pfx kf nw listed m' ρ' h' a' w' -> (ρ', h') = res -> (∀ o, ops[x.i]? = some o -> ∀ d ∈ pP o, listed.getD d false = true) -> ∀ C, wpOp P ops Q x.i C a' w') :
   ∀ (fuel : Nat) (listed : Array Bool) (pre rest : List DR) (kf : Nat -> Nat) (nw : Nat -> Bool) (m : Mp) (ρ : Tr DV) (h : H) (a : Act) (w : World), left listed <= fuel -> pfx = pre ++ rest -> Inv N0 w0 n ds ops m0 h0 pre kf nw listed m ρ h a w ->
   eN E rest pre.reverse ρ h (λ ρ h => some (ρ, h)) = some res -> wpAny P .any ops Q fuel listed a w := by
 have hxs : x.i < ops.size := by
   obtain ⟨o, ho, _⟩ := S.chk x (by rw [hσ0]; simp)
   exact (Array.getElem?_eq_some_iff.1 ho).1
 have no : ∀ (listed : Array Bool) (pre rest : List DR) (kf : Nat -> Nat) (nw : Nat -> Bool) (m : Mp) (ρ : Tr DV) (h : H) (a : Act) (w : World), (∀ i, i < ops.size -> listed.getD i false = true) -> pfx = pre ++ rest -> Inv N0 w0 n ds ops m0 h0 pre kf nw listed m ρ h a w -> False := by
   intro listed pre rest kf nw m ρ h a w hall hp I; have := hall x.i hxs; rw [aCU hσ0 S hp I] at this; cases this
 intro fuel
 induction fuel with
 | zero =>
   intro listed pre rest kf nw m ρ h a w hf hp I he; exact (no listed pre rest kf nw m ρ h a w (λ i hi => aFg (by omega) i (by rw [I.size]; exact hi)) hp I).elim
 | succ fuel ih =>
   intro listed pre rest kf nw m ρ h a w hf hp I he; refine ⟨λ hnil => (no listed pre rest kf nw m ρ h a w (aEX S I.size hnil) hp I).elim, λ i hi => ?_⟩
   rw [sO I.size] at hi; obtain ⟨hi, hun, hr⟩ := hi; obtain ⟨z, hz, rfl⟩ := S.cover i hi; have ho := Array.getElem?_eq_getElem hi; have hlt : z.i < listed.size := by rw [I.size]; exact hi
   have := aIZ hlt hun; exact aTq hσ0 hpe hxw S hre hP hz ho hun (hr _ ho) (λ pre' rest' kf' nw' m' ρ' h' a' w' hp' I' he' => ih _ pre' rest' kf' nw' m' ρ' h' a' w' (by omega) hp' I' he') rest pre kf nw m ρ h hp I he
theorem aLv {id f : Nat} {args : List bB} {G : bU} {pv : DV} {hf : H} (hG : aHe P f G) (hcl : iJ P f = true) (hc : aDN P n ops σ = true) (hσ0 : σ = pfx ++ x :: rest0) (hpe : ∀ y ∈ pfx, y.isW = false)
   (hx : x.g.guard = none) (hxo : x.g.op = .c (.f f args)) {m : Mp} {ρ : Tr DV} {h : H} {a : Act} {w : World} (he : eN E pfx [] ρ h (λ ρ h => some (ρ, h)) = some res) (hg : G (args.map (ev res.1)) res.2 = some (pv, hf))
   (hr : fF m n ρ a) (hw : bX N0 w0 m h w) (hd : a.defers = ds)
   (hQ : ∀ m' pv' a' w', iB m h m' hf -> tr m' pv = some pv' -> (∀ t, (∀ y ∈ pfx, y.g.dst ≠ some (Pa.of t)) -> tr m' (ev res.1 (.r (Pa.of t))) = some (a'.tmps.getD t undef)) -> a'.tmps.size = n -> bX N0 w0 m' hf w' -> a'.defers = ds -> Q (.panic [{ v := pv', recovered := false }]) a' w') :
   (Code.region id ops true).wp P Q a w := by
 obtain ⟨hm, S, hre⟩ := aNE hc; have hxw : x.isW = true := by unfold DR.isW; rw [hxo]; simp [DOp.isW]
 refine wp_region_any hm ?_; have hz : ∀ i, (Array.replicate ops.size false).getD i false = false := λ i => by
   rw [Array.getD_eq_getD_getElem?, Array.getElem?_replicate]; split <;> rfl
 refine bDP (N0 := N0) (w0 := w0) (ds := ds) (m0 := m) (h0 := h) (res := res) hσ0 hpe hxw S hre ?_ ops.size _ [] pfx (λ _ => 0) (λ _ => false) m ρ h a _ ?_ rfl ?_ he
 · intro kf nw listed m' ρ' h' a' w' I hres hdeps C; have hxσ : x ∈ σ := by rw [hσ0]; simp
   obtain ⟨o, ho, hg'⟩ := S.chk x hxσ; unfold aBW at hg'; rw [Bool.and_eq_true, Bool.and_eq_true] at hg'; obtain ⟨⟨hd', hgd⟩, hop⟩ := hg'; have hlook := I.looks hσ0 S hxσ ho (hdeps o ho) (.inr ⟨rest0, rfl⟩); have hwt := xL hgd hlook; have hρ := aAE hlook; unfold wpOp; rw [ho]; simp only []; rw [hwt, hx]; simp only [cV, if_true]; rw [hxo] at hop
   replace hop : aUW P o (.f f args) = true := hop
   unfold aUW at hop; split at hop
   · rename_i c f' args2 hoc heq; cases heq; rw [Bool.and_eq_true] at hop; obtain ⟨h1, h2⟩ := hop; split at h1
     · rename_i g hce; have h3 := Nat.eq_of_beq_eq_true h1; subst h3; have hta := tN hρ (λ x hx => by simp only [hoc, Op.operands, Call.operands]; simp only [Array.mem_append]; exact .inr (by simpa using hx)) h2
       cases hres; refine .inl ?_; unfold Oper.wp; rw [aGZ hoc hce (first := #[]) (captured := #[]) rfl hcl w']
       simp only [Oper.upon_enter]; have hcall := hG N0 w0 m' h' w' _ _ pv hf hg hta I.rel; have hargs : (#[] ++ c.args.map a'.eval ++ #[] : Array Value) = (c.args.toList.map a'.eval).toArray := by apply Array.ext'; simp
       rw [hargs]; refine hcall.mono λ e w'' hh => ?_
       obtain ⟨m'', v', rfl, e2, e3, e4⟩ := hh; exact hQ m'' v' a' w'' (I.ext.trans e4) e2 (λ t ht => gO e4.le _ _ (I.regs t λ y hy _ => ht y hy)) I.tm e3 I.dsr
     · cases h1
   all_goals
     first
       | (rename_i heq; cases heq; done)
       | cases hop
 · unfold left; refine Nat.le_trans List.countP_le_length ?_; simp
 · refine ⟨by simp, λ i hi => ?_, λ i o hi => ?_, λ x hx => ?_, hw.drewN, hd, hr.size, λ t _ => hr.regs t, λ x hx => ?_, λ x hx => ?_, iB.refl _ _, λ x hx => ?_⟩
   · rw [hz] at hi; cases hi
   · rw [hz] at hi; cases hi
   all_goals simp at hx
end
end
end Go.DI
namespace Go.DI
open Go.RowKit
structure CF where
 f : Nat
 n : Nat
 nc : Nat
 rt : Pa
 at_ : Pa
 c : DC
def aAQ (E : bF) (C : CF) (capt : List DV) (rv : DV) (h : H) : Option H := bif Nat.beq capt.length C.nc then
 nH E C.c (Tr.set rv C.at_ (Tr.set rv C.rt (Tr.ofL capt))) h (λ x ρ h => DX.rec (motive := λ _ => Option H) (some h) (λ _ => none) (some h) x) else none
def aTJ (o : Oper) : Bool := match o.op with
 | .call c => (match c.callee with
   | .builtin .recover => true
   | _ => false)
 | _ => false
def bBK (o : Oper) (d : Option Tmp) : Bool := match o.op, d with
 | .assign (.tmp t), some u => Nat.beq t u
 | _, _ => false
def aBK (P : Program) (C : CF) : Bool := iJ P C.f && (match P.funcs[C.f]? with
 | some fn => Nat.beq fn.ntmps C.n && Nat.ble C.nc C.n && fn.results.toList.isEmpty && (match fn.body with
   | some (.seq (.region _ ops draw) rest) => !draw && (match ops.toList with
     | [o1, o2] => aTJ o1 && mR C.n o1.dst (some C.rt) && o1.guard.isNone && bBK o2 o1.dst && mR C.n o2.dst (some C.at_) && o2.guard.isNone
     | _ => false) && eR P C.n rest C.c
   | _ => false)
 | none => false)
section
variable {P : Program} {N0 : Nat} {w0 : World} {E : bF}
theorem aBp {o : Oper} (h : aTJ o = true) (ρ : Operand -> Value) (w : World) : (execOp ρ o).run P w = .ok .recover w := by
 unfold aTJ at h; split at h
 · rename_i c hc; split at h
   · rename_i hb; unfold execOp; rw [hc]; simp only [Sem.run_bind, resolve, hb, Sem.run_pure, Result.andThen_ok, invoke, builtin]
   · cases h
 · cases h
def aWD (m : Mp) (u u' : FrameMode) (rv : DV) : Prop :=
 (u = .returning /\ u' = u /\ rv = .nili) \/ (∃ v, tr m rv = some v /\ u = .panicking [{ v := v, recovered := false }] /\ u' = .panicking [{ v := v, recovered := true }])
theorem aUS (hE : gV P E) {C : CF} (hc : aBK P C = true) {m : Mp} {capt : List DV} {capt' : List Value} {rv : DV} {h h' : H} {w : World} {u u' : FrameMode} (hrun : aAQ E C capt rv h = some h') (hcap : trs m capt = some capt') (hw : bX N0 w0 m h w)
   (hu : aWD m u u' rv) : CallsD P C.f capt'.toArray u w λ e u2 w' => ∃ m' v, e = .returned v /\ u2 = u' /\ bX N0 w0 m' h' w' /\ iB m h m' h' := by
 unfold aBK at hc; rw [Bool.and_eq_true] at hc; obtain ⟨hcl, hc⟩ := hc; cases hf : P.funcs[C.f]? with
 | none => rw [hf] at hc; cases hc
 | some fn =>
   rw [hf] at hc; simp only [Bool.and_eq_true] at hc; obtain ⟨⟨⟨hn, hnc⟩, hres⟩, hbody⟩ := hc; have hn := Nat.eq_of_beq_eq_true hn; have hnc := Nat.le_of_ble_eq_true hnc; split at hbody
   rotate_left
   · cases hbody
   rename_i id ops draw rest hb; simp only [Bool.and_eq_true, Bool.not_eq_true'] at hbody; obtain ⟨⟨rfl, hops⟩, hrest⟩ := hbody; split at hops
   rotate_left
   · cases hops
   rename_i o1 o2 hl; simp only [Bool.and_eq_true] at hops; obtain ⟨⟨⟨⟨⟨h1, h2⟩, h3⟩, h4⟩, h5⟩, h6⟩ := hops; unfold aAQ at hrun; obtain ⟨hcl2, hrun⟩ := aM hrun; have hcl2 := Nat.eq_of_beq_eq_true hcl2; refine callsD_of_wpS hf hb λ c₀ cs hmode => wpS_seq (wpS_region ?_)
   have hsz : ops.size = 2 := by rw [<- Array.length_toList, hl]; rfl
   have g0 : ops[0]? = some o1 := by rw [<- Array.getElem?_toList, hl]; rfl
   have g1 : ops[1]? = some o2 := by rw [<- Array.getElem?_toList, hl]; rfl
   have hreg := xS hcap (show capt.length <= C.n by omega) hn
   obtain ⟨rv', hrv, hrec⟩ : ∃ rv', tr m rv = some rv' /\ wpOpsS P ops (Exit.thenS (rest.wpS P (bodyPostS P fn c₀ cs λ e u2 w' => ∃ m' v, e = .returned v /\ u2 = u' /\ bX N0 w0 m' h' w' /\ iB m h m' h')) (bodyPostS P fn c₀ cs λ e u2 w' => ∃ m' v, e = .returned v /\ u2 = u' /\ bX N0 w0 m' h' w' /\ iB m h m' h')) (List.range ops.size)
       { tmps := capt'.toArray ++ Array.replicate (fn.ntmps - capt'.toArray.size) undef, defers := [] } (c₀ :: cs) w = wpOpsS P ops (Exit.thenS (rest.wpS P (bodyPostS P fn c₀ cs λ e u2 w' => ∃ m' v, e = .returned v /\ u2 = u' /\ bX N0 w0 m' h' w' /\ iB m h m' h')) (bodyPostS P fn c₀ cs λ e u2 w' => ∃ m' v, e = .returned v /\ u2 = u' /\ bX N0 w0 m' h' w' /\ iB m h m' h')) [1]
       (Act.put { tmps := capt'.toArray ++ Array.replicate (fn.ntmps - capt'.toArray.size) undef, defers := [] } o1.dst rv') ({ c₀ with mode := u' } :: cs) w := by
     have hwant : ∀ y, Region.wanted o1 y = true := λ y => by unfold Region.wanted; rw [show o1.guard = none from by simpa using h3]
     rcases hu with ⟨rfl, rfl, rfl⟩ | ⟨v, hv, rfl, rfl⟩
     · refine ⟨.nilIface, rfl, ?_⟩; rw [hsz, show List.range 2 = [0, 1] from rfl, wpOpsS, g0]
       simp only [hwant, if_true, aBp h1]; have hr0 : recoverD (c₀ :: cs) = none := by simp only [recoverD, hmode]
       simp only [hr0]; have : ({ c₀ with mode := FrameMode.returning } : Frame) = c₀ := by rw [<- hmode]
       rw [this]
     · refine ⟨v, hv, ?_⟩; rw [hsz, show List.range 2 = [0, 1] from rfl, wpOpsS, g0]
       simp only [hwant, if_true, aBp h1]; have hr0 : recoverD (c₀ :: cs) = some (v, { c₀ with mode := .panicking [{ v := v, recovered := true }] } :: cs) := by simp only [recoverD, hmode]
       simp only [hr0]
   rw [hrec]; have hreg1 := hreg.put (dst := o1.dst) (dst' := some C.rt) h2 hrv; have hwant2 : ∀ y, Region.wanted o2 y = true := λ y => by unfold Region.wanted; rw [show o2.guard = none from by simpa using h6]
   unfold bBK at h4; split at h4
   rotate_left
   · cases h4
   rename_i t u0 hop hd1; have h4 := Nat.eq_of_beq_eq_true h4; subst h4; have hev : (Act.put { tmps := capt'.toArray ++ Array.replicate (fn.ntmps - capt'.toArray.size) undef, defers := [] } o1.dst rv').eval (.tmp t) = rv' := by
     have hq : mR C.n (some t) (some C.rt) = true := by rw [<- hd1]; exact h2
     unfold mR at hq; rw [Bool.and_eq_true] at hq; have hp := gQ hq.2; have := hreg1.regs t; simp only [rB] at this; rw [pC, if_pos hp, hrv] at this; exact (Option.some.inj this).symm
   rw [wpOpsS, g1]; simp only [hwant2, if_true]; have hex : (execOp (Act.put { tmps := capt'.toArray ++ Array.replicate (fn.ntmps - capt'.toArray.size) undef, defers := [] } o1.dst rv').eval o2).run P w = .ok (.value rv') w := by
     unfold execOp; rw [hop]; simp only [hev]; rfl
   simp only [hex, Oper.upon_value, wpOpsS]; show rest.wpS P _ _ _ _; have hreg2 := hreg1.put (dst := o2.dst) (dst' := some C.at_) h5 hrv; refine wpS_of_wp (tH (ds := []) hE C.c rest hrest m _ h _ w _ _ hrun hreg2 hw ?_ λ x ρ' h1 m' a' w' x1 x2 x3 x4 x5 => ?_)
   · rw [Act.put_defers', Act.put_defers']
   · have fin : some h1 = some h' -> bodyPostS P fn c₀ cs (λ e u2 w' => ∃ m' v, e = .returned v /\ u2 = u' /\ bX N0 w0 m' h' w' /\ iB m h m' h') .normal a' ({ c₀ with mode := u' } :: cs) w' := by
       intro hh; cases hh; have hr0 : fn.results = #[] := by
         have : fn.results.toList = [] := by simpa using hres
         apply Array.ext'; simpa using this
       exact ⟨x4, u', rfl, .tuple #[], by rw [xR, hr0]; simp, m', _, rfl, rfl, x3, x1⟩
     cases x with
     | normal => exact fin x5
     | exit i => cases x5
     | ret => exact fin x5
end
structure GF where
 np : Nat
 n : Nat
 lA : List DG
 gB : DG
 clo : Pa
 pfx : List DR
 xi : Nat
 xd : Option Pa
 fs : Nat
 as : List bB
 xre : Ln
 xsy : Bool
 rest : List DR
 res : List RV
def GF.x (G : GF) : DR := ⟨G.xi, ⟨G.xd, none, .c (.f G.fs G.as)⟩, G.xre, G.xsy⟩
def GF.σ (G : GF) : List DR := G.pfx ++ G.x :: G.rest
def qN (E : bF) (G : GF) (args : List DV) (h : H) : Option (Tr DV × H) := bif Nat.beq args.length G.np then
 eS E G.lA (Tr.ofL args) h λ ρ h => dW E G.gB ρ h λ ρ h => some (ρ, h) else none
def aCa (C : CF) (v : DV) (k : List DV -> Option (DV × H)) : Option (DV × H) := match v with
 | .fn (.func g) [] cap => bif Nat.beq g C.f then k cap else none
 | _ => none
def xE (E : bF) (G : GF) (C : CF) : bU := λ args h => (qN E G args h).bind λ s => (eN E G.σ [] s.1 s.2 λ ρ h => some (ρ, h)).bind λ t =>
 aCa C (ev s.1 (.r G.clo)) λ cap => (aAQ E C cap .nili t.2).bind λ h' => (fG t.1 h' G.res).map λ vs => (iZ vs, h')
def aRO (E : bF) (St : bU) (G : GF) (C : CF) : bU := λ args h => (qN E G args h).bind λ s => (eN E G.pfx [] s.1 s.2 λ ρ h => some (ρ, h)).bind λ t =>
 (St (G.as.map (ev t.1)) t.2).bind λ r => aCa C (ev s.1 (.r G.clo)) λ cap => (aAQ E C cap r.1 r.2).bind λ h' => (fG t.1 h' G.res).map λ vs => (iZ vs, h')
def aTh (G : GF) : ResultVar -> Bool
 | .cell a _ => G.pfx.all λ y => !wG y.g.dst (some (Pa.of a))
 | _ => false
def aOg (o : Oper) (p : Pa) : Bool := match o.op with
 | .defer c => (match c.callee with
   | .value (.tmp t) => tC (Pa.of t) p && c.args.toList.isEmpty
   | _ => false)
 | _ => false
def aDL (P : Program) (f : FuncId) (G : GF) : Bool := iJ P G.fs && (match P.funcs[f]? with
 | some fn => Nat.beq fn.ntmps G.n && Nat.ble G.np G.n && oM (aEG P) fn.results.toList G.res && fn.results.toList.all (aTh G) && (match fn.body with
   | some (.seq (.region _ opsA drawA) (.seq (.region _ opsB drawB) (.seq (.region _ opsD drawD) .ret))) =>
     !drawA && !drawB && drawD && vE P G.n opsA opsA.toList G.lA && (match opsB.toList with
       | [o1, o2] => aBW P G.n opsB o1 G.gB && aOg o2 G.clo && o2.dst.isNone && o2.guard.isNone
       | _ => false) && aDN P G.n opsD G.σ && G.pfx.all (λ y => !y.isW)
   | _ => false)
 | none => false)
section
variable {P : Program} {N0 : Nat} {w0 : World} {E : bF}
theorem aID {m : Mp} {h : H} {w : World} {ρ : Tr DV} {a : Act} {n : Nat} (hw : bX N0 w0 m h w) : ∀ {xs : List ResultVar} {rs : List RV} {vs : List DV}, (∀ x ∈ xs, ∃ c t, x = .cell c t /\ tr m (ev ρ (.r (Pa.of c))) = some (a.tmps.getD c undef)) ->
   oM (aEG P) xs rs = true -> fG ρ h rs = some vs -> ∃ vs', (xs.mapM (yW a.tmps)).run P w = .ok vs' w /\ trs m vs = some vs'
 | [], [], vs, _, _, hv => by
   simp only [fG, Option.some.injEq] at hv; subst hv; exact ⟨[], rfl, rfl⟩
 | x :: xs, r :: rs, vs, hx, hc, hv => by
   simp only [oM, Bool.and_eq_true] at hc; simp only [fG] at hv; split at hv
   · rename_i v us h1 h2; cases hv; obtain ⟨us', r2, t2⟩ := aID (n := n) hw (λ x hx' => hx x (List.mem_cons_of_mem _ hx')) hc.2 h2
     obtain ⟨c, t, rfl, hreg⟩ := hx x (by simp)
     have key : ∃ v', (yW a.tmps (.cell c t)).run P w = .ok v' w /\ tr m v = some v' := by
       have hc1 := hc.1; unfold aEG at hc1; split at hc1
       · rename_i he; cases he
       · rename_i a1 t1 p1 he; cases he; rw [Bool.and_eq_true] at hc1; have := gQ hc1.1; subst this; simp only [tZ] at h1; split at h1
         · rename_i b o e1; rw [e1] at hreg; obtain ⟨i, hi, e2⟩ := gL hreg; obtain ⟨v', hc', ht⟩ := hw.rdCell hi h1; refine ⟨v', ?_, ht⟩; simp [yW, e2, asAddr, loadVar, dQ hc1.2, hc']
         · cases h1
       · rename_i a1 t1 p1 n' he; cases he; rw [Bool.and_eq_true, Bool.and_eq_true] at hc1; have := gQ hc1.1.1; subst this; simp only [tZ] at h1; split at h1
         · rename_i b o e1; rw [e1] at hreg; obtain ⟨i, hi, e2⟩ := gL hreg; cases hvs : rdCells h.get b o n' with
           | none => rw [hvs] at h1; cases h1
           | some vs =>
             rw [hvs] at h1; cases h1; obtain ⟨vs', ht, hl, hc'⟩ := hw.rdCells hi hvs; refine ⟨.agg vs'.toArray, ?_, by simp only [tr, ht]⟩
             simp [yW, e2, asAddr, loadVar, dQ hc1.1.2, cM hc1.2, fK hl hc']
         · cases h1
       · cases hc1
     obtain ⟨v', r1, t1⟩ := key; exact ⟨v' :: us', by simp only [List.mapM_cons, Sem.run_bind, r1, r2, Result.andThen_ok, Sem.run_pure], dD.2 ⟨_, _, t1, t2, rfl⟩⟩
   · cases hv
 | [], _ :: _, _, _, hc, _ => by cases hc
 | _ :: _, [], _, _, hc, _ => by cases hc
theorem aGs {m : Mp} {h : H} {w : World} {ρ : Tr DV} {a : Act} {fn : Func} {rs : List RV} {vs : List DV} (hw : bX N0 w0 m h w) (hx : ∀ x ∈ fn.results.toList, ∃ c t, x = .cell c t /\ tr m (ev ρ (.r (Pa.of c))) = some (a.tmps.getD c undef))
   (hc : oM (aEG P) fn.results.toList rs = true) (hv : fG ρ h rs = some vs) : ∃ v', (results fn a.tmps).run P w = .ok v' w /\ tr m (iZ vs) = some v' := by
 obtain ⟨vs', r1, t1⟩ := aID (n := 0) hw hx hc hv; rw [xR, Array.mapM_eq_mapM_toList]; simp only [Sem.run_bind, Sem.run_map, r1, Result.andThen_ok, Sem.run_pure]; refine ⟨_, rfl, ?_⟩; have hl := dA t1
 match vs, vs', t1 with
 | [], vs', t1 =>
   simp only [trs, Option.some.injEq] at t1; subst t1; simp [iZ, tr, trs]
 | [v], vs', t1 =>
   obtain ⟨u, us, h1, h2, rfl⟩ := dD.1 t1; simp only [trs, Option.some.injEq] at h2; subst h2
   simpa [iZ] using h1
 | v :: v2 :: vs, vs', t1 =>
   have hl := dA t1; simp only [iZ, tr, t1]; rw [dif_neg (by simp [hl])]
theorem yO {C : CF} {v : DV} {k : List DV -> Option (DV × H)} {r : DV × H} (h : aCa C v k = some r) : ∃ cap, v = .fn (.func C.f) [] cap /\ k cap = some r := by
 unfold aCa at h; split at h
 · obtain ⟨h1, h2⟩ := aM h; rw [Nat.eq_of_beq_eq_true h1]; exact ⟨_, rfl, h2⟩
 · cases h
theorem aJg (hE : gV P E) {f : FuncId} {G : GF} (hc : aDL P f G = true) {m : Mp} {h : H} {w : World} {args : List DV} {args' : List Value} {s : Tr DV × H} {R : Ending -> World -> Prop}
   (hs : qN E G args h = some s) {C : CF} {cap : List DV} (hclo : ev s.1 (.r G.clo) = .fn (.func C.f) [] cap) (hargs : trs m args = some args') (hw : bX N0 w0 m h w)
   (hD : ∀ fn id ops m' a' w' cap' d, P.funcs[f]? = some fn -> aDN P G.n ops G.σ = true -> iB m h m' s.2 -> fF m' G.n s.1 a' -> bX N0 w0 m' s.2 w' -> trs m' cap = some cap' -> d = ({ target := .fn (.func C.f) cap'.toArray, args := #[] } : Deferred) -> a'.defers = [d] ->
     oM (aEG P) fn.results.toList G.res = true -> (∀ x ∈ fn.results.toList, aTh G x = true) -> (∀ y ∈ G.pfx, y.isW = false) ->
     (Code.region id ops true).wp P (Exit.then (λ a w => Code.ret.wp P (bodyPostD P fn R) a w) (bodyPostD P fn R)) a' w') :
   Calls P f args'.toArray w R := by
 unfold aDL at hc; rw [Bool.and_eq_true] at hc; obtain ⟨hcal, hc⟩ := hc; cases hf : P.funcs[f]? with
 | none => rw [hf] at hc; cases hc
 | some fn =>
   rw [hf] at hc; simp only [Bool.and_eq_true] at hc; obtain ⟨⟨⟨⟨hn, hnp⟩, hres⟩, hrok⟩, hbody⟩ := hc; have hn := Nat.eq_of_beq_eq_true hn; have hnp := Nat.le_of_ble_eq_true hnp; split at hbody
   rotate_left
   · cases hbody
   rename_i ia opsA drawA ib opsB drawB id opsD drawD hb; simp only [Bool.and_eq_true, Bool.not_eq_true'] at hbody; obtain ⟨⟨⟨⟨⟨⟨rfl, rfl⟩, rfl⟩, hA⟩, hB⟩, hDr⟩, hpfx⟩ := hbody; split at hB
   rotate_left
   · cases hB
   rename_i o1 o2 hl; simp only [Bool.and_eq_true] at hB; obtain ⟨⟨⟨hg, hdf⟩, hd0⟩, hgd⟩ := hB; have hd0 : o2.dst = none := by simpa using hd0
   have hgd : o2.guard = none := by simpa using hgd
   unfold qN at hs; obtain ⟨hlen, hs⟩ := aM hs; have hlen := Nat.eq_of_beq_eq_true hlen; refine calls_of_wp_defers hf hb (wp_seq ?_); have hcA : eR P G.n (.region ia opsA false) (.reg G.lA) = true := by simp only [eR, hA]; rfl
   refine tH (ds := []) (R := Tr DV × H) hE (.reg G.lA) _ hcA m _ h _ w (λ x ρ h => DX.rec (motive := λ _ => Option (Tr DV × H)) (dW E G.gB ρ h λ ρ h => some (ρ, h)) (λ _ => none) none x) _ hs (xS hargs (by omega) hn) hw rfl λ x ρ1 h1 m1 a1 w1 x1 x2 x3 x4 x5 => ?_
   cases x with
   | exit i => cases x5
   | ret => cases x5
   | normal =>
     refine wp_seq (wp_region ?_); have hsz : opsB.size = 2 := by rw [<- Array.length_toList, hl]; rfl
     have g0 : opsB[0]? = some o1 := by rw [<- Array.getElem?_toList, hl]; rfl
     have g1 : opsB[1]? = some o2 := by rw [<- Array.getElem?_toList, hl]; rfl
     rw [hsz, show List.range 2 = List.range' 0 [o1].length ++ [1] from rfl]
     refine aCw hE [1] [o1] [G.gB] 0 (λ j hj => by
       have : j = 0 := by simp only [List.length_cons, List.length_nil] at hj; omega
       subst this; exact g0.symm) (by simp only [vE, hg, Bool.and_self]) m1 ρ1 h1 a1 w1 (λ ρ h => some (ρ, h)) x5 x2 x3 x4 λ ρ2 h2 m2 a2 w2 y1 y2 y3 y4 y5 => ?_
     cases y5; simp only [wpOps, g1]; have hwant : Region.wanted o2 (yielded opsB a2.tmps) = true := by unfold Region.wanted; rw [hgd]
     rw [hwant]; simp only [if_true]; refine .inl ?_; unfold aOg at hdf; split at hdf
     rotate_left
     · cases hdf
     rename_i c hop; split at hdf
     rotate_left
     · cases hdf
     rename_i t hce; rw [Bool.and_eq_true] at hdf; have hp := gQ hdf.1; have hca : c.args = #[] := by
       have : c.args.toList = [] := by simpa using hdf.2
       apply Array.ext'; simpa using this
     have hreg := y2.regs t; rw [hp, hclo] at hreg; simp only [tr, trs] at hreg; cases hcp : trs m2 cap with
     | none => rw [hcp] at hreg; cases hreg
     | some cap' =>
       rw [hcp] at hreg; have hev : a2.eval (.tmp t) = .func (.func C.f) #[] cap'.toArray := (Option.some.inj hreg).symm; have hex : (execOp a2.eval o2).run P w2 = .ok (.defer { target := .fn (.func C.f) cap'.toArray, args := #[] }) w2 := by
         unfold execOp; rw [hop]; simp only [Sem.run_bind, resolve, hce, hca, hev, Sem.run_pure]; rw [show (#[] : Array Operand).map a2.eval = #[] from by simp, rC]
         simp only [Result.andThen_ok, Sem.run_pure]
         congr 3
       unfold Oper.wp; rw [hex, Oper.upon_defer, hd0]; refine wp_seq (hD fn id opsD m2 _ w2 cap' _ hf hDr (x1.trans y1) ⟨y2.size, y2.regs⟩ y3 hcp rfl ?_ hres (List.all_eq_true.1 hrok) λ y hy => ?_)
       · show _ :: a2.defers = _; rw [y4]
       · have := List.all_eq_true.1 hpfx y hy; simpa using this
theorem aDJ {C : CF} (hC : aBK P C = true) (cap' : Array Value) (w : World) : (invoke (.fn (.func C.f) cap') #[]).run P w = .ok (.enter C.f cap') w := by
 unfold aBK at hC; rw [Bool.and_eq_true] at hC; simp only [invoke, sH hC.1]
 congr 2
 apply Array.ext'; simp
theorem aBD (hE : gV P E) {f : FuncId} {G : GF} {C : CF} (hc : aDL P f G = true) (hC : aBK P C = true) : gN P f (xE E G C) := by
 intro N0 w0 m h w args args' v h' hrun hargs hw; unfold xE at hrun; cases hs : qN E G args h with
 | none => rw [hs] at hrun; cases hrun
 | some s =>
   rw [hs] at hrun; simp only [Option.bind_some] at hrun; cases ht : eN E G.σ [] s.1 s.2 (λ ρ h => some (ρ, h)) with
   | none => rw [ht] at hrun; cases hrun
   | some t =>
     rw [ht] at hrun; simp only [Option.bind_some] at hrun; obtain ⟨cap, hclo, hrun⟩ := yO hrun; cases hcr : aAQ E C cap .nili t.2 with
     | none => rw [hcr] at hrun; cases hrun
     | some h4 =>
       rw [hcr] at hrun; simp only [Option.bind_some] at hrun; cases hvs : fG t.1 h4 G.res with
       | none => rw [hvs] at hrun; cases hrun
       | some vs =>
         rw [hvs] at hrun; simp only [Option.map_some, Option.some.injEq, Prod.mk.injEq] at hrun; obtain ⟨rfl, rfl⟩ := hrun; refine aJg hE hc hs hclo hargs hw λ fn id ops m1 a1 w1 cap' d hf hDr x1 x2 x3 hcap hd hds hres hrok hpfx => ?_
         refine zU hE hDr ht x2 x3 hds λ ρ2 h2 m2 a2 w2 y1 y2 y3 y4 y5 => ?_
         cases y5; refine wp_ret ?_; show Leaves P fn a2.tmps _ a2.defers .returning w2; rw [y4, hd]; refine leaves_cons (by simp) (aDJ hC _ w2) ((aUS hE hC hcr (lM y1.le _ _ hcap) y3 (.inl ⟨rfl, rfl, rfl⟩)).mono λ e u' w3 hh => ?_)
         obtain ⟨m3, v, rfl, rfl, z1, z2⟩ := hh; obtain ⟨v', r1, r2⟩ := aBq (P := P) (y2.mono z2.le) z1 hres hvs; exact ⟨v', r1, m3, v', rfl, r2, z1, (x1.trans y1).trans z2⟩
theorem aDi (hE : gV P E) {f : FuncId} {G : GF} {C : CF} {St : bU} (hSt : aHe P G.fs St) (hc : aDL P f G = true) (hC : aBK P C = true) : gN P f (aRO E St G C) := by
 intro N0 w0 m h w args args' v h' hrun hargs hw; unfold aRO at hrun; cases hs : qN E G args h with
 | none => rw [hs] at hrun; cases hrun
 | some s =>
   rw [hs] at hrun; simp only [Option.bind_some] at hrun; cases ht : eN E G.pfx [] s.1 s.2 (λ ρ h => some (ρ, h)) with
   | none => rw [ht] at hrun; cases hrun
   | some t =>
     rw [ht] at hrun; simp only [Option.bind_some] at hrun; cases hst : St (G.as.map (ev t.1)) t.2 with
     | none => rw [hst] at hrun; cases hrun
     | some r =>
       obtain ⟨pv, h3⟩ := r; rw [hst] at hrun; simp only [Option.bind_some] at hrun; obtain ⟨cap, hclo, hrun⟩ := yO hrun; cases hcr : aAQ E C cap pv h3 with
       | none => rw [hcr] at hrun; cases hrun
       | some h4 =>
         rw [hcr] at hrun; simp only [Option.bind_some] at hrun; cases hvs : fG t.1 h4 G.res with
         | none => rw [hvs] at hrun; cases hrun
         | some vs =>
           rw [hvs] at hrun; simp only [Option.map_some, Option.some.injEq, Prod.mk.injEq] at hrun; obtain ⟨rfl, rfl⟩ := hrun; have hcal : iJ P G.fs = true := by
             unfold aDL at hc; rw [Bool.and_eq_true] at hc; exact hc.1
           refine aJg hE hc hs hclo hargs hw λ fn id ops m1 a1 w1 cap' d hf hDr x1 x2 x3 hcap hd hds hres hrok hpfx => ?_
           refine aLv (E := E) (x := G.x) hSt hcal hDr rfl hpfx rfl rfl ht hst x2 x3 hds λ m2 pv' a2 w2 y1 y2 y3 y4 y5 y6 => ?_
           show Leaves P fn a2.tmps _ a2.defers (.panicking [{ v := pv', recovered := false }]) w2; rw [y6, hd]; refine leaves_cons (by simp) (aDJ hC _ w2) ((aUS hE hC hcr (lM y1.le _ _ hcap) y5 (.inr ⟨pv', y2, rfl, rfl⟩)).mono λ e u' w3 hh => ?_)
           obtain ⟨m3, v, rfl, rfl, z1, z2⟩ := hh; obtain ⟨v', r1, r2⟩ := aGs (P := P) (a := a2) z1 (λ x hx => by
             have := hrok x hx; unfold aTh at this; split at this
             · rename_i c ty; refine ⟨c, ty, rfl, gO z2.le _ _ (y3 c λ y hy hyd => ?_)⟩
               have h1 := List.all_eq_true.1 this y hy; rw [hyd] at h1; unfold wG at h1; simp only [rG] at h1; cases h1
             · cases this) hres hvs
           show ∃ v, _ /\ _; exact ⟨v', r1, m3, v', rfl, r2, z1, (x1.trans y1).trans z2⟩
end
end Go.DI
namespace Go.DI
open Go.RowKit
def xK : Ln -> Ln -> Ln
 | [], b => b
 | a, [] => a
 | x :: a, y :: b => (x ^^^ y) :: xK a b
theorem yM (a : Ln) : xK a [] = a := by cases a <;> rfl
theorem aAo (b : Ln) : xK [] b = b := by cases b <;> rfl
theorem qW (x y : Nat) (a b : Ln) : xK (x :: a) (y :: b) = (x ^^^ y) :: xK a b := rfl
theorem uE : ∀ a b : Ln, (xK a b).length = max a.length b.length
 | [], b => by rw [aAo]; simp
 | x :: a, [] => by rw [yM]; simp
 | x :: a, y :: b => by rw [qW, List.length_cons, uE a b]; simp only [List.length_cons]; omega
theorem aIg {x y : Nat} (hx : x < 256) (hy : y < 256) : x ^^^ y < 256 := Nat.xor_lt_two_pow (n := 8) hx hy
theorem aGd : ∀ {a b : Ln}, aW a = true -> aW b = true -> aW (xK a b) = true
 | [], b, _, hb => by rw [aAo]; exact hb
 | x :: a, [], ha, _ => by rw [yM]; exact ha
 | x :: a, y :: b, ha, hb => by
   simp only [aW, Bool.and_eq_true, Nat.blt_eq] at ha hb; rw [qW]; simp only [aW, Bool.and_eq_true, Nat.blt_eq]; exact ⟨aIg ha.1 hb.1, aGd ha.2 hb.2⟩
theorem jA (n : Nat) : aW (List.replicate n 0) = true := by
 rw [gZ]; intro b hb; have := List.eq_of_mem_replicate hb; omega
structure rT (b : Nat) (h h' : H) : Prop where
 size : h'.size = h.size
 get : ∀ c, c ≠ b -> h'.get c = h.get c
theorem rT.refl (b : Nat) (h : H) : rT b h h := ⟨rfl, λ _ _ => rfl⟩
theorem rT.trans {b : Nat} {x y z : H} (h : rT b x y) (k : rT b y z) : rT b x z := ⟨k.size.trans h.size, λ c hc => (k.get c hc).trans (h.get c hc)⟩
theorem rT.grown {h0 h h' : H} (g : bM h0 h) {b : Nat} (hb : h0.size <= b) (k : rT b h h') : bM h0 h' :=
 ⟨by rw [k.size]; exact g.size, λ i hi => (k.get i (by omega)).trans (g.get i hi)⟩
theorem wrap_u8 {n : Nat} (h : n < 256) : IntKind.u8.wrap (.ofNat n) = .ofNat n := by
 rw [IntKind.wrap_u8]; simp only [Int.ofNat_eq_natCast]; omega
theorem aLf {x y : Nat} (hx : x < 256) (hy : y < 256) : pT (iK x) (iK y) = some (iK (x ^^^ y)) := by
 unfold iK; rw [lH .u8 x y hx hy, wrap_u8 (aIg hx hy)]
theorem aI (k k' : IntKind) (a b : Nat) : yP (.int k (.ofNat a)) (.int k' (.ofNat b)) = some (.int k (.ofNat (max a b))) := by
 simp only [yP, mM]
 congr 2
 by_cases h : a < b
 · rw [show decide (Int.ofNat a < Int.ofNat b) = true from by simp only [Int.ofNat_eq_natCast, decide_eq_true_iff]; omega]
   show Int.ofNat b = _; congr 1; omega
 · rw [show decide (Int.ofNat a < Int.ofNat b) = false from by simp only [Int.ofNat_eq_natCast, decide_eq_false_iff_not]; omega]
   show Int.ofNat a = _; congr 1; omega
theorem aG {b n c j : Nat} {op : Bool} (hj : j < n) (k : IntKind) : cW 1 (.slc b 0 n c op) (.int k (.ofNat j)) = some (.ptr b j) := by
 simp only [cW, nU, aR]; rw [dP hj]; simp
theorem aTE (a b : Nat) : decide (Int.ofNat a < Int.ofNat b) = decide (a < b) := by
 rw [decide_eq_decide]; simp only [Int.ofNat_eq_natCast]; omega
theorem lI {i : Nat} (h : i + 1 < 9223372036854775808) : cG (.int .i64 (.ofNat i)) (.int .i64 (.ofNat 1)) = some (.int .i64 (.ofNat (i + 1))) := by
 rw [qZ, show Int.ofNat i + Int.ofNat 1 = Int.ofNat (i + 1) from rfl, wrap_i64 h]
theorem uG {s : Ln} {j : Nat} (h : j <= s.length) (k : IntKind) : iP (.str s) none (some (.int k (.ofNat j))) = some (.str (s.take j)) := by
 simp only [iP, dG, dHi, dLo]; rw [Nat.ble_eq_true_of_le h, cond_true, Nat.ble_eq_true_of_le (Nat.zero_le _), cond_true, fY]; rfl
theorem xM {s : Ln} {j : Nat} (h : j <= s.length) (k : IntKind) : iP (.str s) (some (.int k (.ofNat j))) none = some (.str (s.drop j)) := by
 simp only [iP, dG, dHi, dLo]; rw [Nat.ble_eq_true_of_le (Nat.le_refl _), cond_true, Nat.ble_eq_true_of_le h, cond_true, fY, List.take_length]
theorem kI (k : IntKind) (a b : Nat) : cU (.int k (.ofNat a)) (.int k (.ofNat b)) = some (.bool (decide (a = b))) := by
 rw [mH]; congr 2; rw [Bool.eq_iff_iff, beq_iff_eq, decide_eq_true_iff]; simp only [Int.ofNat_eq_natCast]; omega
end Go.DI
namespace Go.DI
open Go.RowKit
theorem bEd {a b : Nat} (h : a ≠ b) : Nat.beq a b = false := by
 cases hb : Nat.beq a b
 · rfl
 · exact absurd (Nat.eq_of_beq_eq_true hb) h
theorem qL {a b : Nat} (h : ¬ a <= b) : Nat.ble a b = false := by
 cases hb : Nat.ble a b
 · rfl
 · exact absurd (Nat.le_of_ble_eq_true hb) h
def bZ (h : H) (b : Nat) (L : List DV) : Prop := b < h.size /\ ∃ pl t, h.get b = some (.blk ⟨L.length, 1, false, pl, t⟩) /\ ∀ j x, L[j]? = some x -> t.at_ j = some x
section
variable {h h' : H} {b : Nat} {L : List DV}
theorem bZ.rd (hb : bZ h b L) {j : Nat} {x : DV} (hj : L[j]? = some x) : rdCell h.get b j = some x := by
 obtain ⟨hlt, pl, t, h1, h2⟩ := hb; have hjl : j < L.length := by
   rcases Nat.lt_or_ge j L.length with h3 | h3
   · exact h3
   · rw [List.getElem?_eq_none h3] at hj; cases hj
 rw [sY h1 hjl]; exact h2 j x hj
theorem bZ.read (hb : bZ h b L) {j : Nat} {x : DV} (hj : L[j]? = some x) : aO h.get (.ptr b j) = some x := by
 simp only [aO, cH]; exact hb.rd hj
theorem bZ.cells (hb : bZ h b L) {o k : Nat} (hk : o + k <= L.length) : rdCells h.get b o k = some ((L.drop o).take k) := by
 have hl : ((L.drop o).take k).length = k := by simp; omega
 have := mI (rd := h.get) (b := b) ((L.drop o).take k) o λ i v hi => hb.rd (by
   rw [List.getElem?_take] at hi; split at hi
   · rw [List.getElem?_drop] at hi; exact hi
   · cases hi)
 rw [hl] at this; exact this
theorem bZ.cells_all (hb : bZ h b L) : rdCells h.get b 0 L.length = some L := by
 have := hb.cells (o := 0) (k := L.length) (by omega)
 simpa using this
theorem bZ.but (hb : bZ h b L) {c : Nat} (hc : b ≠ c) (k : rT c h h') : bZ h' b L := by
 obtain ⟨hlt, pl, t, h1, h2⟩ := hb; exact ⟨by rw [k.size]; exact hlt, pl, t, by rw [k.get b hc]; exact h1, h2⟩
theorem bZ.store (hb : bZ h b L) {vs : List DV} {o : Nat} (hv : vs.all DV.one = true) (ho : o + vs.length <= L.length) :
   ∃ h', fO vs h b o = some h' /\ bZ h' b (L.take o ++ vs ++ L.drop (o + vs.length)) /\ rT b h h' := by
 obtain ⟨hlt, pl, t, h1, h2⟩ := hb; obtain ⟨h', t', f1, f2, f3, f4, f5⟩ := qF (h := h) (b := b) (o := o) (vs := vs) h1 rfl ho hv; have hlen : (L.take o ++ vs ++ L.drop (o + vs.length)).length = L.length := by simp; omega
 refine ⟨h', f1, ⟨by rw [f2]; exact hlt, pl, t', by rw [f4, hlen], λ j x hj => ?_⟩, ⟨f2, f3⟩⟩
 rw [f5]; have ht : (L.take o).length = o := by simp; omega
 by_cases hjo : o <= j /\ j < o + vs.length
 · rw [if_pos hjo]; rw [List.append_assoc, List.getElem?_append_right (by omega), ht, List.getElem?_append_left (by omega)] at hj
   exact hj
 · rw [if_neg hjo]; apply h2; rcases Nat.lt_or_ge j o with hlt | hge
   · rw [List.append_assoc, List.getElem?_append_left (by omega), List.getElem?_take, if_pos hlt] at hj
     exact hj
   · have hge2 : o + vs.length <= j := by
       rcases Nat.lt_or_ge j (o + vs.length) with h3 | h3
       · exact absurd ⟨hge, h3⟩ hjo
       · exact h3
     rw [List.getElem?_append_right (by simp only [List.length_append, ht]; omega), List.length_append, ht, List.getElem?_drop] at hj
     rw [show j = o + vs.length + (j - (o + vs.length)) from by omega]; exact hj
theorem bZ.set (hb : bZ h b L) {j : Nat} {v : DV} (hv : v.one = true) (hj : j < L.length) :
   ∃ h', eU 1 (.ptr b j) v h = some (.tup [], h') /\ bZ h' b (L.set j v) /\ rT b h h' := by
 obtain ⟨h', f1, f2, f3⟩ := hb.store (vs := [v]) (o := j) (by simp [hv]) (by simp; omega)
 refine ⟨h', ?_, ?_, f3⟩
 · rw [nA]; have hc : v.cells = [v] := by cases v <;> first | rfl | cases hv
   simp only [dSt, hc, List.length_singleton, Nat.beq_refl, cond_true, f1, Option.map_some]
 · have : L.take j ++ [v] ++ L.drop (j + [v].length) = L.set j v := by
     rw [List.set_eq_take_append_cons_drop, if_pos hj]; simp
   rw [<- this]; exact f2
theorem bZ.text {s : Ln} (hb : bZ h b (aY s)) (hok : aW s = true) (c : Nat) (op : Bool) : iQ h.get (.slc b 0 s.length c op) = some (.str s) := by
 have hr := hb.cells_all; have hlen : (aY s).length = s.length := by simp [aY]
 rw [hlen] at hr; simp only [iQ, bW, hr, Option.bind_some, nI hok, fY]
end
theorem bZ.pushed {h : H} {L : List DV} {pl : Bool} : bZ (h.push (.blk ⟨L.length, 1, false, pl, Tr.ofL L⟩)) h.size L :=
 ⟨by rw [H.size_push]; omega, pl, _, by rw [H.get_push, if_pos rfl], λ j x hj => by rw [Tr.at_ofL]; exact hj⟩
theorem bZ.push {h : H} {b : Nat} {L : List DV} (hb : bZ h b L) (o : fN) : bZ (h.push o) b L := by
 obtain ⟨hlt, pl, t, h1, h2⟩ := hb; exact ⟨by rw [H.size_push]; omega, pl, t, by rw [H.get_push, if_neg (by omega)]; exact h1, h2⟩
theorem bZ.made {h : H} {z : DV} {n : Nat} (hn : n < 140737488355328) : bZ (h.push (.blk ⟨n, 1, false, true, Tr.full z 48⟩)) h.size (List.replicate n z) := by
 refine ⟨by rw [H.size_push]; omega, true, _, by rw [H.get_push, if_pos rfl, List.length_replicate], λ j x hj => ?_⟩
 have hlt : j < n := by
   rcases Nat.lt_or_ge j n with h3 | h3
   · exact h3
   · rw [List.getElem?_eq_none (by simpa using h3)] at hj; cases hj
 have hx : x = z := by
   rw [List.getElem?_replicate, if_pos hlt] at hj; exact (Option.some.inj hj).symm
 subst hx; exact Tr.at_full _ (by omega)
structure dJ (n0 : Nat) (h h' : H) : Prop where
 size : h.size <= h'.size
 get : ∀ c, c < n0 -> h'.get c = h.get c
theorem dJ.refl (n0 : Nat) (h : H) : dJ n0 h h := ⟨Nat.le_refl _, λ _ _ => rfl⟩
theorem dJ.trans {n0 : Nat} {x y z : H} (a : dJ n0 x y) (c : dJ n0 y z) : dJ n0 x z := ⟨Nat.le_trans a.size c.size, λ i hi => (c.get i hi).trans (a.get i hi)⟩
theorem dJ.grown {h h' : H} (a : dJ h.size h h') : bM h h' := ⟨a.size, a.get⟩
theorem rT.keeps {n0 b : Nat} {h h' : H} (k : rT b h h') (hb : n0 <= b) : dJ n0 h h' := ⟨by rw [k.size]; exact Nat.le_refl _, λ c hc => k.get c (by omega)⟩
theorem dJ.push {n0 : Nat} {h : H} (hn : n0 <= h.size) (o : fN) : dJ n0 h (h.push o) := ⟨by rw [H.size_push]; omega, λ c hc => by rw [H.get_push, if_neg (by omega)]⟩
def cI (n0 : Nat) (h : H) (v : DV) (L : List DV) : Prop := (v = .nils /\ L = []) \/ ∃ b, n0 <= b /\ v = .slc b 0 L.length L.length true /\ bZ h b L
theorem cI.nil (n0 : Nat) (h : H) : cI n0 h .nils [] := .inl ⟨rfl, rfl⟩
theorem cI.len {n0 : Nat} {h : H} {v : DV} {L : List DV} (o : cI n0 h v L) : bH v = some (.int .i64 (.ofNat L.length)) := by
 rcases o with ⟨rfl, rfl⟩ | ⟨b, _, rfl, _⟩ <;> rfl
theorem cI.append {n0 : Nat} {h : H} {v x : DV} {L new : List DV} {bytes : Nat} (o : cI n0 h v L) (hn0 : n0 <= h.size) (hl : fE x = some new.length) (hc : dV 1 h.get x = some new) (h1 : new.all DV.one = true) (hne : new ≠ [])
   (hs : (L.length + new.length) * bytes < bP) (hs2 : L.length + new.length < bP) : ∃ v' h', cT 1 bytes v x h = some (v', h') /\ cI n0 h' v' (L ++ new) /\ dJ n0 h h' := by
 have hpos : 0 < new.length := List.length_pos_iff.2 hne; rcases o with ⟨rfl, rfl⟩ | ⟨b, hb0, rfl, hb⟩
 · refine ⟨.slc h.size 0 new.length new.length true, h.push (.blk ⟨new.length, 1, false, true, Tr.ofL new⟩), ?_, .inr ⟨h.size, hn0, ?_, ?_⟩, dJ.push hn0 _⟩
   · rw [iI]; simp only [gS, hl, hc, Option.bind_some]; simp only [List.length_nil, Nat.zero_add] at hs hs2; rw [bEd (show new.length ≠ 0 by omega), dP hs, dP hs2]
     simp only [cond_false, Bool.and_self, cond_true, H.pushK_eq, Nat.mul_one]
   · simp
   · simpa using bZ.pushed
 · obtain ⟨hlt, pl, t, g1, g2⟩ := hb; refine ⟨.slc h.size 0 (L.length + new.length) (L.length + new.length) true, (h.push (.blk ⟨(L.length + new.length) * 1, 1, false, false, Tr.ofF new (L.length * 1) t⟩)).put b .dead, ?_, .inr ⟨h.size, hn0, ?_, ?_⟩, ?_⟩
   · rw [iI]; simp only [gS, hl, hc, Option.bind_some, aR]; rw [qL (show ¬ L.length + new.length <= L.length by omega), dP hs, dP hs2]
     simp only [cond_false, Bool.and_self, cond_true, g1, h1, Nat.zero_add, Nat.mul_one, Nat.beq_refl, Bool.not_false, Nat.ble_eq_true_of_le (Nat.le_refl _), zL, Option.bind_some, H.pushK_eq, H.putK_eq]
   · simp
   · refine ⟨by rw [H.size_put, H.size_push]; omega, false, Tr.ofF new (L.length * 1) t, ?_, λ j x hj => ?_⟩
     · rw [H.get_put, if_neg (by omega), H.get_push, if_pos rfl, List.length_append, Nat.mul_one]
     · rw [Tr.at_ofF, Nat.mul_one]; rcases Nat.lt_or_ge j L.length with hj1 | hj1
       · rw [if_neg (by omega)]
         rw [List.getElem?_append_left hj1] at hj; exact g2 j x hj
       · rw [List.getElem?_append_right hj1] at hj; have : j - L.length < new.length := by
           rcases Nat.lt_or_ge (j - L.length) new.length with h3 | h3
           · exact h3
           · rw [List.getElem?_eq_none h3] at hj; cases hj
         rw [if_pos ⟨hj1, by omega⟩]; exact hj
   · refine ⟨by rw [H.size_put, H.size_push]; omega, λ c hc' => ?_⟩
     rw [H.get_put, if_neg (by omega), H.get_push, if_neg (by omega)]
theorem cI.push1 {n0 : Nat} {h : H} {v x z : DV} {L : List DV} {bytes : Nat} (o : cI n0 h v L) (hn0 : n0 <= h.size) (h1 : x.one = true)
   (hs : (L.length + 1) * bytes < bP) (hs2 : L.length + 1 < bP) : ∃ v' h', (∀ (R : Type) (k : DV -> H -> Option R), (eX 1 1 [z] [(0, 1, x)] h λ y h' => wK (cT 1 bytes v y h') k) = k v' h') /\ cI n0 h' v' (L ++ [x]) /\ dJ n0 h h' := by
 let h1' := h.push (.blk ⟨1 * 1, 1, false, true, Tr.ofL [x]⟩)
 have hp : bZ h1' h.size [x] := bZ.pushed (h := h) (L := [x]) (pl := true); have o' : cI n0 h1' v L := by
   rcases o with ⟨rfl, rfl⟩ | ⟨b, hb0, rfl, hb⟩
   · exact .inl ⟨rfl, rfl⟩
   · exact .inr ⟨b, hb0, rfl, hb.push _⟩
 obtain ⟨v', h', f1, f2, f3⟩ := o'.append (x := .slc h.size 0 1 1 false) (new := [x]) (bytes := bytes) (by show n0 <= (h.push _).size; rw [H.size_push]; omega) rfl
   (by simpa [dV] using hp.cells_all) (by simp [h1]) (by simp) hs hs2
 refine ⟨v', h', λ R k => ?_, f2, (dJ.push hn0 _).trans f3⟩
 have hf : fZ (iW [z] 1) [(0, 1, x)] = some [x] := by
   have hc : x.cells = [x] := by cases x <;> first | rfl | cases h1
   simp [fZ, iW, hc, pY]; rfl
 simp only [eX, hf, Option.bind_some, H.pushK_eq]; show wK (cT 1 bytes v (.slc h.size 0 1 1 false) h1') k = _; rw [f1]; rfl
theorem cI.lt {n0 : Nat} {h : H} {v : DV} {L : List DV} (o : cI n0 h v L) (hL : L ≠ []) : ∃ b, n0 <= b /\ v = .slc b 0 L.length L.length true /\ bZ h b L := by
 rcases o with ⟨rfl, rfl⟩ | o
 · exact absurd rfl hL
 · exact o
theorem cI.load1 {n0 : Nat} {h : H} {v x : DV} {L : List DV} {j : Nat} (o : cI n0 h v L) (hj : L[j]? = some x) (k : IntKind) :
   ∃ b, cW 1 v (.int k (.ofNat j)) = some (.ptr b j) /\ aO h.get (.ptr b j) = some x := by
 have hlt : j < L.length := by
   rcases Nat.lt_or_ge j L.length with h3 | h3
   · exact h3
   · rw [List.getElem?_eq_none h3] at hj; cases hj
 obtain ⟨b, hb0, rfl, hb⟩ := o.lt (by intro e; subst e; simp at hlt)
 exact ⟨b, aG hlt k, hb.read hj⟩
theorem cI.text {n0 : Nat} {h : H} {v : DV} {s : Ln} (o : cI n0 h v (aY s)) (hok : aW s = true) : iQ h.get v = some (.str s) := by
 have hl : (aY s).length = s.length := by simp [aY]
 rcases o with ⟨rfl, e⟩ | ⟨b, _, rfl, hb⟩
 · have : s = [] := by
     cases s with
     | nil => rfl
     | cons _ _ => cases e
   subst this; rfl
 · rw [hl]; exact hb.text hok _ _
def jW (s : Ln) (n : Nat) : Ln := s ++ List.replicate (n - s.length) 0
theorem zI {s : Ln} {n : Nat} (h : s.length <= n) : (jW s n).length = n := by unfold jW; simp; omega
theorem aIQ {s : Ln} (h : aW s = true) (n : Nat) : aW (jW s n) = true := eT h (jA _)
theorem tD {s : Ln} (h : aW s = true) (n : Nat) : aW (s.take n) = true := by
 rw [gZ] at h ⊢; intro b hb; exact h b (List.mem_of_mem_take hb)
theorem aLy {s : Ln} (h : aW s = true) (n : Nat) : aW (s.drop n) = true := by
 rw [gZ] at h ⊢; intro b hb; exact h b (List.mem_of_mem_drop hb)
theorem jM (s t : Ln) : aY (s ++ t) = aY s ++ aY t := by simp [aY]
theorem vG (s : Ln) (n : Nat) : aY (s.take n) = (aY s).take n := by simp [aY, List.map_take]
theorem aKb (s : Ln) (n : Nat) : aY (s.drop n) = (aY s).drop n := by simp [aY, List.map_drop]
theorem cF (s : Ln) : (aY s).length = s.length := by simp [aY]
theorem aMj (s : Ln) (j x : Nat) : aY (s.set j x) = (aY s).set j (iK x) := by simp [aY, List.map_set]
theorem fS (k : IntKind) (a b : Nat) : dS (.int k (.ofNat a)) (.int k (.ofNat b)) = some (.bool (decide (b < a))) := by rw [aAu, aTE]
theorem cP (k : IntKind) (a b : Nat) : bV (.int k (.ofNat a)) (.int k (.ofNat b)) = some (.bool (decide (a < b))) := by rw [iS, aTE]
theorem aE {a b : Nat} (h : b <= a) (ha : a < 9223372036854775808) : iX (.int .i64 (.ofNat a)) (.int .i64 (.ofNat b)) = some (.int .i64 (.ofNat (a - b))) := by
 rw [aAq, show Int.ofNat a - Int.ofNat b = Int.ofNat (a - b) from by simp only [Int.ofNat_eq_natCast]; omega, wrap_i64 (by omega)]
theorem aD {a b : Nat} (h : a + b < 9223372036854775808) : cG (.int .i64 (.ofNat a)) (.int .i64 (.ofNat b)) = some (.int .i64 (.ofNat (a + b))) := by
 rw [qZ, show Int.ofNat a + Int.ofNat b = Int.ofNat (a + b) from rfl, wrap_i64 h]
theorem oP (k : IntKind) {a : Int} (h : a < 0) : bV (.int k a) (.int k (.ofNat 0)) = some (.bool true) := by
 rw [iS]; simp [h]
def tU : bU := λ args h => match args with
 | [] => some (.bool true, h)
 | _ => none
theorem bX.goodW {N0 : Nat} {w0 : World} {m : Mp} {h : H} {w : World} (hw : bX N0 w0 m h w) : aXN w := λ x hx => by
 obtain ⟨g1, g2⟩ := hw.good x hx; have := hw.below.block x.1 g1; simp only [World.cell?] at g2 ⊢; rw [this]; exact g2
theorem aLh {P : Program} {B : bF} {T : Tr (bF -> bU)} {f : FuncId} {s : bF -> bU} (hB : gV P B) (hT : aKn P T) (hf : T.at_ f = some s) {n : Nat} (hrun : (s (SE B T n) [] H0).map (·.1) = some (.bool true)) : gN P f tU := by
 intro N0 w0 m h w args args' v h' hr ht hw; unfold tU at hr; split at hr
 · cases hr; simp only [trs, Option.some.injEq] at ht; subst ht; exact (calls_true2 hB hT hf (args := []) (args' := []) rfl hrun w hw.goodW).mono λ e w' hh => ⟨m, .bool true, hh.1, rfl, hw.after hh.2, iB.refl _ _⟩
 · cases hr
def iT (l : List (Ln)) : List DV := l.map DV.str
theorem oG (a b : List (Ln)) : iT (a ++ b) = iT a ++ iT b := by simp [iT]
theorem dU (l : List (Ln)) : (iT l).length = l.length := by simp [iT]
theorem aEQ {l : List (Ln)} {j : Nat} {s : Ln} (h : l[j]? = some s) : (iT l)[j]? = some (.str s) := by simp [iT, h]
theorem cI.keep {n0 n1 : Nat} {h h' : H} {v : DV} {L : List DV} (o : cI n0 h v L) (k : dJ n1 h h') (hn : h.size <= n1) : cI n0 h' v L := by
 rcases o with o | ⟨b, hb, e, hlt, pl, t, g1, g2⟩
 · exact .inl o
 · exact .inr ⟨b, hb, e, Nat.lt_of_lt_of_le hlt k.size, pl, t, by rw [k.get b (by omega)]; exact g1, g2⟩
theorem cI.mono {n0 n1 : Nat} {h : H} {v : DV} {L : List DV} (o : cI n0 h v L) (hn : n1 <= n0) : cI n1 h v L := by
 rcases o with o | ⟨b, hb, e⟩
 · exact .inl o
 · exact .inr ⟨b, by omega, e⟩
theorem vV {s t : Ln} (h : s.length + t.length < oH) : cG (.str s) (.str t) = some (.str (s ++ t)) := by
 show (bif Nat.blt (s.length + t.length) oH then uA (s ++ t) else none) = _; rw [dP h, fY]; rfl
theorem aLs (n : Nat) : iW [0] n = List.replicate n 0 := by
 induction n with
 | zero => rfl
 | succ n ih => rw [List.replicate_succ, <- ih]; rfl
theorem aHP (n : Nat) (hn : n <= 140737488355328) (h : H) : rR [.str [0], .int .i64 (.ofNat n)] h = some (.str (List.replicate n 0), h) := by
 show (bif Nat.ble n 9223372036854775807 && Nat.ble (([0] : Ln).length * n) 140737488355328 then (uA (iW [0] n)).map λ v => (v, h) else none) = _
 rw [Nat.ble_eq_true_of_le (by omega), Nat.ble_eq_true_of_le (by simp; omega), fY, aLs]; rfl
def pQ (n : Nat) : Nat -> Ln -> List (Ln)
 | 0, _ => []
 | k + 1, s => if s = [] then [] else jW (s.take n) n :: pQ n k (s.drop n)
theorem vC (n k : Nat) : pQ n k [] = [] := by cases k <;> rfl
theorem aFF {n k : Nat} {s : Ln} (h : s ≠ []) : pQ n (k + 1) s = jW (s.take n) n :: pQ n k (s.drop n) := by rw [pQ, if_neg h]
end Go.DI
namespace Go.DI
open Go.RowKit
theorem lJ {α : Type} {l : List α} {j : Nat} {x : α} (h : l[j]? = some x) : j < l.length := by
 rcases Nat.lt_or_ge j l.length with h1 | h1
 · exact h1
 · rw [List.getElem?_eq_none h1] at h; cases h
def mB (h : H) (v : DV) (L : List DV) : Prop :=
 (L = [] /\ (v = .nils \/ ∃ b o o2, v = .slE b o o2)) \/ ∃ b o c op, v = .slc b o L.length c op /\ L.length <= c /\ b < h.size /\ ∀ j x, L[j]? = some x -> rdCell h.get b (o + j) = some x
section
variable {h h' : H} {v : DV} {L : List DV}
theorem mB.nil (h : H) : mB h .nils [] := .inl ⟨rfl, .inl rfl⟩
theorem mB.len (r : mB h v L) : bH v = some (.int .i64 (.ofNat L.length)) := by
 rcases r with ⟨rfl, rfl | ⟨b, o, o2, rfl⟩⟩ | ⟨b, o, c, op, rfl, _⟩ <;> rfl
theorem mB.grown (r : mB h v L) (g : bM h h') : mB h' v L := by
 rcases r with r | ⟨b, o, c, op, e, hc, hb, hx⟩
 · exact .inl r
 · exact .inr ⟨b, o, c, op, e, hc, Nat.lt_of_lt_of_le hb g.size, λ j x hj => by rw [qB (g.get b hb)]; exact hx j x hj⟩
theorem aSG {b o n c j : Nat} {op : Bool} (hj : j < n) (k : IntKind) : cW 1 (.slc b o n c op) (.int k (.ofNat j)) = some (.ptr b (o + j)) := by
 simp only [cW, nU, aR]; rw [dP hj]; simp
theorem mB.at (r : mB h v L) {j : Nat} {x : DV} (hj : L[j]? = some x) (k : IntKind) : ∃ b o, cW 1 v (.int k (.ofNat j)) = some (.ptr b o) /\ aO h.get (.ptr b o) = some x := by
 rcases r with ⟨rfl, _⟩ | ⟨b, o, c, op, rfl, _, _, hx⟩
 · cases hj
 · exact ⟨b, o + j, aSG (lJ hj) k, by simp only [aO, cH]; exact hx j x hj⟩
end
theorem bZ.row {h : H} {b : Nat} {L : List DV} (hb : bZ h b L) (op : Bool) : mB h (.slc b 0 L.length L.length op) L :=
 .inr ⟨b, 0, _, op, rfl, Nat.le_refl _, hb.1, λ j x hj => by rw [Nat.zero_add]; exact hb.rd hj⟩
theorem cI.row {n0 : Nat} {h : H} {v : DV} {L : List DV} (o : cI n0 h v L) : mB h v L := by
 rcases o with ⟨rfl, rfl⟩ | ⟨b, hb0, rfl, hb⟩
 · exact mB.nil h
 · exact hb.row true
theorem aRc (k : IntKind) {a b : Nat} (hb : 0 < b) : aNv (.int k (.ofNat a)) (.int k (.ofNat b)) = some (.int k (.ofNat (a % b))) := by
 show (bif kEq k k then aOK k (.ofNat a) (.ofNat b) else none) = _; rw [gM]; show (bif iEq (.ofNat b) 0 then none else aGH ((Int.ofNat a).tmod (.ofNat b)) λ n => some (DV.int k n)) = _
 rw [mN, show ((Int.ofNat b) == 0) = false from by simp; omega, cond_false, lV]; rfl
theorem aAs {a b : Nat} (hb : 0 < b) (ha : a < 9223372036854775808) : aBi (.int .i64 (.ofNat a)) (.int .i64 (.ofNat b)) = some (.int .i64 (.ofNat (a / b))) := by
 show (bif kEq .i64 .i64 then aOL .i64 (.ofNat a) (.ofNat b) else none) = _; rw [gM]; show (bif iEq (.ofNat b) 0 then none else iR .i64 ((Int.ofNat a).tdiv (.ofNat b))) = _; rw [mN, show ((Int.ofNat b) == 0) = false from by simp; omega, cond_false, gR]
 rw [show (Int.ofNat a).tdiv (.ofNat b) = .ofNat (a / b) from rfl, wrap_i64 (by have := Nat.div_le_self a b; omega)]
theorem aAv (k : IntKind) (a b : Int) : fV (.int k a) (.int k b) = some (.bool (decide (b <= a))) := by
 show (bif kEq k k then aOR k a b else none) = _; rw [gM]; show eV (iLe b a) = _; rw [fX, aLJ]
theorem aEN (k : IntKind) (a b : Int) : uJ (.int k a) (.int k b) = some (.bool (decide (a <= b))) := by
 show (bif kEq k k then aOP k a b else none) = _; rw [gM]; show eV (iLe a b) = _; rw [fX, aLJ]
theorem aTF (a b : Nat) : decide (Int.ofNat a <= Int.ofNat b) = decide (a <= b) := by
 rw [decide_eq_decide]; simp only [Int.ofNat_eq_natCast]; omega
theorem oQ (k : IntKind) (a b : Nat) : fV (.int k (.ofNat a)) (.int k (.ofNat b)) = some (.bool (decide (b <= a))) := by rw [aAv, aTF]
theorem aEM (k : IntKind) (a b : Nat) : uJ (.int k (.ofNat a)) (.int k (.ofNat b)) = some (.bool (decide (a <= b))) := by rw [aEN, aTF]
theorem aCb (n : Int) : IntKind.u64.wrap n = n % 18446744073709551616 := by simp [IntKind.wrap, IntKind.bits, IntKind.signed]
theorem qX {n : Nat} (h : n < 18446744073709551616) : IntKind.u64.wrap (.ofNat n) = .ofNat n := by
 rw [aCb]; simp only [Int.ofNat_eq_natCast]; omega
theorem bM.keeps {h h' : H} (g : bM h h') {n : Nat} (hn : n <= h.size) : dJ n h h' := ⟨g.size, λ c hc => g.get c (by omega)⟩
end Go.DI
namespace Go.DI
open Go.RowKit
theorem Trod_lt {H : Type} {enc : TypeId × Value -> H} {P : Program} {W : World} {base : Nat} {sp : Nat -> Bool} {held : Bool} {t : TypeId} {v : Value} {d : DataW H} {ps : List MemPlace} (h : DataW.Trod enc P W base sp held t v d ps) : ∀ x ∈ ps, x.block < W.heap.size := λ x hx => by
 obtain ⟨n, e⟩ := h; exact DataW.trod_lt n _ _ _ e x hx
end Go.DI
namespace Go.DI
open Go.RowKit
section
variable {n0 : Nat} {h h' : H} {v : DV} {L : List DV}
end
end Go.DI
namespace Go.DI
open Go.RowKit
theorem tF {R : Type} (l : List DV) (t : Bool) (op : (DV -> H -> Option R) -> Option R) (h : H) (k : DV -> H -> Option R) : aQ (.tup l) t op h k = k (.tup []) h := id rfl
theorem kV (a : DV) (l : List DV) : aX 0 (.tup (a :: l)) = some a := id rfl
theorem kU (a b : DV) (l : List DV) : aX 1 (.tup (a :: b :: l)) = some b := id rfl
theorem rU {s : Ln} {i j : Nat} (hi : i <= j) (hj : j <= s.length) (k k' : IntKind) : iP (.str s) (some (.int k (.ofNat i))) (some (.int k' (.ofNat j))) = some (.str ((s.take j).drop i)) := by
 simp only [iP, dG, dHi, dLo]; rw [Nat.ble_eq_true_of_le hj, cond_true, Nat.ble_eq_true_of_le hi, cond_true, fY]
theorem aJ (k k' : IntKind) (a b : Nat) : aAt (.int k (.ofNat a)) (.int k' (.ofNat b)) = some (.int k (.ofNat (min a b))) := by
 simp only [aAt, mM]
 congr 2
 by_cases h : b < a
 · rw [show decide (Int.ofNat b < Int.ofNat a) = true from by simp only [Int.ofNat_eq_natCast, decide_eq_true_iff]; omega]
   show Int.ofNat b = _; congr 1; omega
 · rw [show decide (Int.ofNat b < Int.ofNat a) = false from by simp only [Int.ofNat_eq_natCast, decide_eq_false_iff_not]; omega]
   show Int.ofNat a = _; congr 1; omega
theorem mE (k : IntKind) (a b : Nat) : dR (.int k (.ofNat a)) (.int k (.ofNat b)) = some (.bool (!decide (a = b))) := by
 rw [vU]; congr 2; rw [Bool.eq_iff_iff]; simp only [bne_iff_ne, ne_eq, Int.ofNat_eq_natCast, Bool.not_eq_true', decide_eq_false_iff_not]; omega
theorem oO (s t : Ln) : dR (.str s) (.str t) = some (.bool (s != t)) := by
 show eV (!sEq s t) = _; rw [fX, xP]; rfl
end Go.DI
namespace Go.DI
open Go.RowKit
def aB (h : H) (b : Nat) (L : List DV) : Prop := b < h.size /\ ∃ es t, h.get b = some (.blk ⟨L.length, es, false, true, t⟩) /\ ∀ j x, L[j]? = some x -> t.at_ j = some x
section
variable {h h' : H} {b : Nat} {L : List DV}
theorem aB.rd (hb : aB h b L) {j : Nat} {x : DV} (hj : L[j]? = some x) : rdCell h.get b j = some x := by
 obtain ⟨hlt, es, t, h1, h2⟩ := hb; rw [sY h1 (lJ hj)]; exact h2 j x hj
theorem aB.read (hb : aB h b L) {j : Nat} {x : DV} (hj : L[j]? = some x) : aO h.get (.ptr b j) = some x := by
 simp only [aO, cH]; exact hb.rd hj
theorem aB.cells (hb : aB h b L) {o k : Nat} (hk : o + k <= L.length) : rdCells h.get b o k = some ((L.drop o).take k) := by
 have hl : ((L.drop o).take k).length = k := by simp; omega
 have := mI (rd := h.get) (b := b) ((L.drop o).take k) o λ i v hi => hb.rd (by
   rw [List.getElem?_take] at hi; split at hi
   · rw [List.getElem?_drop] at hi; exact hi
   · cases hi)
 rw [hl] at this; exact this
theorem aB.readN (hb : aB h b L) {o k : Nat} (hk : o + k <= L.length) : dE k h.get (.ptr b o) = some (.agg ((L.drop o).take k)) := by
 simp only [dE, bW, hb.cells hk]; rfl
theorem aB.but (hb : aB h b L) {c : Nat} (hc : b ≠ c) (k : rT c h h') : aB h' b L := by
 obtain ⟨hlt, es, t, h1, h2⟩ := hb; exact ⟨by rw [k.size]; exact hlt, es, t, by rw [k.get b hc]; exact h1, h2⟩
theorem aB.grown (hb : aB h b L) (g : bM h h') : aB h' b L := by
 obtain ⟨hlt, es, t, h1, h2⟩ := hb; exact ⟨Nat.lt_of_lt_of_le hlt g.size, es, t, by rw [g.get b hlt]; exact h1, h2⟩
theorem aB.keep {n : Nat} (hb : aB h b L) (k : dJ n h h') (hn : b < n) : aB h' b L := by
 obtain ⟨hlt, es, t, h1, h2⟩ := hb; exact ⟨Nat.lt_of_lt_of_le hlt k.size, es, t, by rw [k.get b hn]; exact h1, h2⟩
theorem aB.store (hb : aB h b L) {vs : List DV} {o : Nat} (hv : vs.all DV.one = true) (ho : o + vs.length <= L.length) :
   ∃ h', fO vs h b o = some h' /\ aB h' b (L.take o ++ vs ++ L.drop (o + vs.length)) /\ rT b h h' := by
 obtain ⟨hlt, es, t, h1, h2⟩ := hb; obtain ⟨h', t', f1, f2, f3, f4, f5⟩ := qF (h := h) (b := b) (o := o) (vs := vs) h1 rfl ho hv; have hlen : (L.take o ++ vs ++ L.drop (o + vs.length)).length = L.length := by simp; omega
 refine ⟨h', f1, ⟨by rw [f2]; exact hlt, es, t', by rw [f4, hlen], λ j x hj => ?_⟩, ⟨f2, f3⟩⟩
 rw [f5]; have ht : (L.take o).length = o := by simp; omega
 by_cases hjo : o <= j /\ j < o + vs.length
 · rw [if_pos hjo]; rw [List.append_assoc, List.getElem?_append_right (by omega), ht, List.getElem?_append_left (by omega)] at hj
   exact hj
 · rw [if_neg hjo]; apply h2; rcases Nat.lt_or_ge j o with hlt | hge
   · rw [List.append_assoc, List.getElem?_append_left (by omega), List.getElem?_take, if_pos hlt] at hj
     exact hj
   · have hge2 : o + vs.length <= j := by
       rcases Nat.lt_or_ge j (o + vs.length) with h3 | h3
       · exact absurd ⟨hge, h3⟩ hjo
       · exact h3
     rw [List.getElem?_append_right (by simp only [List.length_append, ht]; omega), List.length_append, ht, List.getElem?_drop] at hj
     rw [show j = o + vs.length + (j - (o + vs.length)) from by omega]; exact hj
theorem wI {v : DV} (hv : v.one = true) : v.cells = [v] := by cases v <;> first | rfl | cases hv
theorem aB.set (hb : aB h b L) {j : Nat} {v : DV} (hv : v.one = true) (hj : j < L.length) :
   ∃ h', eU 1 (.ptr b j) v h = some (.tup [], h') /\ aB h' b (L.set j v) /\ rT b h h' := by
 obtain ⟨h', f1, f2, f3⟩ := hb.store (vs := [v]) (o := j) (by simp [hv]) (by simp; omega)
 refine ⟨h', ?_, ?_, f3⟩
 · rw [nA]; simp only [dSt, wI hv, List.length_singleton, Nat.beq_refl, cond_true, f1, Option.map_some]
 · have : L.take j ++ [v] ++ L.drop (j + [v].length) = L.set j v := by
     rw [List.set_eq_take_append_cons_drop, if_pos hj]; simp
   rw [<- this]; exact f2
theorem aB.setN (hb : aB h b L) {o n : Nat} {cs : List DV} (hn : cs.length = n) (hv : cs.all DV.one = true) (ho : o + n <= L.length) :
   ∃ h', eU n (.ptr b o) (.agg cs) h = some (.tup [], h') /\ aB h' b (L.take o ++ cs ++ L.drop (o + n)) /\ rT b h h' := by
 subst hn; obtain ⟨h', f1, f2, f3⟩ := hb.store (vs := cs) (o := o) hv ho; refine ⟨h', ?_, f2, f3⟩; rw [nA]; have : (DV.agg cs).cells = cs := rfl; simp only [dSt, this, Nat.beq_refl, cond_true, f1, Option.map_some]
theorem wA {R : Type} (cs : List DV) (h : H) (k : DV -> H -> Option R) : dN (.agg cs) h k = k (.ptr h.size 0) (h.push (.blk ⟨cs.length, cs.length, false, true, Tr.ofL cs⟩)) := by
 simp only [dN, aR, H.pushK_eq]; rfl
theorem vZ {R : Type} {v : DV} (hv : v.one = true) (h : H) (k : DV -> H -> Option R) : dN v h k = k (.ptr h.size 0) (h.push (.blk ⟨1, 1, false, true, Tr.ofL [v]⟩)) := by
 simp only [dN, aR, H.pushK_eq, wI hv]; rfl
theorem aB.pushed {L : List DV} {es : Nat} : aB (h.push (.blk ⟨L.length, es, false, true, Tr.ofL L⟩)) h.size L :=
 ⟨by rw [H.size_push]; omega, es, _, by rw [H.get_push, if_pos rfl], λ j x hj => by rw [Tr.at_ofL]; exact hj⟩
theorem aB.text {s : Ln} {o c : Nat} {op : Bool} (hb : aB h b L) (hs : (L.drop o).take s.length = aY s) (hk : o + s.length <= L.length) (hok : aW s = true) : iQ h.get (.slc b o s.length c op) = some (.str s) := by
 simp only [iQ, bW, hb.cells hk, hs, Option.bind_some, nI hok, fY]
end
@[simp] theorem bO (b o : Nat) : aH (.ptr b o) = some (.ptr b o) := id rfl
theorem aF (off b o : Nat) : aP off (.ptr b o) = some (.ptr b (o + off)) := by simp only [aP, aR]
theorem aRe {len es b o j : Nat} (hj : j < len) (k : IntKind) : pU len es (.ptr b o) (.int k (.ofNat j)) = some (.ptr b (o + j * es)) := by
 simp only [pU, nU, aR]; rw [dP hj]; rfl
theorem aSF {n b o j : Nat} (hj : j <= n) (hn : 0 < n) (k : IntKind) : aCy n 1 (.ptr b o) none (some (.int k (.ofNat j))) = some (.slc b o j n false) := by
 simp only [aCy, dG, dHi, dLo]; rw [Nat.ble_eq_true_of_le hj, cond_true, Nat.ble_eq_true_of_le (Nat.zero_le _), cond_true, dP hn, cond_true]; simp [aR]
theorem aDF (rd : Rd) : ∀ {a b : Ln}, a.length = b.length -> rN rd .int (aY a) (aY b) = some (decide (a = b))
 | [], [], _ => rfl
 | x :: a, y :: b, h => by
   have e : rN rd .int (aY (x :: a)) (aY (y :: b)) = bif iEq (.ofNat x) (.ofNat y) then rN rd .int (aY a) (aY b) else some false := rfl; rw [e, aDF rd (a := a) (b := b) (by simpa using h), mN]
   by_cases hxy : x = y
   · subst hxy; simp
   · have : ((Int.ofNat x) == (Int.ofNat y)) = false := by
       rw [Bool.eq_false_iff]; simp only [ne_eq, beq_iff_eq, Int.ofNat_eq_natCast]; omega
     rw [this]; simp [hxy]
theorem aIn (rd : Rd) {n : Nat} {a b : Ln} (ha : a.length = n) (hb : b.length = n) (x y : Nat) :
   uL false (.arr .int 0 n (.leaf .int n .nil)) rd (.agg (aY a ++ [.int .i64 (.ofNat x)])) (.agg (aY b ++ [.int .i64 (.ofNat y)])) = some (.bool (decide (a = b) && decide (x = y))) := by
 have la : (aY a).length = n := by rw [cF, ha]
 have lb : (aY b).length = n := by rw [cF, hb]
 have e : jS rd (.arr .int 0 n (.leaf .int n .nil)) (aY a ++ [.int .i64 (.ofNat x)]) (aY b ++ [.int .i64 (.ofNat y)]) = some (decide (a = b) && decide (x = y)) := by
   show (bif Nat.ble (0 + n) (aY a ++ [_]).length && Nat.ble (0 + n) (aY b ++ [_]).length then
     (match rN rd .int (((aY a ++ [_]).drop 0).take n) (((aY b ++ [_]).drop 0).take n) with
       | some c => bif c then jS rd (.leaf .int n .nil) (aY a ++ [_]) (aY b ++ [_]) else some false
       | none => none) else none) = _
   rw [Nat.ble_eq_true_of_le (by simp [la]), Nat.ble_eq_true_of_le (by simp [lb])]
   have t1 : ((aY a ++ [DV.int .i64 (.ofNat x)]).drop 0).take n = aY a := by rw [List.drop_zero, <- la]; simp
   have t2 : ((aY b ++ [DV.int .i64 (.ofNat y)]).drop 0).take n = aY b := by rw [List.drop_zero, <- lb]; simp
   rw [t1, t2, aDF rd (by omega)]
   simp only [Bool.and_self, cond_true]; cases decide (a = b) with
   | false => rfl
   | true =>
     simp only [cond_true, Bool.true_and]; have g1 : (aY a ++ [DV.int .i64 (.ofNat x)])[n]? = some (.int .i64 (.ofNat x)) := by rw [<- la]; simp
     have g2 : (aY b ++ [DV.int .i64 (.ofNat y)])[n]? = some (.int .i64 (.ofNat y)) := by rw [<- lb]; simp
     show (match (aY a ++ [DV.int .i64 (.ofNat x)])[n]?, (aY b ++ [DV.int .i64 (.ofNat y)])[n]? with
       | some a, some b => match iU rd .int a b with
         | some c => bif c then some true else some false
         | none => none
       | _, _ => none) = _
     rw [g1, g2]; show (match iU rd .int (DV.int .i64 (.ofNat x)) (DV.int .i64 (.ofNat y)) with
         | some c => bif c then some true else some false
         | none => none) = _
     have : iU rd .int (DV.int .i64 (.ofNat x)) (DV.int .i64 (.ofNat y)) = some (decide (x = y)) := by
       show (bif decide (IntKind.i64 = IntKind.i64) then some (iEq (.ofNat x) (.ofNat y)) else none) = _; rw [decide_eq_true rfl, cond_true, mN]
       congr 1
       rw [Bool.eq_iff_iff, beq_iff_eq, decide_eq_true_iff]; simp only [Int.ofNat_eq_natCast]; omega
     rw [this]; cases decide (x = y) <;> rfl
 unfold uL; simp only [e, Option.bind_some, fX]; rfl
end Go.DI
namespace Go.DI
open Go.RowKit
theorem aAr (k' : IntKind) {a b : Nat} (hb : b <= 64) : uH (.int .u64 (.ofNat a)) (.int k' (.ofNat b)) = some (.int .u64 (.ofNat (a * 2 ^ b % 18446744073709551616))) := by
 show mQ .shl .u64 (.ofNat a) (.ofNat b) = _; unfold mQ; rw [show iLt (.ofNat b) 0 = false from by rw [mM]; simp]
 simp only [cond_false, gR]; rw [show min (Int.ofNat b).toNat IntKind.u64.bits = b from by show min b 64 = b; omega, aCb]
 congr 2
theorem aRb {a : Nat} (ha : a < 9223372036854775808) (k' : IntKind) : lL (.int .i64 (.negSucc a)) (.int k' (.ofNat 63)) = some (.int .i64 (.negSucc 0)) := by
 show mQ .shr .i64 (.negSucc a) (.ofNat 63) = _; unfold mQ; rw [show iLt (.ofNat 63) 0 = false from by rw [mM]; simp]
 simp only [cond_false, lV]; rw [show min (Int.ofNat 63).toNat IntKind.i64.bits = 63 from rfl]
 congr 2
 rw [Int.fdiv_eq_ediv_of_nonneg _ (by omega)]
 omega
theorem aSJ {u : Nat} (h : u < 18446744073709551616) : nX (.int .u64 (.ofNat u)) (.int .u64 (.ofNat 127)) = some (.int .u64 (.ofNat (u % 128))) := by
 have e : u &&& 127 = u % 128 := Nat.and_two_pow_sub_one_eq_mod u 7; rw [aAw .u64 u 127 (by show u < 2 ^ 64; omega) (by decide), e, qX (by omega)]
theorem bDF {u : Nat} (h : u < 18446744073709551616) : nX (.int .u64 (.ofNat u)) (.int .u64 (.ofNat 1)) = some (.int .u64 (.ofNat (u % 2))) := by
 have e : u &&& 1 = u % 2 := Nat.and_two_pow_sub_one_eq_mod u 1; rw [aAw .u64 u 1 (by show u < 2 ^ 64; omega) (by decide), e, qX (by omega)]
theorem aIl (k : IntKind) (a b : Nat) (ha : a < 2 ^ k.bits) (hb : b < 2 ^ k.bits) : aEv (.int k (.ofNat a)) (.int k (.ofNat b)) = some (.int k (k.wrap (.ofNat (a ||| b)))) := by
 show (bif kEq k k then aZr k (.ofNat a) (.ofNat b) else none) = _; rw [gM]; show (bif Nat.blt a (2 ^ k.bits) && Nat.blt b (2 ^ k.bits) then iR k (.ofNat (Nat.lor a b)) else _) = _; rw [dP ha, dP hb]; exact gR _ _
set_option maxRecDepth 100000 in
theorem bDR : ∀ x, x < 256 -> x ||| 128 = x % 128 + 128 := by decide
theorem aYO {x : Nat} (h : x < 256) : aEv (.int .u8 (.ofNat x)) (.int .u8 (.ofNat 128)) = some (iK (x % 128 + 128)) := by
 rw [aIl .u8 x 128 (by show x < 2 ^ 8; omega) (by decide), bDR x h]
 unfold iK; rw [wrap_u8 (by omega)]
theorem aIO {a b i : Nat} (h : a < 2 ^ i) : a ||| b * 2 ^ i = a + b * 2 ^ i := by
 have := Nat.two_pow_add_eq_or_of_lt h b; rw [Nat.mul_comm b, Nat.or_comm]; omega
theorem conv_u8 (u : Nat) (k : IntKind) : dF .u8 (.int k (.ofNat u)) = some (.int .u8 (.ofNat (u % 256))) := by
 rw [jB, IntKind.wrap_u8]
 congr 2
theorem qO {b : Nat} (h : b < 18446744073709551616) (k : IntKind) : dF .u64 (.int k (.ofNat b)) = some (.int .u64 (.ofNat b)) := by
 rw [jB, qX h]
theorem aGo {a b : Nat} (k k' : IntKind) (hb : b <= k.bits) : lL (.int k (.ofNat a)) (.int k' (.ofNat b)) = some (.int k (.ofNat (a / 2 ^ b))) := qY k k' a b hb
theorem aIf {x : Nat} (h : x < 18446744073709551616) : x ^^^ 18446744073709551615 = 18446744073709551615 - x := by
 apply Nat.eq_of_testBit_eq; intro i; rw [Nat.testBit_xor, show 18446744073709551615 - x = 2 ^ 64 - (x + 1) from by omega, Nat.testBit_two_pow_sub_succ h, show 18446744073709551615 = 2 ^ 64 - 1 from rfl, Nat.testBit_two_pow_sub_one]
 by_cases hi : i < 64
 · simp [hi]
 · have : x.testBit i = false := Nat.testBit_lt_two_pow (Nat.lt_of_lt_of_le h (by
     show 2 ^ 64 <= 2 ^ i; exact Nat.pow_le_pow_right (by omega) (by omega)))
   simp [hi, this]
def zz (n : Int) : Nat := match n with
 | .ofNat a => 2 * a
 | .negSucc a => 2 * a + 1
theorem bDw {n : Int} (h1 : -9223372036854775808 <= n) (h2 : n < 9223372036854775808) : ∃ (x y z : DV), dF .u64 (.int .i64 n) = some x /\ uH x (.int .u64 (.ofNat 1)) = some y /\ lL (.int .i64 n) (.int .u64 (.ofNat 63)) = some z /\
   ∃ w, dF .u64 z = some w /\ pT y w = some (.int .u64 (.ofNat (zz n))) := by
 cases n with
 | ofNat a =>
   simp only [Int.ofNat_eq_natCast] at h2; refine ⟨_, _, _, qO (by omega) _, aAr _ (by omega), aGo _ _ (by decide), _, qO (by omega) _, ?_⟩
   have e1 : a * 2 ^ 1 % 18446744073709551616 = 2 * a := by omega
   have e2 : a / 2 ^ 63 = 0 := by omega
   rw [e1, e2, lH .u64 _ _ (by show 2 * a < 2 ^ 64; omega) (by decide), Nat.xor_zero, qX (by omega)]; rfl
 | negSucc a =>
   have ha : a < 9223372036854775808 := by omega
   have e0 : IntKind.u64.wrap (.negSucc a) = .ofNat (18446744073709551615 - a) := by
     rw [aCb]; simp only [Int.ofNat_eq_natCast]; omega
   have e3 : IntKind.u64.wrap (.negSucc 0) = .ofNat 18446744073709551615 := by rw [aCb]; rfl
   refine ⟨.int .u64 (.ofNat (18446744073709551615 - a)), _, _, by rw [jB, e0], aAr _ (by omega), aRb ha _, .int .u64 (.ofNat 18446744073709551615), by rw [jB, e3], ?_⟩
   have e1 : (18446744073709551615 - a) * 2 ^ 1 % 18446744073709551616 = 18446744073709551614 - 2 * a := by omega
   rw [e1, lH .u64 _ _ (by show 18446744073709551614 - 2 * a < 2 ^ 64; omega) (by decide), aIf (by omega), qX (by omega)]
   have e5 : 18446744073709551615 - (18446744073709551614 - 2 * a) = 2 * a + 1 := by omega
   rw [e5]; rfl
theorem aRd (k : IntKind) (n : Int) : xA (.int k n) = some (.int k (k.wrap (0 - n))) := gR _ _
theorem bEg {n : Int} (h1 : -9223372036854775808 <= n) (h2 : n < 9223372036854775808) : IntKind.i64.wrap n = n := pS (by omega) (by omega)
theorem aSK {u : Nat} (h : u < 18446744073709551616) : ∃ x y z w : DV, lL (.int .u64 (.ofNat u)) (.int .u64 (.ofNat 1)) = some x /\ dF .i64 x = some y /\ nX (.int .u64 (.ofNat u)) (.int .u64 (.ofNat 1)) = some z /\ dF .i64 z = some w /\
   ∃ q, xA w = some q /\ pT y q = some (.int .i64 (if u % 2 = 0 then .ofNat (u / 2) else .negSucc (u / 2))) := by
 refine ⟨_, .int .i64 (.ofNat (u / 2)), _, .int .i64 (.ofNat (u % 2)), aGo _ _ (by decide), by rw [jB, wrap_i64 (by omega)], bDF h, by rw [jB, wrap_i64 (by omega)], _, aRd _ _, ?_⟩
 by_cases hu : u % 2 = 0
 · rw [hu, if_pos rfl]; have : IntKind.i64.wrap (0 - Int.ofNat 0) = .ofNat 0 := rfl; rw [this, lH .i64 _ _ (by show u / 2 < 2 ^ 64; omega) (by decide), Nat.xor_zero, wrap_i64 (by omega)]
 · have hu1 : u % 2 = 1 := by omega
   rw [hu1, if_neg (by omega)]
   have : IntKind.i64.wrap (0 - Int.ofNat 1) = .negSucc 0 := rfl; rw [this]; show (bif kEq .i64 .i64 then aJu .i64 (.ofNat (u / 2)) (.negSucc 0) else none) = _; rw [gM]; show iR .i64 (nJ .i64 (· ^^^ ·) (.ofNat (u / 2)) (.negSucc 0)) = _; rw [gR]; have e : nJ .i64 (· ^^^ ·) (.ofNat (u / 2)) (.negSucc 0) = .ofNat (18446744073709551615 - u / 2) := by
     unfold nJ; have b1 : (BitVec.ofInt IntKind.i64.bits (.ofNat (u / 2))).toNat = u / 2 := pH 64 (u / 2) (by show u / 2 < 2 ^ 64; omega)
     have b2 : (BitVec.ofInt IntKind.i64.bits (.negSucc 0)).toNat = 18446744073709551615 := rfl; rw [BitVec.toNat_xor, b1, b2, aIf (by omega)]; rfl
   rw [e]
   congr 2
   have : IntKind.i64.wrap (.ofNat (18446744073709551615 - u / 2)) = IntKind.i64.wrap (.negSucc (u / 2)) := by
     simp only [IntKind.wrap_i64, Int.ofNat_eq_natCast]; omega
   rw [this]; exact bEg (by omega) (by omega)
theorem aLE {R : Type} {n es : Nat} (L : List DV) (h : H) (k : DV -> H -> Option R) : jJ n es (.list L) h k = k (.ptr h.size 0) (h.push (.blk ⟨n, es, false, true, Tr.ofL L⟩)) := by
 simp only [jJ, H.pushK_eq]; rfl
theorem aZb (k : IntKind) (n : Int) : rcK (some (.int k n)) (.int k n) = true := by
 show jR (.int k n) (.int k n) = true; simp only [jR, Bool.and_eq_true]
 first | (constructor <;> simp) | simp
theorem fU (rd : Rd) (b o : Nat) : dM .ptr false rd (.ptr b o) .nilp = some (.bool false) := rfl
theorem uK (rd : Rd) (b o : Nat) : dM .ptr true rd (.ptr b o) .nilp = some (.bool true) := rfl
def aQV (n0 : Nat) (h : H) (v : DV) (L : List DV) : Prop := cI n0 h v L \/
 ∃ b o B, v = .slc b o L.length L.length false /\ h.get b = some (.blk B) /\ ∀ j x, L[j]? = some x -> rdCell h.get b (o + j) = some x
theorem aQV.push1 {n0 : Nat} {h : H} {v x z : DV} {L : List DV} {bytes : Nat} (o : aQV n0 h v L) (hlt : ∀ b o n c op, v = .slc b o n c op -> b < h.size) (hn0 : n0 <= h.size) (h1 : x.one = true)
   (hs : (L.length + 1) * bytes < bP) (hs2 : L.length + 1 < bP) : ∃ v' h', (∀ (R : Type) (k : DV -> H -> Option R), (eX 1 1 [z] [(0, 1, x)] h λ y h' => wK (cT 1 bytes v y h') k) = k v' h') /\ cI n0 h' v' (L ++ [x]) /\ dJ n0 h h' := by
 rcases o with o | ⟨b, off, B, rfl, hB, hc⟩
 · exact o.push1 hn0 h1 hs hs2
 · have hb := hlt b off _ _ _ rfl
   let h1' := h.push (.blk ⟨1 * 1, 1, false, true, Tr.ofL [x]⟩)
   have hp : bZ h1' h.size [x] := bZ.pushed (h := h) (L := [x]) (pl := true); have hB' : h1'.get b = some (.blk B) := by show (h.push _).get b = _; rw [H.get_push, if_neg (by omega)]; exact hB
   have hrow : rdCells h1'.get b off L.length = some L := mI L off λ j y hj => by rw [qB (hB'.trans hB.symm)]; exact hc j y hj
   have hf : fZ (iW [z] 1) [(0, 1, x)] = some [x] := by simp [fZ, iW, wI h1, pY]; rfl
   have hne : ¬ L.length + 1 <= L.length := by omega
   have hap : cT 1 bytes (.slc b off L.length L.length false) (.slc h.size 0 1 1 false) h1' = some (.slc h1'.size 0 (L.length + 1) (L.length + 1) true, h1'.push (.blk ⟨L.length + 1, 1, false, true, Tr.ofL (L ++ [x])⟩)) := by
     rw [iI]; have hx : dV 1 h1'.get (.slc h.size 0 1 1 false) = some [x] := by
       have := hp.cells_all
       simpa [dV] using this
     simp only [gS, fE, hx, Option.bind_some, aR, qL hne, cond_false, dP hs, dP hs2, Bool.and_self, cond_true, hB', Nat.mul_one, hrow, H.pushK_eq]
   refine ⟨.slc h1'.size 0 (L.length + 1) (L.length + 1) true, h1'.push (.blk ⟨L.length + 1, 1, false, true, Tr.ofL (L ++ [x])⟩), λ R k => ?_, .inr ⟨h1'.size, by show n0 <= h1'.size; rw [show h1'.size = h.size + 1 from rfl]; omega, ?_, ?_⟩, ?_⟩
   · simp only [eX, hf, Option.bind_some, H.pushK_eq]; show wK (cT 1 bytes (.slc b off L.length L.length false) (.slc h.size 0 1 1 false) h1') k = _; rw [hap]; rfl
   · simp
   · have := bZ.pushed (h := h1') (L := L ++ [x]) (pl := true); rw [List.length_append] at this; exact this
   · exact (dJ.push hn0 _).trans (dJ.push (by show n0 <= h1'.size; rw [show h1'.size = h.size + 1 from rfl]; omega) _)
theorem cI.lt_size {n0 : Nat} {h : H} {v : DV} {L : List DV} (o : cI n0 h v L) : ∀ b o n c op, v = .slc b o n c op -> b < h.size := by
 intro b off n c op e; rcases o with ⟨rfl, _⟩ | ⟨b', _, rfl, hb⟩
 · cases e
 · cases e; exact hb.1
def aNq (h : H) (v : DV) (L : List DV) : Prop := aQV h.size h v L /\ ∀ b o n c op, v = .slc b o n c op -> b < h.size
theorem cI.appendStr {n0 : Nat} {h : H} {v : DV} {s : Ln} (o : cI n0 h v (aY s)) (hn0 : n0 <= h.size) (t : Ln) (hs : s.length + t.length <= 1000000) :
   ∃ v' h', cT 1 1 v (.str t) h = some (v', h') /\ cI n0 h' v' (aY (s ++ t)) /\ dJ n0 h h' := by
 have e1 : (t.map λ b => DV.int .u8 (.ofNat b)) = aY t := rfl
 by_cases ht : t = []
 · subst ht; refine ⟨v, h, ?_, by simpa using o, dJ.refl _ _⟩
   rw [iI]; rcases o with ⟨rfl, e⟩ | ⟨b, _, rfl, hb⟩
   · simp only [gS, fE, dV, aR, List.length_nil, Option.bind_some, Nat.beq_refl, cond_true]
   · simp only [gS, fE, dV, aR, List.length_nil, Option.bind_some, Nat.beq_refl, cond_true, Nat.add_zero, Nat.ble_eq_true_of_le (Nat.le_refl _)]; rfl
 · have := o.append (x := .str t) (new := aY t) (bytes := 1) hn0 (by simp only [fE, aR, cF]) (by simp only [dV, Nat.beq_refl, cond_true, e1]) (qQ t) (by intro e; exact ht (by simpa [aY] using e)) (by simp only [cF]; unfold bP; omega) (by simp only [cF]; unfold bP; omega)
   rw [jM]; exact this
theorem aB.all {h : H} {b n : Nat} {L : List DV} (hb : aB h b L) (hn : L.length = n) : dE n h.get (.ptr b 0) = some (.agg L) := by
 rw [hb.readN (by omega), List.drop_zero, List.take_of_length_le (by omega)]
theorem aB.setAll {h : H} {b n : Nat} {L cs : List DV} (hb : aB h b L) (hL : L.length = n) (hn : cs.length = n) (hv : cs.all DV.one = true) :
   ∃ h', eU n (.ptr b 0) (.agg cs) h = some (.tup [], h') /\ aB h' b cs /\ rT b h h' := by
 obtain ⟨h', f1, f2, f3⟩ := hb.setN (o := 0) hn hv (by omega)
 refine ⟨h', f1, ?_, f3⟩; rw [List.take_zero, List.nil_append, Nat.zero_add, List.drop_of_length_le (by omega), List.append_nil] at f2
 exact f2
end Go.DI
end
