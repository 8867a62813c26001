/- D once more, its registers a function; plain functions that are D's; functions told by what they compute; deferred closures that recover. No condition beyond the theorems' own. -/
import Derived.Recover
import Derived.SliceStrings
import Derived.SizedLaws
import Derived.WideShapes
import Derived.Lib.Join
import Derived.Test.YtmafhiogonejfaaGreatDoorDb
set_option linter.unusedVariables false
set_option linter.unusedSimpArgs false
noncomputable section
namespace Go.DI
open Go.RowKit
theorem gE.mono {P : Program} {f : FuncId} {F G : cB} (hF : gE P f F) (h : ∀ args h r, G args h = some r -> F args h = some r) : gE P f G :=
 λ N0 w0 m hh w args args' v h' hr ht hw => hF N0 w0 m hh w args args' v h' (h _ _ _ hr) ht hw
structure aI (h h' : H) : Prop where
 size : h.size <= h'.size
 get : ∀ b, b < h.size -> h'.get b = h.get b
theorem aI.refl (h : H) : aI h h := ⟨Nat.le_refl _, λ _ _ => rfl⟩
theorem aI.trans {a b c : H} (x : aI a b) (y : aI b c) : aI a c :=
 ⟨Nat.le_trans x.size y.size, λ i hi => (y.get i (Nat.lt_of_lt_of_le hi x.size)).trans (x.get i hi)⟩
theorem aI.push (h : H) (o : iN) : aI h (h.push o) := ⟨by simp, λ b hb => by rw [H.get_push, if_neg (by omega)]⟩
def nY (v : DV) : Prop := ∀ m m' : Mp, tr m v = tr m' v
theorem cX.forget {N0 : Nat} {w0 : World} {m m' : Mp} {h h' : H} {w w' : World} (hw : cX N0 w0 m h w) (hw' : cX N0 w0 m' h' w') (he : lC m h m' h') (hg : aI h h') : cX N0 w0 m h w' := by
 have hgb : ∀ b i, m b = some i -> h'.get b = h.get b := λ b i e => hg.get b (hw.lt b i e).1
 refine ⟨λ b i e => ⟨(hw.lt b i e).1, (hw'.lt b i (he.le b i e)).2⟩, λ b i e => ?_, hw.inj, hw'.below, hw'.base, hw.wf⟩
 obtain ⟨o, g, r, n⟩ := hw.has b i e; obtain ⟨o', g', r', n'⟩ := hw'.has b i (he.le b i e); rw [hgb b i e, g] at g'; cases g'; refine ⟨o, g, ?_, n⟩; cases o with
 | blk B =>
   obtain ⟨⟨c, el, fr, h1, h2, h3⟩, _, _⟩ := r; obtain ⟨⟨c', el', fr', h1', h2', h3'⟩, hf', hp'⟩ := r'; refine ⟨⟨c', el', fr', h1', h2', λ j hj => ?_⟩, hf', hp'⟩
   rcases h3 j hj with ⟨v, v', a, b', d⟩ | hx
   · rcases h3' j hj with ⟨u, u', a', b'', d'⟩ | ⟨_, hx⟩
     · rw [a] at a'; cases a'; rw [fH he.le _ _ b'] at b''; cases b''; exact .inl ⟨v, v', a, b', d'⟩
     · rw [a] at hx; cases hx
   · exact .inr hx
 | dead => trivial
 | map ds clock =>
   obtain ⟨es, h1, h2⟩ := r; obtain ⟨es', h1', h2'⟩ := r'; refine ⟨es', h1', ?_⟩; have same : ∀ {ds : List xR} {es es' : List MapEntry}, gL m ds es -> gL m' ds es' -> gL m ds es' := by
     intro ds
     induction ds with
     | nil => intro es es' a b; cases es' <;> first | trivial | exact b.elim
     | cons d ds ih =>
       intro es es' a b; cases es with
       | nil => exact a.elim
       | cons e es =>
         cases es' with
         | nil => exact b.elim
         | cons e' es' =>
           refine ⟨⟨?_, ?_, b.1.2.2⟩, ih a.2 b.2⟩
           · have := fH he.le _ _ a.1.1; rw [b.1.1] at this; rw [a.1.1, this]
           · have := fH he.le _ _ a.1.2.1; rw [b.1.2.1] at this; rw [a.1.2.1, this]
   exact same h2 h2'
theorem gE.forget {P : Program} {f : FuncId} {F G : cB} (hF : gE P f F)
   (hG : ∀ args h v h', G args h = some (v, h') -> h' = h /\ nY v /\ ∃ h1, F args h = some (v, h1) /\ aI h h1) : gE P f G := by
 intro N0 w0 m h w args args' v h' hr ht hw; obtain ⟨rfl, hv, h1, h2, h3⟩ := hG _ _ _ _ hr; refine (hF N0 w0 m h' w args args' v h1 h2 ht hw).mono λ e w' hh => ?_
 obtain ⟨m', v', e1, e2, e3, e4⟩ := hh; exact ⟨m, v', e1, by rw [hv m m']; exact e2, hw.forget e3 e4 h3, lC.refl _ _⟩
theorem nY.int (k : IntKind) (n : Int) : nY (.int k n) := λ _ _ => rfl
theorem nY.str (s : Ln) : nY (.str s) := λ _ _ => rfl
theorem nY.tup2 {a b : DV} (ha : nY a) (hb : nY b) : nY (.tup [a, b]) := λ m m' => by simp only [tr, trs, ha m m', hb m m']
end Go.DI
namespace Go.DI
open Go.RowKit
section
variable {R : Type}
def vK (o : Option DV) (k : DV -> Option R) : Option R := Option.rec (motive := λ _ => Option R) none k o
def wK (o : Option (DV × H)) (k : DV -> H -> Option R) : Option R := Option.rec (motive := λ _ => Option R) none (λ x => Prod.rec (motive := λ _ => Option R) k x) o
def bK (x : DV) (a b : Option R) : Option R := match x with
 | .bool c => Bool.rec b a c
 | _ => none
def gK (x : DV) (t : Bool) (a b : Option R) : Option R := match x with
 | .bool c => Bool.rec (Bool.rec a b t) (Bool.rec b a t) c
 | _ => b
def tY (o : Option DV) (v : DV) : Bool := Option.rec (motive := λ _ => Bool) false (λ u => pQ u v) o
theorem bCs (o : Option DV) (k : DV -> Option R) : vK o k = o.bind k := by cases o <;> rfl
theorem bCr (o : Option (DV × H)) (k : DV -> H -> Option R) : wK o k = o.bind λ x => k x.1 x.2 := by cases o <;> rfl
end
theorem rI (n a : Nat) (ha : a < 2 ^ n) : (BitVec.ofInt n (Int.ofNat a)).toNat = a := by
 rw [BitVec.toNat_ofInt]; have h2 : (Int.ofNat a) % ((2 ^ n : Nat) : Int) = (a : Int) := by
   rw [Int.ofNat_eq_natCast, <- Int.natCast_emod, Nat.mod_eq_of_lt ha]
 have h3 : ∀ z : Int, z = ((2 ^ n : Nat) : Int) -> ((Int.ofNat a) % z).toNat = a := by
   intro z hz; rw [hz, h2]; rfl
 exact h3 _ (by simp)
def fb (f : Nat -> Nat -> Nat) (s : IntKind -> Int -> Int -> Option DV) (k : IntKind) (x y : Int) : Option DV :=
 Int.rec (motive := λ _ => Option DV) (λ a => Int.rec (motive := λ _ => Option DV) (λ b => bif Nat.blt a (2 ^ k.bits) && Nat.blt b (2 ^ k.bits) then jE k (.ofNat (f a b)) else s k x y) (λ _ => s k x y) y) (λ _ => s k x y) x
theorem aWe {f : Nat -> Nat -> Nat} {s : IntKind -> Int -> Int -> Option DV} {k : IntKind} (h : ∀ a b, a < 2 ^ k.bits -> b < 2 ^ k.bits -> s k (.ofNat a) (.ofNat b) = jE k (.ofNat (f a b))) (x y : Int) : fb f s k x y = s k x y := by
 cases x with
 | negSucc a => rfl
 | ofNat a =>
   cases y with
   | negSucc b => rfl
   | ofNat b =>
     show (bif Nat.blt a (2 ^ k.bits) && Nat.blt b (2 ^ k.bits) then jE k (.ofNat (f a b)) else s k (.ofNat a) (.ofNat b)) = _; cases hb : (Nat.blt a (2 ^ k.bits) && Nat.blt b (2 ^ k.bits)) with
     | false => rfl
     | true =>
       rw [Bool.and_eq_true, Nat.blt_eq, Nat.blt_eq] at hb; exact (h a b hb.1 hb.2).symm
def aRk : IntKind -> Int -> Int -> Option DV := fb Nat.land aRH
def aZK : IntKind -> Int -> Int -> Option DV := fb Nat.lor bAz
def aRj : IntKind -> Int -> Int -> Option DV := fb Nat.xor aRy
theorem aWg (k : IntKind) (x y : Int) : aRk k x y = aRH k x y := aWe (λ a b ha hb => by
 unfold aRH rJ; rw [BitVec.toNat_and, rI _ _ ha, rI _ _ hb]; rfl) x y
theorem aZJ (k : IntKind) (x y : Int) : aZK k x y = bAz k x y := aWe (λ a b ha hb => by
 unfold bAz rJ; rw [BitVec.toNat_or, rI _ _ ha, rI _ _ hb]; rfl) x y
theorem aWf (k : IntKind) (x y : Int) : aRj k x y = aRy k x y := aWe (λ a b ha hb => by
 unfold aRy rJ; rw [BitVec.toNat_xor, rI _ _ ha, rI _ _ hb]; rfl) x y
def vI (f : IntKind -> Int -> Int -> Option DV) (g : Ln -> Ln -> Option DV) (a b : DV) : Option DV := match a, b with
 | .int k x, .int k' y => bif kEq k k' then f k x y else none
 | .str s, .str t => g s t
 | _, _ => none
def xM (s t : Ln) : Option DV := none
def bCB (s t : Ln) : Option DV := bif Nat.blt (s.length + t.length) fJ then xP (s ++ t) else none
def bCA (s t : Ln) : Option DV := fA (sEq s t)
def bCw (s t : Ln) : Option DV := fA (!sEq s t)
def aQM (s t : Ln) : Option DV := fA (sI s t)
def bCx (s t : Ln) : Option DV := fA (sI s t || sEq s t)
def bCy (s t : Ln) : Option DV := fA (!(sI s t || sEq s t))
def bCz (s t : Ln) : Option DV := fA (!sI s t)
def bAy (op : BinOp) (a b : DV) : Option DV := match a, b with
 | .int k x, .int _ y => pH op k x y
 | _, _ => none
def bJ : DV -> DV -> Option DV := vI aRI bCB
def fE : DV -> DV -> Option DV := vI aRz xM
def aCl : DV -> DV -> Option DV := vI aWU xM
def aQx : DV -> DV -> Option DV := vI aRA xM
def bNj : DV -> DV -> Option DV := vI aWS xM
def aDA : DV -> DV -> Option DV := vI aRk xM
def aTf : DV -> DV -> Option DV := vI aZK xM
def aDt : DV -> DV -> Option DV := vI aRj xM
def aDv : DV -> DV -> Option DV := bAy .shl
def xT : DV -> DV -> Option DV := bAy .shr
def aUO : DV -> DV -> Option DV := vI aEN xM
def bZ : DV -> DV -> Option DV := vI aRG bCA
def dB : DV -> DV -> Option DV := vI aRB bCw
def cW : DV -> DV -> Option DV := vI aRC aQM
def aDx : DV -> DV -> Option DV := vI aRD bCx
def eF : DV -> DV -> Option DV := vI aRE bCy
def oR : DV -> DV -> Option DV := vI aRF bCz
def aQC (op : BinOp) : DV -> DV -> Option DV :=
 BinOp.rec (motive := λ _ => DV -> DV -> Option DV) bJ fE aCl aQx bNj aDA aTf aDt aDv xT aUO bZ dB cW aDx eF oR op
theorem iV {op : BinOp} (hs : oF op = false) {f : IntKind -> Int -> Int -> Option DV} {g : Ln -> Ln -> Option DV} (hf : ∀ k x y, f k x y = wZ op k x y) (hg : ∀ s t, g s t = wY op s t) (a b : DV) : vI f g a b = aEE op a b := by
 cases a <;> cases b <;> first | rfl | (simp only [vI, aEE, aVO, hs, cond_false, hf, hg])
theorem aRw {op : BinOp} (hs : oF op = true) (hg : ∀ s t, wY op s t = none) (a b : DV) : bAy op a b = aEE op a b := by
 cases a <;> cases b <;> first | rfl | (simp only [bAy, aEE, hs, cond_true, hg])
theorem aUN (op : BinOp) (a b : DV) : aQC op a b = aEE op a b := by
 cases op
 · exact iV (op := .add) (f := aRI) (g := bCB) rfl (λ k x y => by show jE k (aVS x y) = jE k (x + y); rw [aIw]) (λ _ _ => rfl) a b
 · exact iV (op := .sub) (f := aRz) (g := xM) rfl (λ _ _ _ => rfl) (λ _ _ => rfl) a b
 · exact iV (op := .mul) (f := aWU) (g := xM) rfl (λ _ _ _ => rfl) (λ _ _ => rfl) a b
 · exact iV (op := .quo) (f := aRA) (g := xM) rfl (λ _ _ _ => rfl) (λ _ _ => rfl) a b
 · exact iV (op := .rem) (f := aWS) (g := xM) rfl (λ _ _ _ => rfl) (λ _ _ => rfl) a b
 · exact iV (op := .and) (f := aRk) (g := xM) rfl (λ k x y => aWg k x y) (λ _ _ => rfl) a b
 · exact iV (op := .or) (f := aZK) (g := xM) rfl (λ k x y => aZJ k x y) (λ _ _ => rfl) a b
 · exact iV (op := .xor) (f := aRj) (g := xM) rfl (λ k x y => aWf k x y) (λ _ _ => rfl) a b
 · exact aRw (op := .shl) rfl (λ _ _ => rfl) a b
 · exact aRw (op := .shr) rfl (λ _ _ => rfl) a b
 · exact iV (op := .andNot) (f := aEN) (g := xM) rfl (λ _ _ _ => rfl) (λ _ _ => rfl) a b
 · exact iV (op := .eql) (f := aRG) (g := bCA) rfl (λ _ _ _ => rfl) (λ _ _ => rfl) a b
 · exact iV (op := .neq) (f := aRB) (g := bCw) rfl (λ _ _ _ => rfl) (λ _ _ => rfl) a b
 · exact iV (op := .lss) (f := aRC) (g := aQM) rfl (λ _ _ _ => rfl) (λ _ _ => rfl) a b
 · exact iV (op := .leq) (f := aRD) (g := bCx) rfl (λ _ _ _ => rfl) (λ _ _ => rfl) a b
 · exact iV (op := .gtr) (f := aRE) (g := bCy) rfl (λ _ _ _ => rfl) (λ _ _ => rfl) a b
 · exact iV (op := .geq) (f := aRF) (g := bCz) rfl (λ _ _ _ => rfl) (λ _ _ => rfl) a b
def aIk (rd : Rd) (b j : Nat) : Option DV := match rd b with
 | some (.blk B) => bif Nat.blt j B.n then B.t.at_ j else none
 | _ => none
theorem cG (rd : Rd) (b j : Nat) : aIk rd b j = rdCell rd b j := by
 unfold aIk rdCell; cases rd b with
 | none => rfl
 | some o =>
   cases o with
   | blk B =>
     show (bif Nat.blt j B.n then B.t.at_ j else none) = if j < B.n then B.t.at_ j else none
     by_cases h : j < B.n
     · rw [if_pos h, show Nat.blt j B.n = true from by rw [Nat.blt_eq]; exact h]; rfl
     · rw [if_neg h, show Nat.blt j B.n = false from by rw [Bool.eq_false_iff, ne_eq, Nat.blt_eq]; exact h]; rfl
   | dead => rfl
   | map a b => rfl
def aVT (t : Tr DV) (n : Nat) : Nat -> Option (List DV) :=
 Nat.rec (motive := λ _ => Nat -> Option (List DV)) (λ _ => some []) (λ _ ih j => Option.rec (motive := λ _ => Option (List DV)) none (λ v => eE (Nat.succ j) λ j => Option.rec (motive := λ _ => Option (List DV)) none (λ vs => some (v :: vs)) (ih j)) (t.at_ j)) n
theorem aLP {rd : Rd} {b : Nat} {B : Blk} (h : rd b = some (.blk B)) : ∀ (n j : Nat), j + n <= B.n -> aVT B.t n j = rdCells rd b j n
 | 0, j, _ => rfl
 | n + 1, j, hl => by
   show Option.rec (motive := λ _ => Option (List DV)) none (λ v => eE (Nat.succ j) λ j => Option.rec (motive := λ _ => Option (List DV)) none (λ vs => some (v :: vs)) (aVT B.t n j)) (B.t.at_ j) = _
   simp only [aZ, rdCells]; rw [aLP h n (j + 1) (by omega)]
   have e : rdCell rd b j = B.t.at_ j := by simp only [rdCell, h]; rw [if_pos (by omega)]
   rw [e]; cases B.t.at_ j with
   | none => rfl
   | some v => cases rdCells rd b (j + 1) n <;> rfl
theorem sS {rd : Rd} {b : Nat} : ∀ (n j : Nat), (∀ B, rd b = some (.blk B) -> B.n < j + n) -> 0 < n -> rdCells rd b j n = none
 | 0, j, _, h => absurd h (by omega)
 | n + 1, j, hb, _ => by
   simp only [rdCells]; cases hc : rdCell rd b j with
   | none => rfl
   | some v =>
     have : 0 < n := by
       unfold rdCell at hc; split at hc
       · rename_i B hB; split at hc
         · have := hb B hB; omega
         · cases hc
       · cases hc
     rw [sS n (j + 1) (λ B hB => by have := hb B hB; omega) this]
def nK (rd : Rd) (b j n : Nat) : Option (List DV) := bif Nat.beq n 0 then some [] else match rd b with
 | some (.blk B) => bif Nat.ble (j + n) B.n then aVT B.t n j else none
 | _ => none
theorem cH (rd : Rd) (b j n : Nat) : nK rd b j n = rdCells rd b j n := by
 unfold nK; by_cases h0 : n = 0
 · subst h0; rfl
 · rw [show Nat.beq n 0 = false from by cases h : Nat.beq n 0; rfl; exact absurd (Nat.eq_of_beq_eq_true h) h0, cond_false]
   split
   · rename_i B hB; by_cases hl : j + n <= B.n
     · rw [Nat.ble_eq_true_of_le hl, cond_true]; exact aLP hB n j hl
     · rw [show Nat.ble (j + n) B.n = false from by cases h : Nat.ble (j + n) B.n; rfl; exact absurd (Nat.le_of_ble_eq_true h) hl, cond_false]
       exact (sS n j (λ B' hB' => by rw [hB] at hB'; cases hB'; omega) (by omega)).symm
   · rename_i hn; exact (sS n j (λ B' hB' => absurd hB' (hn B')) (by omega)).symm
def aQK {β : Type} (vs : List DV) : Nat -> Tr DV -> (Tr DV -> β) -> β :=
 List.rec (motive := λ _ => Nat -> Tr DV -> (Tr DV -> β) -> β) (λ _ t k => k t) (λ v _ ih o t k => Tr.setK v (Pa.of o) t λ t => eE (Nat.succ o) λ o => ih o t k) vs
def aLa : List DV -> Nat -> Tr DV -> Tr DV
 | [], _, t => t
 | v :: vs, o, t => aLa vs (o + 1) (Tr.set v (Pa.of o) t)
theorem aDO {β : Type} : ∀ (vs : List DV) (o : Nat) (t : Tr DV) (k : Tr DV -> β), aQK vs o t k = k (aLa vs o t)
 | [], _, _, _ => rfl
 | v :: vs, o, t, k => by
   show (Tr.setK v (Pa.of o) t λ t => eE (Nat.succ o) λ o => aQK vs o t k) = _
   rw [Tr.setK_eq, aZ, aDO vs]; rfl
theorem Tr.set_set {α : Type} (x y : α) : ∀ (p : Pa) (t : Tr α), Tr.set y p (Tr.set x p t) = Tr.set y p t
 | .h, .e => rfl
 | .h, .n _ _ _ => rfl
 | .l p, .e => by show Tr.n (Tr.set y p (Tr.set x p .e)) none .e = Tr.n (Tr.set y p .e) none .e; rw [Tr.set_set x y p]
 | .l p, .n l v r => by show Tr.n (Tr.set y p (Tr.set x p l)) v r = Tr.n (Tr.set y p l) v r; rw [Tr.set_set x y p]
 | .r p, .e => by show Tr.n .e none (Tr.set y p (Tr.set x p .e)) = Tr.n .e none (Tr.set y p .e); rw [Tr.set_set x y p]
 | .r p, .n l v r => by show Tr.n l v (Tr.set y p (Tr.set x p r)) = Tr.n l v (Tr.set y p r); rw [Tr.set_set x y p]
theorem H.put_put (h : H) (b : Nat) (x y : iN) : (h.put b x).put b y = h.put b y := by
 unfold H.put Tr.put; simp only [Tr.set_set]
def aAD (vs : List DV) (h : H) (b o : Nat) : Option H := match vs with
 | [] => some h
 | v :: vs => match h.get b with
   | some (.blk B) => bif (!B.ro) && Nat.ble (o + (v :: vs).length) B.n && (v :: vs).all DV.one then
       aQK (v :: vs) o B.t λ t => h.putK b (.blk { B with t := t }) some
     else none
   | _ => none
theorem aBt : ∀ (vs : List DV) (h : H) (b o : Nat) (B : Blk), h.get b = some (.blk B) -> vs ≠ [] ->
   gZ vs h b o = if (!B.ro) = true /\ o + vs.length <= B.n /\ vs.all DV.one = true then some (h.put b (.blk { B with t := aLa vs o B.t })) else none
 | [], _, _, _, _, _, h => absurd rfl h
 | v :: vs, h, b, o, B, hB, _ => by
   simp only [gZ, hB]; by_cases hc : ((!B.ro) && Nat.blt o B.n && v.one) = true
   · rw [hc, cond_true, Tr.setK_eq, H.putK_eq, aZ]; rw [Bool.and_eq_true, Bool.and_eq_true, Nat.blt_eq] at hc; obtain ⟨⟨h1, h2⟩, h3⟩ := hc; cases vs with
     | nil =>
       rw [if_pos ⟨h1, by simp only [List.length_cons, List.length_nil]; omega, by simp [h3]⟩]; rfl
     | cons u us =>
       rw [aBt (u :: us) _ b (o + 1) { B with t := Tr.set v (Pa.of o) B.t } (by rw [H.get_put, if_pos rfl]) (by simp)]
       simp only [H.put_put]; by_cases hd : (!B.ro) = true /\ o + 1 + (u :: us).length <= B.n /\ (u :: us).all DV.one = true
       · rw [if_pos hd, if_pos ⟨h1, by have := hd.2.1; simp only [List.length_cons] at this ⊢; omega, by rw [List.all_cons, h3, hd.2.2]; rfl⟩]; rfl
       · rw [if_neg hd, if_neg]; intro hh; apply hd; refine ⟨h1, by have := hh.2.1; simp only [List.length_cons] at this ⊢; omega, ?_⟩
         have := hh.2.2; rw [List.all_cons, Bool.and_eq_true] at this; exact this.2
   · have hc' : ((!B.ro) && Nat.blt o B.n && v.one) = false := by simpa using hc
     rw [hc', cond_false, if_neg]; intro hh; apply hc; rw [Bool.and_eq_true, Bool.and_eq_true, Nat.blt_eq]; have h3 := hh.2.2; rw [List.all_cons, Bool.and_eq_true] at h3; exact ⟨⟨hh.1, by have := hh.2.1; simp only [List.length_cons] at this; omega⟩, h3.1⟩
theorem yR (vs : List DV) (h : H) (b o : Nat) : aAD vs h b o = gZ vs h b o := by
 unfold aAD; split
 · rfl
 · rename_i v vs; split
   · rename_i B hB; rw [aBt (v :: vs) h b o B hB (by simp)]
     by_cases hd : (!B.ro) = true /\ o + (v :: vs).length <= B.n /\ (v :: vs).all DV.one = true
     · rw [if_pos hd, hd.1, Nat.ble_eq_true_of_le hd.2.1, hd.2.2]; simp only [Bool.and_self, cond_true, aDO, H.putK_eq]
     · rw [if_neg hd]; have : ((!B.ro) && Nat.ble (o + (v :: vs).length) B.n && (v :: vs).all DV.one) = false := by
         rw [Bool.eq_false_iff]; intro hh; rw [Bool.and_eq_true, Bool.and_eq_true] at hh; exact hd ⟨hh.1.1, Nat.le_of_ble_eq_true hh.1.2, hh.2⟩
       rw [this, cond_false]
   · rename_i hn; simp only [gZ]
def bS (n : Nat) (a x : DV) (h : H) : Option (DV × H) :=
 match a with
 | .ptr b o => bif Nat.beq x.cells.length n then (aAD x.cells h b o).map λ h => (.tup [], h) else none
 | _ => none
theorem aAE (n : Nat) (a x : DV) (h : H) : bS n a x h = dSt n a x h := by unfold bS dSt; simp only [yR]; cases a <;> rfl
def aBc (es : Nat) (rd : Rd) (x : DV) : Option (List DV) :=
 match x with
 | .nils => some []
 | .slE _ _ _ => some []
 | .slc b o n _ _ => nK rd b o (n * es)
 | .str s => bif Nat.beq es 1 then some (s.map λ b => .int .u8 (.ofNat b)) else none
 | _ => none
theorem aHV (es : Nat) (rd : Rd) (x : DV) : aBc es rd x = dT es rd x := by unfold aBc dT; simp only [cH]; cases x <;> rfl
def aOE (o len es : Nat) (B : Blk) (new : List DV) (rd : Rd) (b : Nat) : Option (Tr DV) := bif Nat.beq o 0 then aQK new (len * es) B.t some else (nK rd b o (len * es)).map λ old => Tr.ofL (old ++ new)
def cF (es bytes : Nat) (s x : DV) (h : H) : Option (DV × H) :=
 (srcLen x).bind λ n => (aBc es h.get x).bind λ new =>
 match s with
 | .nils => bif Nat.beq n 0 then some (.nils, h) else
     bif Nat.blt (n * bytes) aU && Nat.blt n aU then h.pushK (.blk ⟨n * es, es, false, true, Tr.ofL new⟩) λ h' => some (.slc h.size 0 n n true, h') else none
 | .slE b o o2 => bif Nat.beq n 0 then some (.slE b o o2, h) else none
 | .slc b o len cap op => eE (len + n) λ need =>
     bif Nat.ble need cap then (aAD new h b (o + len * es)).map λ h => (.slc b o need cap op, h)
     else bif Nat.blt (need * bytes) aU && Nat.blt need aU then
       match h.get b with
       | some (.blk B) =>
         bif op then
           bif Nat.beq (o + cap * es) B.n && Nat.beq B.es es && (!B.ro) && Nat.ble len cap && new.all DV.one then
             (aOE o len es B new h.get b).bind λ t => eE (need * es) λ n' => h.pushK (.blk ⟨n', es, false, false, t⟩) λ h' => h'.putK b .dead λ h'' => some (.slc h.size 0 need need true, h'')
           else none
         else
           (nK h.get b o (len * es)).bind λ old => eE (need * es) λ n' => h.pushK (.blk ⟨n', es, false, true, Tr.ofL (old ++ new)⟩) λ h' => some (.slc h.size 0 need need true, h')
       | _ => none
     else none
 | _ => none
theorem aBd : ∀ (vs : List DV) (o : Nat) (t : Tr DV), aLa vs o t = Tr.ofF vs o t
 | [], _, _ => rfl
 | v :: vs, o, t => aBd vs (o + 1) _
theorem aTW (o len es : Nat) (B : Blk) (new : List DV) (rd : Rd) (b : Nat) : aOE o len es B new rd b = aCE o len es B new rd b := by
 unfold aOE aCE; rw [aDO, aBd, cH]
theorem eW (es bytes : Nat) (s x : DV) (h : H) : cF es bytes s x h = fQ es bytes s x h := by
 unfold cF fQ; simp only [aHV, yR, cH, aTW]; cases srcLen x with
 | none => rfl
 | some n =>
   simp only [Option.bind_some]; cases dT es h.get x with
   | none => rfl
   | some new =>
     simp only [Option.bind_some]; cases s <;> rfl
def aDL (es k : Nat) (rd : Rd) (x : DV) : Option (List DV) :=
 match x with
 | .nils => some []
 | .slE _ _ _ => some []
 | .slc b o _ _ _ => nK rd b o (k * es)
 | .str s => bif Nat.beq es 1 then some ((s.take k).map λ b => .int .u8 (.ofNat b)) else none
 | _ => none
theorem aKX (es k : Nat) (rd : Rd) (x : DV) : aDL es k rd x = pV es k rd x := by unfold aDL pV; simp only [cH]; cases x <;> rfl
def lI (es : Nat) (d x : DV) (h : H) : Option (DV × H) :=
 (srcLen x).bind λ n => match d with
 | .nils => some (.int .i64 0, h)
 | .slE _ _ _ => some (.int .i64 0, h)
 | .slc b o len _ _ => eE (bif Nat.ble n len then n else len) λ k => (aDL es k h.get x).bind λ new => (aAD new h b o).map λ h => (.int .i64 (.ofNat k), h)
 | _ => none
theorem aBu (es : Nat) (d x : DV) (h : H) : lI es d x h = aED es d x h := by
 unfold lI aED; simp only [aKX, yR]; cases srcLen x with
 | none => rfl
 | some n => cases d <;> rfl
def aHG (x y : DV) : Option DV := match x, y with
 | .str s, .int .u8 (.ofNat c) => bif Nat.blt c 256 then aLW (pP c s) λ n => some (.int .i64 n) else none
 | _, _ => none
def aNB (x y : DV) : Option DV := match x, y with
 | .str s, .int .u8 (.ofNat c) => bif Nat.blt c 256 then eE (aCU c s) λ n => some (.int .i64 (.ofNat n)) else none
 | _, _ => none
def aQy (k : Prm) : DV -> DV -> Option DV := Prm.rec (motive := λ _ => DV -> DV -> Option DV) aHG aNB k
def aQA (kt : zI) (z : DV) (ok : Bool) (rd : Rd) (x k : DV) : Option DV := (match x with
   | .nilm => some none
   | .mp b => match rd b with
     | some (.map es _) => aHk kt k es
     | _ => none
   | _ => none).map λ r => match r with
     | some v => bif ok then .tup [v, .bool true] else v
     | none => bif ok then .tup [z, .bool false] else z
def xS (es : Nat) (x : DV) (lo : Option DV) (hi mx : DV) : Option DV := match mx with
   | .int _ (.ofNat k) => (match x with
     | .nils => bif Nat.beq k 0 then dJ 0 0 lo (some hi) λ l h => some .nils else none
     | .slc b o len cap op => bif Nat.ble k cap then dJ len k lo (some hi) λ l h =>
         bif Nat.blt l k then (eE (o + l * es) λ o => eE (h - l) λ n => eE (k - l) λ c => some (.slc b o n c false)) else some (.slc b o 0 0 false) else none
     | _ => none)
   | _ => none
def bF (c a b : DV) : Option DV := match c with
   | .bool t => some (Bool.rec b a t)
   | _ => none
def eN (t : EqT) (neg : Bool) (rd : Rd) (x y : DV) : Option DV := (dEq rd t x y).bind λ b => fA (bif neg then !b else b)
def aDy (neg : Bool) (s : EqS) (rd : Rd) (x y : DV) : Option DV := match x, y with
   | .agg xs, .agg ys => (qS rd s xs ys).bind λ b => fA (bif neg then !b else b)
   | _, _ => none
def nE (x : DV) : Option DV := match x with
   | .bool b => fA (!b)
   | _ => none
def aKG (x : DV) : Option DV := match x with
   | .int k n => jE k (0 - n)
   | _ => none
def fG (k : IntKind) (x : DV) : Option DV := match x with
   | .int _ n => jE k n
   | _ => none
def aHE (x : DV) : Option DV := match x with
   | .str s => some (.str s)
   | _ => none
def mJ (rd : Rd) (x : DV) : Option DV := match x with
   | .nils => some (.str [])
   | .slE _ _ _ => some (.str [])
   | .slc b o len _ _ => ((nK rd b o len).bind nC).bind xP
   | _ => none
def aF (rd : Rd) (x : DV) : Option DV := match x with
   | .ptr b o => aIk rd b o
   | _ => none
def aJ (n : Nat) (rd : Rd) (x : DV) : Option DV := match x with
   | .ptr b o => (nK rd b o n).map .agg
   | _ => none
def aW (x : DV) : Option DV := match x with
   | .ptr b o => some (.ptr b o)
   | _ => none
def aH (off : Nat) (x : DV) : Option DV := match x with
   | .ptr b o => eE (o + off) λ o => some (.ptr b o)
   | _ => none
def aQB (off n : Nat) (agg : Bool) (x : DV) : Option DV := match x with
   | .agg cs => bif agg then (bif Nat.ble (off + n) cs.length then some (.agg ((cs.drop off).take n)) else none) else cs[off]?
   | _ => none
def nZ (len es : Nat) (x i : DV) : Option DV := match x with
   | .ptr b o => pR len i λ n => eE (o + n * es) λ o => some (.ptr b o)
   | _ => none
def cC (es : Nat) (x i : DV) : Option DV := match x with
   | .slc b o len _ _ => pR len i λ n => eE (o + n * es) λ o => some (.ptr b o)
   | _ => none
def aCm (len es : Nat) (agg : Bool) (x i : DV) : Option DV := match x with
   | .agg cs => pR len i λ n => bif agg then (bif Nat.ble (n * es + es) cs.length then some (.agg ((cs.drop (n * es)).take es)) else none) else cs[n * es]?
   | _ => none
def gR (x i : DV) : Option DV := match x with
   | .str s => pR s.length i λ n => (s[n]?).map λ b => .int .u8 (.ofNat b)
   | _ => none
def gV (x : DV) (lo hi : Option DV) : Option DV := match x with
   | .str s => dJ s.length s.length lo hi λ l h => xP ((s.take h).drop l)
   | _ => none
def dO (es : Nat) (x : DV) (lo hi : Option DV) : Option DV := match x with
   | .nils => dJ 0 0 lo hi λ l h => some .nils
   | .slc b o len cap op => dJ len cap lo hi λ l h =>
       bif Nat.blt l cap then (eE (o + l * es) λ o => eE (h - l) λ n => eE (cap - l) λ c => some (.slc b o n c op))
       else bif op then (eE (o + l * es) λ o2 => some (.slE b o o2)) else some (.slc b o 0 0 false)
   | .slE b o o2 => dJ 0 0 lo hi λ l h => some (.slE b o o2)
   | _ => none
def aQw (n es : Nat) (x : DV) (lo hi : Option DV) : Option DV := match x with
   | .ptr b o => dJ n n lo hi λ l h =>
       bif Nat.blt l n then (eE (o + l * es) λ o => eE (h - l) λ m => eE (n - l) λ c => some (.slc b o m c false))
       else some (.slc b o 0 0 false)
   | _ => none
def aG (i : Nat) (x : DV) : Option DV := match x with
   | .tup vs => vs[i]?
   | _ => none
def cA (x : DV) : Option DV := match x with
   | .str s => eE s.length λ n => some (.int .i64 (.ofNat n))
   | _ => none
def bX (x : DV) : Option DV := match x with
   | .nils => some (.int .i64 (.ofNat 0))
   | .slc _ _ n _ _ => some (.int .i64 (.ofNat n))
   | .slE _ _ _ => some (.int .i64 (.ofNat 0))
   | _ => none
abbrev aDz (x : DV) : Option DV := aRq x
abbrev aKF (rd : Rd) (x y : DV) : Option DV := aIL rd x y
def aHF (rd : Rd) (x : DV) : Option DV := match x with
   | .nilm => some (.int .i64 (.ofNat 0))
   | .mp b => match rd b with
     | some (.map es _) => eE es.length λ n => some (.int .i64 (.ofNat n))
     | _ => none
   | _ => none
def zS (a b : DV) : Option DV := match a, b with
   | .int k x, .int k' y => some (.int k (bif iLt y x then y else x))
   | _, _ => none
def aAT (a b : DV) : Option DV := match a, b with
   | .int k x, .int k' y => some (.int k (bif iLt x y then y else x))
   | _, _ => none
def dL (zero : List DV) (parts : List (Nat × Nat × DV)) : Option DV := (gX zero parts).map .agg
def mI (t : Nat) (zero : DV) (ok : Bool) (x : DV) : Option DV := match x with
   | .nili => bif ok then some (.tup [zero, .bool false]) else none
   | .ifc u v => bif Nat.beq u t then some (bif ok then .tup [v, .bool true] else v) else bif ok then some (.tup [zero, .bool false]) else none
   | _ => none
section
variable {R : Type}
def dN (n es : Nat) (z : Zs) (h : H) (k : DV -> H -> Option R) : Option R := h.pushK (.blk ⟨n, es, false, true, z.tr⟩) λ h' => k (.ptr h.size 0) h'
def dP (x : DV) (h : H) (k : DV -> H -> Option R) : Option R := eE x.cells.length λ n => h.pushK (.blk ⟨n, n, false, true, Tr.ofL x.cells⟩) λ h' => k (.ptr h.size 0) h'
def fT (n es : Nat) (zero : List DV) (parts : List (Nat × Nat × DV)) (h : H) (k : DV -> H -> Option R) : Option R :=
 (gX (gO zero n) parts).bind λ cs => h.pushK (.blk ⟨n * es, es, false, true, Tr.ofL cs⟩) λ h' => k (.slc h.size 0 n n false) h'
def tQ (es bytes : Nat) (zero : DV) (l c : DV) (h : H) (k : DV -> H -> Option R) : Option R := match l, c with
   | .int _ (.ofNat l), .int _ (.ofNat c) =>
     bif Nat.ble l c && Nat.blt (bytes * c) 140737488355328 && Nat.blt c 140737488355328 then
       h.pushK (.blk ⟨c, 1, false, true, Tr.full zero 48⟩) λ h' => k (.slc h.size 0 l c false) h'
     else none
   | _, _ => none
def aVG (h : H) (k : DV -> H -> Option R) : Option R := h.pushK (.map [] 0) λ h' => k (.mp h.size) h'
def aGQ (x : DV) (h : H) (k : DV -> H -> Option R) : Option R := match x with
   | .str s => eE s.length λ n => h.pushK (.blk ⟨n, 1, false, false, Tr.ofL (s.map λ b => .int .u8 (.ofNat b))⟩) λ h' => k (.slc h.size 0 n n true) h'
   | _ => none
end
end Go.DI
namespace Go.DI
open Go.RowKit
abbrev Rg := Pa -> DV
def e2 (σ : Rg) (x : bM) : DV := bM.rec (motive := λ _ => DV) (λ p => σ p) (λ v => v) x
def fset (p : Pa) (v : DV) (σ : Rg) : Rg := λ q => Bool.rec (σ q) v (yG q p)
def reg (ρ : Tr DV) : Rg := λ p => ev ρ (.r p)
theorem aWw (ρ : Tr DV) (x : bM) : e2 (reg ρ) x = ev ρ x := by cases x <;> rfl
theorem cV (ρ : Tr DV) : e2 (reg ρ) = ev ρ := funext (aWw ρ)
theorem aZv (ρ : Tr DV) (p : Pa) (v : DV) : reg (Tr.set v p ρ) = fset p v (reg ρ) := by
 funext q
 unfold reg fset; rw [yP]; by_cases h : q = p
 · subst h; rw [if_pos rfl, wJ]
 · rw [if_neg h]; cases e : yG q p with
   | true => exact absurd (jO e) h
   | false => rfl
section
variable {R : Type}
abbrev bNT (σ : Rg) (h : H) (k : DV -> H -> Option R) : Option R := none
abbrev bNx (q : Prm) (x y : bM) (σ : Rg) (h : H) (k : DV -> H -> Option R) : Option R := vK (aQy q (e2 σ x) (e2 σ y)) λ v => k v h
abbrev bNF (kt : zI) (z : DV) (ok : Bool) (x y : bM) (σ : Rg) (h : H) (k : DV -> H -> Option R) : Option R := vK (aQA kt z ok h.get (e2 σ x) (e2 σ y)) λ v => k v h
abbrev bNt (es : Nat) (x : bM) (lo : Option bM) (hi mx : bM) (σ : Rg) (h : H) (k : DV -> H -> Option R) : Option R := vK (xS es (e2 σ x) (lo.map (e2 σ)) (e2 σ hi) (e2 σ mx)) λ v => k v h
abbrev bDY (c a b : bM) (σ : Rg) (h : H) (k : DV -> H -> Option R) : Option R := vK (bF (e2 σ c) (e2 σ a) (e2 σ b)) λ v => k v h
abbrev bNS (op : BinOp) (x y : bM) (σ : Rg) (h : H) (k : DV -> H -> Option R) : Option R := vK (aQC op (e2 σ x) (e2 σ y)) λ v => k v h
abbrev bNN (t : EqT) (neg : Bool) (x y : bM) (σ : Rg) (h : H) (k : DV -> H -> Option R) : Option R := vK (eN t neg h.get (e2 σ x) (e2 σ y)) λ v => k v h
abbrev bNO (neg : Bool) (s : EqS) (x y : bM) (σ : Rg) (h : H) (k : DV -> H -> Option R) : Option R := vK (aDy neg s h.get (e2 σ x) (e2 σ y)) λ v => k v h
abbrev bNz (x : bM) (σ : Rg) (h : H) (k : DV -> H -> Option R) : Option R := vK (nE (e2 σ x)) λ v => k v h
abbrev bNA (x : bM) (σ : Rg) (h : H) (k : DV -> H -> Option R) : Option R := vK (aKG (e2 σ x)) λ v => k v h
abbrev bEd (q : IntKind) (x : bM) (σ : Rg) (h : H) (k : DV -> H -> Option R) : Option R := vK (fG q (e2 σ x)) λ v => k v h
abbrev bDX (x : bM) (σ : Rg) (h : H) (k : DV -> H -> Option R) : Option R := vK (aHE (e2 σ x)) λ v => k v h
abbrev bNU (x : bM) (σ : Rg) (h : H) (k : DV -> H -> Option R) : Option R := vK (mJ h.get (e2 σ x)) λ v => k v h
abbrev o_ld (x : bM) (σ : Rg) (h : H) (k : DV -> H -> Option R) : Option R := vK (aF h.get (e2 σ x)) λ v => k v h
abbrev bNG (n : Nat) (x : bM) (σ : Rg) (h : H) (k : DV -> H -> Option R) : Option R := vK (aJ n h.get (e2 σ x)) λ v => k v h
abbrev aVE (x : bM) (σ : Rg) (h : H) (k : DV -> H -> Option R) : Option R := vK (aW (e2 σ x)) λ v => k v h
abbrev o_fa (off : Nat) (x : bM) (σ : Rg) (h : H) (k : DV -> H -> Option R) : Option R := vK (aH off (e2 σ x)) λ v => k v h
abbrev bNL (off n : Nat) (agg : Bool) (x : bM) (σ : Rg) (h : H) (k : DV -> H -> Option R) : Option R := vK (aQB off n agg (e2 σ x)) λ v => k v h
abbrev bNK (len es : Nat) (x i : bM) (σ : Rg) (h : H) (k : DV -> H -> Option R) : Option R := vK (nZ len es (e2 σ x) (e2 σ i)) λ v => k v h
abbrev bNJ (es : Nat) (x i : bM) (σ : Rg) (h : H) (k : DV -> H -> Option R) : Option R := vK (cC es (e2 σ x) (e2 σ i)) λ v => k v h
abbrev bNI (len es : Nat) (agg : Bool) (x i : bM) (σ : Rg) (h : H) (k : DV -> H -> Option R) : Option R := vK (aCm len es agg (e2 σ x) (e2 σ i)) λ v => k v h
abbrev bNH (x i : bM) (σ : Rg) (h : H) (k : DV -> H -> Option R) : Option R := vK (gR (e2 σ x) (e2 σ i)) λ v => k v h
abbrev bNs (x : bM) (lo hi : Option bM) (σ : Rg) (h : H) (k : DV -> H -> Option R) : Option R := vK (gV (e2 σ x) (lo.map (e2 σ)) (hi.map (e2 σ))) λ v => k v h
abbrev bNu (es : Nat) (x : bM) (lo hi : Option bM) (σ : Rg) (h : H) (k : DV -> H -> Option R) : Option R := vK (dO es (e2 σ x) (lo.map (e2 σ)) (hi.map (e2 σ))) λ v => k v h
abbrev bNv (n es : Nat) (x : bM) (lo hi : Option bM) (σ : Rg) (h : H) (k : DV -> H -> Option R) : Option R := vK (aQw n es (e2 σ x) (lo.map (e2 σ)) (hi.map (e2 σ))) λ v => k v h
abbrev bNM (i : Nat) (x : bM) (σ : Rg) (h : H) (k : DV -> H -> Option R) : Option R := vK (aG i (e2 σ x)) λ v => k v h
abbrev bDZ (x : bM) (σ : Rg) (h : H) (k : DV -> H -> Option R) : Option R := vK (cA (e2 σ x)) λ v => k v h
abbrev bEb (x : bM) (σ : Rg) (h : H) (k : DV -> H -> Option R) : Option R := vK (bX (e2 σ x)) λ v => k v h
abbrev bEa (x : bM) (σ : Rg) (h : H) (k : DV -> H -> Option R) : Option R := vK (aHF h.get (e2 σ x)) λ v => k v h
abbrev bEe (x : bM) (σ : Rg) (h : H) (k : DV -> H -> Option R) : Option R := vK (aDz (e2 σ x)) λ v => k v h
abbrev bNy (x y : bM) (σ : Rg) (h : H) (k : DV -> H -> Option R) : Option R := vK (aKF h.get (e2 σ x) (e2 σ y)) λ v => k v h
abbrev o_mn (a b : bM) (σ : Rg) (h : H) (k : DV -> H -> Option R) : Option R := vK (zS (e2 σ a) (e2 σ b)) λ v => k v h
abbrev o_mx (a b : bM) (σ : Rg) (h : H) (k : DV -> H -> Option R) : Option R := vK (aAT (e2 σ a) (e2 σ b)) λ v => k v h
abbrev bNR (zero : List DV) (parts : List (Nat × Nat × bM)) (σ : Rg) (h : H) (k : DV -> H -> Option R) : Option R := vK (dL zero (parts.map λ p => (p.1, p.2.1, e2 σ p.2.2))) λ v => k v h
abbrev bNr (t : Nat) (zero : DV) (ok : Bool) (x : bM) (σ : Rg) (h : H) (k : DV -> H -> Option R) : Option R := vK (mI t zero ok (e2 σ x)) λ v => k v h
abbrev o_mv (x : bM) (σ : Rg) (h : H) (k : DV -> H -> Option R) : Option R := k (e2 σ x) h
abbrev bND (t : Nat) (x : bM) (σ : Rg) (h : H) (k : DV -> H -> Option R) : Option R := k (.ifc t (e2 σ x)) h
abbrev bNE (f : Fn) (a c : List bM) (σ : Rg) (h : H) (k : DV -> H -> Option R) : Option R := k (.fn f (a.map (e2 σ)) (c.map (e2 σ))) h
abbrev bEc (n : Nat) (σ : Rg) (h : H) (k : DV -> H -> Option R) : Option R := k (.int .i64 (.ofNat n)) h
abbrev bNV (n es : Nat) (z : Zs) (σ : Rg) (h : H) (k : DV -> H -> Option R) : Option R := dN n es z h k
abbrev bNQ (x : bM) (σ : Rg) (h : H) (k : DV -> H -> Option R) : Option R := dP (e2 σ x) h k
abbrev bNP (n es : Nat) (zero : List DV) (parts : List (Nat × Nat × bM)) (σ : Rg) (h : H) (k : DV -> H -> Option R) : Option R := fT n es zero (parts.map λ p => (p.1, p.2.1, e2 σ p.2.2)) h k
abbrev bNB (es bytes : Nat) (zero : DV) (l c : bM) (σ : Rg) (h : H) (k : DV -> H -> Option R) : Option R := tQ es bytes zero (e2 σ l) (e2 σ c) h k
abbrev bNC  (σ : Rg) (h : H) (k : DV -> H -> Option R) : Option R := aVG h k
abbrev bNw (x : bM) (σ : Rg) (h : H) (k : DV -> H -> Option R) : Option R := aGQ (e2 σ x) h k
abbrev aZE (d : EOp) : Rg -> H -> (DV -> H -> Option R) -> Option R :=
 EOp.rec (motive := λ _ => Rg -> H -> (DV -> H -> Option R) -> Option R) bNT bNx bNF bNt o_mv bDY bNS bNN bNO bNz bNA bEd bDX bNU bND bNE o_ld bNG aVE o_fa bNL bNK bNJ bNI bNH bNs bNu bNv bNM bDZ bEb bEa bEe bNy bEc o_mn o_mx bNR bNr bNV bNQ bNP bNB bNC bNw d
end
def bCL (q : Prm) (x y : bM) (σ : Rg) (rd : Rd) : Option DV := aQy q (e2 σ x) (e2 σ y)
def bCR (kt : zI) (z : DV) (ok : Bool) (x y : bM) (σ : Rg) (rd : Rd) : Option DV := aQA kt z ok rd (e2 σ x) (e2 σ y)
def bCI (es : Nat) (x : bM) (lo : Option bM) (hi mx : bM) (σ : Rg) (rd : Rd) : Option DV := xS es (e2 σ x) (lo.map (e2 σ)) (e2 σ hi) (e2 σ mx)
def aVV (c a b : bM) (σ : Rg) (rd : Rd) : Option DV := bF (e2 σ c) (e2 σ a) (e2 σ b)
def bDc (op : BinOp) (x y : bM) (σ : Rg) (rd : Rd) : Option DV := aQC op (e2 σ x) (e2 σ y)
def bCZ (t : EqT) (neg : Bool) (x y : bM) (σ : Rg) (rd : Rd) : Option DV := eN t neg rd (e2 σ x) (e2 σ y)
def bDa (neg : Bool) (s : EqS) (x y : bM) (σ : Rg) (rd : Rd) : Option DV := aDy neg s rd (e2 σ x) (e2 σ y)
def bCN (x : bM) (σ : Rg) (rd : Rd) : Option DV := nE (e2 σ x)
def bCO (x : bM) (σ : Rg) (rd : Rd) : Option DV := aKG (e2 σ x)
def aWa (q : IntKind) (x : bM) (σ : Rg) (rd : Rd) : Option DV := fG q (e2 σ x)
def aVU (x : bM) (σ : Rg) (rd : Rd) : Option DV := aHE (e2 σ x)
def bDd (x : bM) (σ : Rg) (rd : Rd) : Option DV := mJ rd (e2 σ x)
def g_ld (x : bM) (σ : Rg) (rd : Rd) : Option DV := aF rd (e2 σ x)
def bCS (n : Nat) (x : bM) (σ : Rg) (rd : Rd) : Option DV := aJ n rd (e2 σ x)
def aLQ (x : bM) (σ : Rg) (rd : Rd) : Option DV := aW (e2 σ x)
def g_fa (off : Nat) (x : bM) (σ : Rg) (rd : Rd) : Option DV := aH off (e2 σ x)
def bCX (off n : Nat) (agg : Bool) (x : bM) (σ : Rg) (rd : Rd) : Option DV := aQB off n agg (e2 σ x)
def bCW (len es : Nat) (x i : bM) (σ : Rg) (rd : Rd) : Option DV := nZ len es (e2 σ x) (e2 σ i)
def bCV (es : Nat) (x i : bM) (σ : Rg) (rd : Rd) : Option DV := cC es (e2 σ x) (e2 σ i)
def bCU (len es : Nat) (agg : Bool) (x i : bM) (σ : Rg) (rd : Rd) : Option DV := aCm len es agg (e2 σ x) (e2 σ i)
def bCT (x i : bM) (σ : Rg) (rd : Rd) : Option DV := gR (e2 σ x) (e2 σ i)
def bCH (x : bM) (lo hi : Option bM) (σ : Rg) (rd : Rd) : Option DV := gV (e2 σ x) (lo.map (e2 σ)) (hi.map (e2 σ))
def bCJ (es : Nat) (x : bM) (lo hi : Option bM) (σ : Rg) (rd : Rd) : Option DV := dO es (e2 σ x) (lo.map (e2 σ)) (hi.map (e2 σ))
def bCK (n es : Nat) (x : bM) (lo hi : Option bM) (σ : Rg) (rd : Rd) : Option DV := aQw n es (e2 σ x) (lo.map (e2 σ)) (hi.map (e2 σ))
def bCY (i : Nat) (x : bM) (σ : Rg) (rd : Rd) : Option DV := aG i (e2 σ x)
def aVW (x : bM) (σ : Rg) (rd : Rd) : Option DV := cA (e2 σ x)
def aVY (x : bM) (σ : Rg) (rd : Rd) : Option DV := bX (e2 σ x)
def aVX (x : bM) (σ : Rg) (rd : Rd) : Option DV := aHF rd (e2 σ x)
def aWb (x : bM) (σ : Rg) (rd : Rd) : Option DV := aDz (e2 σ x)
def bCM (x y : bM) (σ : Rg) (rd : Rd) : Option DV := aKF rd (e2 σ x) (e2 σ y)
def g_mn (a b : bM) (σ : Rg) (rd : Rd) : Option DV := zS (e2 σ a) (e2 σ b)
def g_mx (a b : bM) (σ : Rg) (rd : Rd) : Option DV := aAT (e2 σ a) (e2 σ b)
def bDb (zero : List DV) (parts : List (Nat × Nat × bM)) (σ : Rg) (rd : Rd) : Option DV := dL zero (parts.map λ p => (p.1, p.2.1, e2 σ p.2.2))
def bCG (t : Nat) (zero : DV) (ok : Bool) (x : bM) (σ : Rg) (rd : Rd) : Option DV := mI t zero ok (e2 σ x)
def g_mv (x : bM) (σ : Rg) (rd : Rd) : Option DV := some (e2 σ x)
def bCP (t : Nat) (x : bM) (σ : Rg) (rd : Rd) : Option DV := some (.ifc t (e2 σ x))
def bCQ (f : Fn) (a c : List bM) (σ : Rg) (rd : Rd) : Option DV := some (.fn f (a.map (e2 σ)) (c.map (e2 σ)))
def aVZ (n : Nat) (σ : Rg) (rd : Rd) : Option DV := some (.int .i64 (.ofNat n))
def bOk (n es : Nat) (z : Zs) (σ : Rg) (rd : Rd) : Option DV := none
def bOi (x : bM) (σ : Rg) (rd : Rd) : Option DV := none
def bOh (n es : Nat) (zero : List DV) (parts : List (Nat × Nat × bM)) (σ : Rg) (rd : Rd) : Option DV := none
def bOd (es bytes : Nat) (zero : DV) (l c : bM) (σ : Rg) (rd : Rd) : Option DV := none
def bOe  (σ : Rg) (rd : Rd) : Option DV := none
def bNZ (x : bM) (σ : Rg) (rd : Rd) : Option DV := none
def bOj  (σ : Rg) (rd : Rd) : Option DV := none
def eT (d : EOp) : Rg -> Rd -> Option DV :=
 EOp.rec (motive := λ _ => Rg -> Rd -> Option DV) bOj bCL bCR bCI g_mv aVV bDc bCZ bDa bCN bCO aWa aVU bDd bCP bCQ g_ld bCS aLQ g_fa bCX bCW bCV bCU bCT bCH bCJ bCK bCY aVW aVY aVX aWb bCM aVZ g_mn g_mx bDb bCG bOk bOi bOh bOd bOe bNZ d
def aRh : EOp -> Bool
 | .alc _ _ _ | .box _ | .bsl _ _ _ _ | .mks _ _ _ _ _ | .mkm | .s2b _ | .bad => true
 | _ => false
theorem aZU (q : Prm) (x y : bM) (ρ : Tr DV) (rd : Rd) : dH (.prm q x y) ρ rd = (aQy q (ev ρ x) (ev ρ y)).map .val := by
 simp only [dH, aQy]; generalize ev ρ x = x'; generalize ev ρ y = y'; cases x' <;> (try (cases q <;> rfl))
 cases y' <;> (try (cases q <;> rfl))
 rename_i s kk n; cases kk <;> (try (cases q <;> rfl))
 cases n <;> (try (cases q <;> rfl))
 rename_i c; cases q
 · show (bif Nat.blt c 256 then _ else none) = (bif Nat.blt c 256 then _ else none : Option DV).map _; cases Nat.blt c 256 <;> simp only [cond_false, cond_true, oH] <;> rfl
 · show (bif Nat.blt c 256 then _ else none) = (bif Nat.blt c 256 then _ else none : Option DV).map _; cases Nat.blt c 256 <;> simp only [cond_false, cond_true, aZ] <;> rfl
theorem bAa (kt : zI) (z : DV) (ok : Bool) (x y : bM) (ρ : Tr DV) (rd : Rd) : dH (.lkp kt z ok x y) ρ rd = (aQA kt z ok rd (ev ρ x) (ev ρ y)).map .val := by
 simp only [dH, aQA, Option.map_map]
 congr 1; funext r; cases r <;> rfl
theorem aZQ (es : Nat) (x : bM) (lo : Option bM) (hi mx : bM) (ρ : Tr DV) (rd : Rd) : dH (.slM es x lo hi mx) ρ rd = (xS es (ev ρ x) (lo.map (ev ρ)) (ev ρ hi) (ev ρ mx)).map .val := by
 simp only [dH, xS]; generalize ev ρ x = x'; generalize ev ρ hi = hi'; generalize ev ρ mx = mx'; cases mx' <;> try rfl
 rename_i k n; cases n <;> try rfl
 rename_i n; cases x' <;> try rfl
 · show (bif Nat.beq n 0 then _ else none) = (bif Nat.beq n 0 then _ else none : Option DV).map _; cases Nat.beq n 0 <;> rfl
 · rename_i a b c d e; show (bif Nat.ble n d then _ else none) = (bif Nat.ble n d then _ else none : Option DV).map _; cases Nat.ble n d <;> rfl
theorem aWo (c a b : bM) (ρ : Tr DV) (rd : Rd) : dH (.pick c a b) ρ rd = (bF (ev ρ c) (ev ρ a) (ev ρ b)).map .val := by
 simp only [dH, bF]; generalize ev ρ c = c'; generalize ev ρ a = a'; generalize ev ρ b = b'; cases c' <;> try rfl
 rename_i t; cases t <;> rfl
theorem bAl (op : BinOp) (x y : bM) (ρ : Tr DV) (rd : Rd) : dH (.bin op x y) ρ rd = (aQC op (ev ρ x) (ev ρ y)).map .val := by
 rw [aUN]; rfl
theorem bAi (t : EqT) (neg : Bool) (x y : bM) (ρ : Tr DV) (rd : Rd) : dH (.eqv t neg x y) ρ rd = (eN t neg rd (ev ρ x) (ev ρ y)).map .val := by
 rfl
theorem bAj (neg : Bool) (s : EqS) (x y : bM) (ρ : Tr DV) (rd : Rd) : dH (.eqs neg s x y) ρ rd = (aDy neg s rd (ev ρ x) (ev ρ y)).map .val := by
 simp only [dH, aDy]; generalize ev ρ x = x'; generalize ev ρ y = y'; cases x' <;> cases y' <;> rfl
theorem aZW (x : bM) (ρ : Tr DV) (rd : Rd) : dH (.not x) ρ rd = (nE (ev ρ x)).map .val := by
 simp only [dH, nE, cG, cH]; generalize ev ρ x = x'; cases x' <;> rfl
theorem aZX (x : bM) (ρ : Tr DV) (rd : Rd) : dH (.neg x) ρ rd = (aKG (ev ρ x)).map .val := by
 simp only [dH, aKG, cG, cH]; generalize ev ρ x = x'; cases x' <;> rfl
theorem aWt (q : IntKind) (x : bM) (ρ : Tr DV) (rd : Rd) : dH (.conv q x) ρ rd = (fG q (ev ρ x)).map .val := by
 simp only [dH, fG, cG, cH]; generalize ev ρ x = x'; cases x' <;> rfl
theorem aWn (x : bM) (ρ : Tr DV) (rd : Rd) : dH (.same x) ρ rd = (aHE (ev ρ x)).map .val := by
 simp only [dH, aHE, cG, cH]; generalize ev ρ x = x'; cases x' <;> rfl
theorem bAm (x : bM) (ρ : Tr DV) (rd : Rd) : dH (.b2s x) ρ rd = (mJ rd (ev ρ x)).map .val := by
 simp only [dH, mJ, cG, cH]; generalize ev ρ x = x'; cases x' <;> rfl
theorem bEq (x : bM) (ρ : Tr DV) (rd : Rd) : dH (.ld x) ρ rd = (aF rd (ev ρ x)).map .val := by
 simp only [dH, aF, cG, cH]; generalize ev ρ x = x'; cases x' <;> rfl
theorem bAb (n : Nat) (x : bM) (ρ : Tr DV) (rd : Rd) : dH (.ldN n x) ρ rd = (aJ n rd (ev ρ x)).map .val := by
 simp only [dH, aJ, cG, cH]; generalize ev ρ x = x'; cases x' <;> rfl
theorem aOR (x : bM) (ρ : Tr DV) (rd : Rd) : dH (.nilchk x) ρ rd = (aW (ev ρ x)).map .val := by
 simp only [dH, aW, cG, cH]; generalize ev ρ x = x'; cases x' <;> rfl
theorem bEr (off : Nat) (x : bM) (ρ : Tr DV) (rd : Rd) : dH (.fa off x) ρ rd = (aH off (ev ρ x)).map .val := by
 simp only [dH, aH, aZ]; generalize ev ρ x = x'; cases x' <;> rfl
theorem bAg (off n : Nat) (agg : Bool) (x : bM) (ρ : Tr DV) (rd : Rd) : dH (.fld off n agg x) ρ rd = (aQB off n agg (ev ρ x)).map .val := by
 simp only [dH, aQB]; generalize ev ρ x = x'; cases x' <;> try rfl
 rename_i cs; cases agg <;> try rfl
 show (bif Nat.ble (off + n) cs.length then _ else none) = (bif Nat.ble (off + n) cs.length then _ else none : Option DV).map _; cases Nat.ble (off + n) cs.length <;> rfl
theorem bAf (len es : Nat) (x i : bM) (ρ : Tr DV) (rd : Rd) : dH (.iaA len es x i) ρ rd = (nZ len es (ev ρ x) (ev ρ i)).map .val := by
 simp only [dH, nZ, cG, cH]; generalize ev ρ x = x'; generalize ev ρ i = i'; cases x' <;> rfl
theorem bAe (es : Nat) (x i : bM) (ρ : Tr DV) (rd : Rd) : dH (.iaS es x i) ρ rd = (cC es (ev ρ x) (ev ρ i)).map .val := by
 simp only [dH, cC, cG, cH]; generalize ev ρ x = x'; generalize ev ρ i = i'; cases x' <;> rfl
theorem bAd (len es : Nat) (agg : Bool) (x i : bM) (ρ : Tr DV) (rd : Rd) : dH (.ixA len es agg x i) ρ rd = (aCm len es agg (ev ρ x) (ev ρ i)).map .val := by
 simp only [dH, aCm, cG, cH]; generalize ev ρ x = x'; generalize ev ρ i = i'; cases x' <;> rfl
theorem bAc (x i : bM) (ρ : Tr DV) (rd : Rd) : dH (.ixS x i) ρ rd = (gR (ev ρ x) (ev ρ i)).map .val := by
 simp only [dH, gR, cG, cH]; generalize ev ρ x = x'; generalize ev ρ i = i'; cases x' <;> rfl
theorem aZP (x : bM) (lo hi : Option bM) (ρ : Tr DV) (rd : Rd) : dH (.slS x lo hi) ρ rd = (gV (ev ρ x) (lo.map (ev ρ)) (hi.map (ev ρ))).map .val := by
 simp only [dH, gV, cG, cH]; generalize ev ρ x = x'; cases x' <;> rfl
theorem aZR (es : Nat) (x : bM) (lo hi : Option bM) (ρ : Tr DV) (rd : Rd) : dH (.slL es x lo hi) ρ rd = (dO es (ev ρ x) (lo.map (ev ρ)) (hi.map (ev ρ))).map .val := by
 simp only [dH, dO, cG, cH]; generalize ev ρ x = x'; cases x' <;> rfl
theorem aZS (n es : Nat) (x : bM) (lo hi : Option bM) (ρ : Tr DV) (rd : Rd) : dH (.slA n es x lo hi) ρ rd = (aQw n es (ev ρ x) (lo.map (ev ρ)) (hi.map (ev ρ))).map .val := by
 simp only [dH, aQw, cG, cH]; generalize ev ρ x = x'; cases x' <;> rfl
theorem bAh (i : Nat) (x : bM) (ρ : Tr DV) (rd : Rd) : dH (.ext i x) ρ rd = (aG i (ev ρ x)).map .val := by
 simp only [dH, aG, cG, cH]; generalize ev ρ x = x'; cases x' <;> rfl
theorem aWp (x : bM) (ρ : Tr DV) (rd : Rd) : dH (.lenS x) ρ rd = (cA (ev ρ x)).map .val := by
 simp only [dH, cA, aZ]; generalize ev ρ x = x'; cases x' <;> rfl
theorem aWr (x : bM) (ρ : Tr DV) (rd : Rd) : dH (.lenL x) ρ rd = (bX (ev ρ x)).map .val := by
 simp only [dH, bX, cG, cH]; generalize ev ρ x = x'; cases x' <;> rfl
theorem aWq (x : bM) (ρ : Tr DV) (rd : Rd) : dH (.lenM x) ρ rd = (aHF rd (ev ρ x)).map .val := by
 simp only [dH, aHF, aZ]; generalize ev ρ x = x'; cases x' <;> try rfl
 rename_i b; simp only []; cases rd b with
 | none => rfl
 | some o => cases o <;> rfl
theorem aWu (x : bM) (ρ : Tr DV) (rd : Rd) : dH (.capL x) ρ rd = (aDz (ev ρ x)).map .val := by
 rfl
theorem aZV (x y : bM) (ρ : Tr DV) (rd : Rd) : dH (.ovl x y) ρ rd = (aKF rd (ev ρ x) (ev ρ y)).map .val := by
 rfl
theorem bEp (a b : bM) (ρ : Tr DV) (rd : Rd) : dH (.mn a b) ρ rd = (zS (ev ρ a) (ev ρ b)).map .val := by
 simp only [dH, zS]; generalize ev ρ a = a'; generalize ev ρ b = b'; cases a' <;> cases b' <;> rfl
theorem bEn (a b : bM) (ρ : Tr DV) (rd : Rd) : dH (.mx a b) ρ rd = (aAT (ev ρ a) (ev ρ b)).map .val := by
 simp only [dH, aAT]; generalize ev ρ a = a'; generalize ev ρ b = b'; cases a' <;> cases b' <;> rfl
theorem bAk (zero : List DV) (parts : List (Nat × Nat × bM)) (ρ : Tr DV) (rd : Rd) : dH (.bld zero parts) ρ rd = (dL zero (parts.map λ p => (p.1, p.2.1, ev ρ p.2.2))).map .val := by
 rfl
theorem aZO (t : Nat) (zero : DV) (ok : Bool) (x : bM) (ρ : Tr DV) (rd : Rd) : dH (.tas t zero ok x) ρ rd = (mI t zero ok (ev ρ x)).map .val := by
 simp only [dH, mI]; generalize ev ρ x = x'; cases x' <;> try rfl
 · cases ok <;> rfl
 · rename_i u v; simp only []; cases Nat.beq u t <;> cases ok <;> rfl
theorem bEo (x : bM) (ρ : Tr DV) (rd : Rd) : dH (.mv x) ρ rd = (some (ev ρ x) : Option DV).map .val := rfl
theorem aZY (t : Nat) (x : bM) (ρ : Tr DV) (rd : Rd) : dH (.mkI t x) ρ rd = (some (.ifc t (ev ρ x)) : Option DV).map .val := rfl
theorem aZZ (f : Fn) (a c : List bM) (ρ : Tr DV) (rd : Rd) : dH (.mkF f a c) ρ rd = (some (.fn f (a.map (ev ρ)) (c.map (ev ρ))) : Option DV).map .val := rfl
theorem aWs (n : Nat) (ρ : Tr DV) (rd : Rd) : dH (.lenA n) ρ rd = (some (.int .i64 (.ofNat n)) : Option DV).map .val := rfl
theorem aHf {d : EOp} (hd : aRh d = false) (ρ : Tr DV) (rd : Rd) : dH d ρ rd = (eT d (reg ρ) rd).map .val := by
 cases d
 · cases hd
 · rw [aZU]; simp only [eT, bCL, cV]
 · rw [bAa]; simp only [eT, bCR, cV]
 · rw [aZQ]; simp only [eT, bCI, cV]
 · rw [bEo]; simp only [eT, g_mv, cV]
 · rw [aWo]; simp only [eT, aVV, cV]
 · rw [bAl]; simp only [eT, bDc, cV]
 · rw [bAi]; simp only [eT, bCZ, cV]
 · rw [bAj]; simp only [eT, bDa, cV]
 · rw [aZW]; simp only [eT, bCN, cV]
 · rw [aZX]; simp only [eT, bCO, cV]
 · rw [aWt]; simp only [eT, aWa, cV]
 · rw [aWn]; simp only [eT, aVU, cV]
 · rw [bAm]; simp only [eT, bDd, cV]
 · rw [aZY]; simp only [eT, bCP, cV]
 · rw [aZZ]; simp only [eT, bCQ, cV]
 · rw [bEq]; simp only [eT, g_ld, cV]
 · rw [bAb]; simp only [eT, bCS, cV]
 · rw [aOR]; simp only [eT, aLQ, cV]
 · rw [bEr]; simp only [eT, g_fa, cV]
 · rw [bAg]; simp only [eT, bCX, cV]
 · rw [bAf]; simp only [eT, bCW, cV]
 · rw [bAe]; simp only [eT, bCV, cV]
 · rw [bAd]; simp only [eT, bCU, cV]
 · rw [bAc]; simp only [eT, bCT, cV]
 · rw [aZP]; simp only [eT, bCH, cV]
 · rw [aZR]; simp only [eT, bCJ, cV]
 · rw [aZS]; simp only [eT, bCK, cV]
 · rw [bAh]; simp only [eT, bCY, cV]
 · rw [aWp]; simp only [eT, aVW, cV]
 · rw [aWr]; simp only [eT, aVY, cV]
 · rw [aWq]; simp only [eT, aVX, cV]
 · rw [aWu]; simp only [eT, aWb, cV]
 · rw [aZV]; simp only [eT, bCM, cV]
 · rw [aWs]; simp only [eT, aVZ, cV]
 · rw [bEp]; simp only [eT, g_mn, cV]
 · rw [bEn]; simp only [eT, g_mx, cV]
 · rw [bAk]; simp only [eT, bDb, cV]
 · rw [aZO]; simp only [eT, bCG, cV]
 · cases hd
 · cases hd
 · cases hd
 · cases hd
 · cases hd
 · cases hd
section
variable {R : Type}
theorem aVC {d : EOp} (hd : aRh d = false) (σ : Rg) (h : H) (k : DV -> H -> Option R) : aZE d σ h k = vK (eT d σ h.get) λ v => k v h := by
 cases d <;> first | (cases hd; done) | rfl
theorem aZD (E : bG) (d : EOp) (ρ : Tr DV) (h : H) (k : DV -> H -> Option R) : aZE d (reg ρ) h k = (odo E (.e d) ρ h).bind λ x => k x.1 x.2 := by
 cases hd : aRh d with
 | false =>
   rw [aVC hd]; simp only [odo, aDh]; rw [aHf hd]; cases eT d (reg ρ) h.get <;> rfl
 | true =>
   simp only [odo, aDh]; cases d <;> first | (cases hd; done) | skip
   · rfl
   · rename_i n es z; simp only [dH, H.pushK_eq, Option.bind_some]; show dN n es z h k = _; simp only [dN, H.pushK_eq]
   · rename_i x; simp only [dH, H.pushK_eq, aZ, Option.bind_some]; show dP (e2 (reg ρ) x) h k = _; simp only [dP, H.pushK_eq, aZ, cV]
   · rename_i n es zero parts; show fT n es zero (parts.map λ p => (p.1, p.2.1, e2 (reg ρ) p.2.2)) h k = _
     simp only [dH, fT, cV]; cases gX (gO zero n) (parts.map λ p => (p.1, p.2.1, ev ρ p.2.2)) with
     | none => rfl
     | some cs => simp only [Option.bind_some, Option.map_some, H.pushK_eq]
   · rename_i es bytes zero l c; show tQ es bytes zero (e2 (reg ρ) l) (e2 (reg ρ) c) h k = _; simp only [dH, tQ, cV]; generalize ev ρ l = l'; generalize ev ρ c = c'; cases l' <;> try rfl
     rename_i k1 n1; cases n1 <;> try rfl
     rename_i n1; cases c' <;> try rfl
     rename_i k2 n2; cases n2 <;> try rfl
     rename_i n2; simp only []; cases (Nat.ble n1 n2 && Nat.blt (bytes * n2) 140737488355328 && Nat.blt n2 140737488355328) with
     | false => rfl
     | true => simp only [cond_true, H.pushK_eq, Option.bind_some]
   · simp only [dH, H.pushK_eq, Option.bind_some]; show aVG h k = _; simp only [aVG, H.pushK_eq]
   · rename_i x; show aGQ (e2 (reg ρ) x) h k = _; simp only [dH, aGQ, cV]; generalize ev ρ x = x'; cases x' <;> try rfl
     simp only [aZ, H.pushK_eq, Option.bind_some]
end
end Go.DI
namespace Go.DI
open Go.RowKit
def kE (E : bG) (f : DV) (args : List DV) (h : H) : Option (DV × H) := match f with
 | .fn (.func g) first captured => aE E g (first ++ args ++ captured) h
 | _ => none
def vH (E : bG) (tbl : List (Nat × Nat)) (x : DV) (args : List DV) (h : H) : Option (DV × H) := match x with
 | .ifc t v => match look t tbl with
   | some f => aE E f (v :: args) h
   | none => none
 | _ => none
def aAo (dst : Option Pa) (v : DV) (σ : Rg) : Rg := Option.rec (motive := λ _ => Rg) σ (λ p => fset p v σ) dst
section
variable {R : Type}
def odoW (d : WOp) : Rg -> H -> (DV -> H -> Option R) -> Option R :=
 WOp.rec (motive := λ _ => Rg -> H -> (DV -> H -> Option R) -> Option R)
   (λ n a x σ h k => wK (bS n (e2 σ a) (e2 σ x) h) k)
   (λ es bytes x y σ h k => wK (cF es bytes (e2 σ x) (e2 σ y) h) k)
   (λ es x y σ h k => wK (lI es (e2 σ x) (e2 σ y) h) k)
   (λ kt x q y σ h k => wK (aWF kt (e2 σ x) (e2 σ q) (e2 σ y) h) k)
   (λ zs x σ h k => wK (vD zs (e2 σ x) h) k)
   (λ x σ h k => wK (aAF (e2 σ x) h) k)
   (λ es bytes zs x y σ h k => wK (aMq es bytes zs (e2 σ x) (e2 σ y) h) k) d
def odoC (E : bG) (d : COp) : Rg -> H -> (DV -> H -> Option R) -> Option R :=
 COp.rec (motive := λ _ => Rg -> H -> (DV -> H -> Option R) -> Option R)
   (λ f args σ h k => wK (aE E f (args.map (e2 σ)) h) k)
   (λ f args σ h k => wK (kE E (e2 σ f) (args.map (e2 σ)) h) k)
   (λ tbl x args σ h k => wK (vH E tbl (e2 σ x) (args.map (e2 σ)) h) k) d
def aVD (E : bG) (d : DOp) : Rg -> H -> (DV -> H -> Option R) -> Option R :=
 DOp.rec (motive := λ _ => Rg -> H -> (DV -> H -> Option R) -> Option R) aZE odoW (odoC E) d
def bT (c : DV) (t : Bool) (op : (DV -> H -> Option R) -> Option R) (h : H) (k : DV -> H -> Option R) : Option R := gK c t (op k) (k (.tup []) h)
def aOQ (E : bG) (g : DG) (σ : Rg) (h : H) (k : Rg -> H -> Option R) : Option R :=
 Option.rec (motive := λ _ => Option R) (aVD E g.op σ h λ v h => k (aAo g.dst v σ) h)
   (λ x => bT (σ x.1) x.2 (λ kk => aVD E g.op σ h kk) h λ v h => k (aAo g.dst v σ) h) g.guard
def aIy (E : bG) (l : List DG) : Rg -> H -> (Rg -> H -> Option R) -> Option R :=
 List.rec (motive := λ _ => Rg -> H -> (Rg -> H -> Option R) -> Option R) (λ σ h k => k σ h) (λ g _ ih σ h k => aOQ E g σ h λ σ h => ih σ h k) l
def gB (c : DV) (t : Bool) (x : Bool) : Bool := match c with
 | .bool c => Bool.rec (Bool.rec x true t) (Bool.rec true x t) c
 | _ => true
def aZx (d : DOp) (dst : Option Pa) (σ : Rg) (h : H) : Bool :=
 DOp.rec (motive := λ _ => Bool) (λ e => Option.rec (motive := λ _ => Bool) false (λ p => tY (eT e σ h.get) (σ p)) dst) (λ _ => false) (λ _ => false) d
def oM (g : DG) (σ : Rg) (h : H) : Bool :=
 Option.rec (motive := λ _ => Bool) (aZx g.op g.dst σ h) (λ x => gB (σ x.1) x.2 (aZx g.op g.dst σ h)) g.guard
def rK (b : Bool) (x : Option R) : Option R := Bool.rec none x b
def reK (pre : List DR) (σ : Rg) (h : H) (x : Option R) (l : Ln) : Option R :=
 List.rec (motive := λ _ => Option R) x (λ q _ ih => rK (Option.rec (motive := λ _ => Bool) false (λ g => oM g σ h) (aAq q pre)) ih) l
def aOP (E : bG) (l : List DR) : List DR -> Rg -> H -> (Rg -> H -> Option R) -> Option R :=
 List.rec (motive := λ _ => List DR -> Rg -> H -> (Rg -> H -> Option R) -> Option R) (λ _ σ h k => k σ h)
   (λ x _ ih pre σ h k => aOQ E x.g σ h λ σ h => reK pre σ h (ih (x :: pre) σ h k) x.re) l
abbrev iF (R : Type) := DX -> Rg -> H -> Option R
def aBa (k : Rg -> H -> Option R) (K : iF R) : iF R := λ x σ h =>
 DX.rec (motive := λ _ => Option R) (k σ h) (λ id => K (.exit id) σ h) (K .ret σ h) x
def aRx (id : Nat) (K : iF R) : iF R := λ x σ h =>
 DX.rec (motive := λ _ => Option R) (K .normal σ h) (λ i => Bool.rec (K (.exit i) σ h) (K .normal σ h) (Nat.beq i id)) (K .ret σ h) x
def aQL (K : iF R) : iF R := λ x σ h =>
 DX.rec (motive := λ _ => Option R) (K .normal σ h) (λ i => Bool.rec none (K (.exit i) σ h) (Nat.blt i 4294967296)) (K .ret σ h) x
def aBm (g : Nat) (k : Rg -> H -> Option R) (K : iF R) : iF R := λ x σ h =>
 DX.rec (motive := λ _ => Option R) (K .normal σ h) (λ i => Bool.rec (Bool.rec none (K (.exit i) σ h) (Nat.blt i 4294967296)) (k σ h) (Nat.beq i g)) (K .ret σ h) x
def yM (body : Rg -> H -> iF R -> Option R) (g : Nat) (K : iF R) (n : Nat) : Rg -> H -> Option R :=
 Nat.rec (motive := λ _ => Rg -> H -> Option R) (λ _ _ => none) (λ _ ih σ h => body σ h (aBm g ih K)) n
def uV (body : Rg -> H -> iF R -> Option R) (K : iF R) (n : Nat) : Rg -> H -> Option R :=
 Nat.rec (motive := λ _ => Rg -> H -> Option R) (λ _ _ => none) (λ _ ih σ h => body σ h (aBa ih K)) n
def jZ (E : bG) (c : DC) : Rg -> H -> iF R -> Option R :=
 DC.rec (motive := λ _ => Rg -> H -> iF R -> Option R)
   (λ σ h K => K .normal σ h)
   (λ l σ h K => aIy E l σ h λ σ h => K .normal σ h)
   (λ _ _ ia ib σ h K => ia σ h (aBa (λ σ h => ib σ h K) K))
   (λ c _ _ ia ib σ h K => bK (e2 σ c) (ia σ h K) (ib σ h K))
   (λ id _ ia σ h K => ia σ h (aRx id K))
   (λ _ ia σ h K => uV ia K aT σ h)
   (λ id σ h K => K (.exit id) σ h)
   (λ σ h K => K .ret σ h)
   (λ _ ia σ h K => ia σ h (aQL K))
   (λ l σ h K => aOP E l [] σ h λ σ h => K .normal σ h)
   (λ _ _ _ => none)
   (λ g _ _ ia ir σ h K => ia σ h (aBm g (yM ir g K aT) K)) c
end
def rv2 (σ : Rg) (h : H) (r : RV) (k : DV -> Option (DV × H)) : Option (DV × H) :=
 RV.rec (motive := λ _ => Option (DV × H)) (λ p => k (σ p)) (λ p => vK (aF h.get (σ p)) k) (λ p n => vK (aJ n h.get (σ p)) k) r
def aVg (σ : Rg) (h : H) (l : List RV) : (List DV -> Option (DV × H)) -> Option (DV × H) :=
 List.rec (motive := λ _ => (List DV -> Option (DV × H)) -> Option (DV × H)) (λ k => k []) (λ r _ ih k => rv2 σ h r λ v => ih λ vs => k (v :: vs)) l
def aQT (res : List RV) : iF (DV × H) := λ x σ h =>
 DX.rec (motive := λ _ => Option (DV × H)) (aVg σ h res λ vs => some (rD vs, h)) (λ _ => none) (aVg σ h res λ vs => some (rD vs, h)) x
def aNU (E : bG) (d : DF) : cB := λ args h => Bool.rec none (jZ E d.body (reg (Tr.ofL args)) h (aQT d.res)) (Nat.beq args.length d.np)
section
variable {R : Type} {E : bG} {ρ : Tr DV}
theorem aRc (d : DOp) (ρ : Tr DV) (h : H) (k : DV -> H -> Option R) : aVD E d (reg ρ) h k = (odo E d ρ h).bind λ x => k x.1 x.2 := by
 cases d with
 | e d => exact aZD E d ρ h k
 | w d =>
   rw [<- bCr]; cases d <;> (show wK _ k = wK _ k; simp only [odo, wdo, cV, aAE, eW, aBu])
 | c d =>
   rw [<- bCr]; cases d with
   | f f args => show wK (aE E f (args.map (e2 (reg ρ))) h) k = wK (aE E f (args.map (ev ρ)) h) k; rw [cV]
   | v f args => show wK (kE E (e2 (reg ρ) f) (args.map (e2 (reg ρ))) h) k = wK (kE E (ev ρ f) (args.map (ev ρ)) h) k; rw [cV]
   | m tbl x args => show wK (vH E tbl (e2 (reg ρ) x) (args.map (e2 (reg ρ))) h) k = wK (vH E tbl (ev ρ x) (args.map (ev ρ)) h) k; rw [cV]
theorem aVo (dst : Option Pa) (v : DV) (ρ : Tr DV) : reg (sG dst v ρ) = aAo dst v (reg ρ) := by
 cases dst with
 | none => rfl
 | some p => exact aZv ρ p v
theorem bOl (p : Pa) (t : Bool) (a b : Option R) : gK (reg ρ p) t a b = bif fD ρ (some (p, t)) then a else b := by
 show gK (ev ρ (.r p)) t a b = _; unfold fD; simp only []; generalize ev ρ (.r p) = x; cases x <;> try rfl
 rename_i c; cases c <;> cases t <;> rfl
theorem bOm (p : Pa) (t : Bool) (x : Bool) : gB (reg ρ p) t x = bif fD ρ (some (p, t)) then x else true := by
 show gB (ev ρ (.r p)) t x = _; unfold fD; simp only []; generalize ev ρ (.r p) = y; cases y <;> try rfl
 rename_i c; cases c <;> cases t <;> rfl
theorem aHd (g : DG) (h : H) (k : Tr DV -> H -> Option R) (k2 : Rg -> H -> Option R) (hk : ∀ ρ h, k ρ h = k2 (reg ρ) h) : uX E g ρ h k = aOQ E g (reg ρ) h k2 := by
 obtain ⟨dst, guard, op⟩ := g; unfold uX; simp only [pW, hk, aVo]; cases guard with
 | none =>
   show (odo E op ρ h).bind (λ x => k2 (aAo dst x.1 (reg ρ)) x.2) = aVD E op (reg ρ) h λ v h => k2 (aAo dst v (reg ρ)) h
   rw [aRc]
 | some x =>
   obtain ⟨p, t⟩ := x; show _ = gK (reg ρ p) t (aVD E op (reg ρ) h λ v h => k2 (aAo dst v (reg ρ)) h) (k2 (aAo dst (.tup []) (reg ρ)) h)
   rw [bOl, aRc]
theorem aEx : ∀ (l : List DG) (ρ : Tr DV) (h : H) (k : Tr DV -> H -> Option R) (k2 : Rg -> H -> Option R), (∀ ρ h, k ρ h = k2 (reg ρ) h) -> aIz E l ρ h k = aIy E l (reg ρ) h k2
 | [], ρ, h, k, k2, hk => hk ρ h
 | g :: l, ρ, h, k, k2, hk => aHd g h _ (λ σ h => aIy E l σ h k2) λ ρ h => aEx l ρ h k k2 hk
theorem aZw (g : DG) (h : H) : aAi g ρ h = oM g (reg ρ) h := by
 obtain ⟨dst, guard, op⟩ := g; have key : (match op, dst with
     | .e d, some p => match dH d ρ h.get with
       | some (.val v) => pQ v (ev ρ (.r p))
       | _ => false
     | _, _ => false) = aZx op dst (reg ρ) h := by
   cases op with
   | w d => rfl
   | c d => rfl
   | e d =>
     cases dst with
     | none => rfl
     | some p =>
       show _ = tY (eT d (reg ρ) h.get) (reg ρ p); simp only []; cases hd : aRh d with
       | false =>
         rw [aHf hd]; cases eT d (reg ρ) h.get <;> rfl
       | true =>
         have e1 : eT d (reg ρ) h.get = none := by cases d <;> first | (cases hd; done) | rfl
         rw [e1]; show _ = false; split
         · rename_i v hv
           exfalso
           cases d <;> first | (cases hd; done) | skip
           · cases hv
           · cases hv
           · simp only [dH, aZ] at hv; cases hv
           · rename_i a b c d; simp only [dH] at hv; cases hq : gX (gO c a) (d.map λ p => (p.1, p.2.1, ev ρ p.2.2)) with
             | none => rw [hq] at hv; cases hv
             | some cs => rw [hq] at hv; cases hv
           · simp only [dH] at hv; split at hv
             · obtain ⟨_, hv⟩ := bH hv; cases hv
             · cases hv
           · cases hv
           · simp only [dH, aZ] at hv; split at hv <;> cases hv
         · rfl
 unfold aAi oM; cases guard with
 | none => exact key
 | some x =>
   obtain ⟨p, t⟩ := x; show _ = gB (reg ρ p) t (aZx op dst (reg ρ) h); rw [bOm, <- key]
   rfl
theorem aVs (pre : List DR) (h : H) (x : Option R) : ∀ l : Ln, (bif l.all (mX pre ρ h) then x else none) = reK pre (reg ρ) h x l
 | [] => rfl
 | q :: l => by
   show _ = rK (Option.rec (motive := λ _ => Bool) false (λ g => oM g (reg ρ) h) (aAq q pre)) (reK pre (reg ρ) h x l)
   rw [<- aVs pre h x l]; have e : mX pre ρ h q = Option.rec (motive := λ _ => Bool) false (λ g => oM g (reg ρ) h) (aAq q pre) := by
     unfold mX; cases aAq q pre with
     | none => rfl
     | some g => exact aZw g h
   rw [<- e, List.all_cons]; cases mX pre ρ h q <;> rfl
theorem aHc : ∀ (l pre : List DR) (ρ : Tr DV) (h : H) (k : Tr DV -> H -> Option R) (k2 : Rg -> H -> Option R), (∀ ρ h, k ρ h = k2 (reg ρ) h) -> tT E l pre ρ h k = aOP E l pre (reg ρ) h k2
 | [], pre, ρ, h, k, k2, hk => hk ρ h
 | x :: l, pre, ρ, h, k, k2, hk => by
   refine aHd x.g h (λ ρ h => bif x.re.all (mX pre ρ h) then tT E l (x :: pre) ρ h k else none) (λ σ h => reK pre σ h (aOP E l (x :: pre) σ h k2) x.re) λ ρ h => ?_
   rw [<- aHc l (x :: pre) ρ h k k2 hk]; exact aVs pre h _ x.re
theorem aWl : ∀ (d : DC) (ρ : Tr DV) (h : H) (K : KT R) (K2 : iF R), (∀ x ρ h, K x ρ h = K2 x (reg ρ) h) -> uY E d ρ h K = jZ E d (reg ρ) h K2 := by
 intro d
 induction d with
 | skip => intro ρ h K K2 hk; exact hk .normal ρ h
 | reg l => intro ρ h K K2 hk; exact aEx l ρ h _ _ λ ρ h => hk .normal ρ h
 | seq a b iha ihb =>
   intro ρ h K K2 hk; refine iha ρ h _ (aBa (λ σ h => jZ E b σ h K2) K2) λ x ρ h => ?_
   cases x with
   | normal => exact ihb ρ h K K2 hk
   | exit i => exact hk (.exit i) ρ h
   | ret => exact hk .ret ρ h
 | cond c a b iha ihb =>
   intro ρ h K K2 hk; show aDr c a b (uY E a) (uY E b) ρ h K = bK (e2 (DI.reg ρ) c) (jZ E a (DI.reg ρ) h K2) (jZ E b (DI.reg ρ) h K2); rw [<- iha ρ h K K2 hk, <- ihb ρ h K K2 hk, aWw]; unfold aDr bK; cases ev ρ c <;> try rfl
   rename_i t; cases t <;> rfl
 | block id a iha =>
   intro ρ h K K2 hk; refine iha ρ h _ (aRx id K2) λ x ρ h => ?_
   cases x with
   | normal => exact hk .normal ρ h
   | exit i =>
     show (bif Nat.beq i id then K .normal ρ h else K (.exit i) ρ h) = Bool.rec (K2 (.exit i) (DI.reg ρ) h) (K2 .normal (DI.reg ρ) h) (Nat.beq i id); cases Nat.beq i id
     · exact hk (.exit i) ρ h
     · exact hk .normal ρ h
   | ret => exact hk .ret ρ h
 | loop a iha =>
   intro ρ h K K2 hk; show aRg (uY E a) K aT ρ h = uV (jZ E a) K2 aT (DI.reg ρ) h; generalize aT = n
   induction n generalizing ρ h with
   | zero => rfl
   | succ n ih =>
     refine iha ρ h _ (aBa (uV (jZ E a) K2 n) K2) λ x ρ h => ?_
     cases x with
     | normal => exact ih ρ h
     | exit i => exact hk (.exit i) ρ h
     | ret => exact hk .ret ρ h
 | exit id => intro ρ h K K2 hk; exact hk (.exit id) ρ h
 | ret => intro ρ h K K2 hk; exact hk .ret ρ h
 | scope a iha =>
   intro ρ h K K2 hk; refine iha ρ h _ (aQL K2) λ x ρ h => ?_
   cases x with
   | normal => exact hk .normal ρ h
   | exit i =>
     show (bif Nat.blt i 4294967296 then K (.exit i) ρ h else none) = Bool.rec none (K2 (.exit i) (DI.reg ρ) h) (Nat.blt i 4294967296); cases Nat.blt i 4294967296
     · rfl
     · exact hk (.exit i) ρ h
   | ret => exact hk .ret ρ h
 | jump g a r iha ihr =>
   intro ρ h K K2 hk; have jk : ∀ (k : Tr DV -> H -> Option R) (k2 : Rg -> H -> Option R), (∀ ρ h, k ρ h = k2 (DI.reg ρ) h) -> ∀ x ρ h, aLJ g k K x ρ h = aBm g k2 K2 x (DI.reg ρ) h := by
     intro k k2 hkk x ρ h; cases x with
     | normal => exact hk .normal ρ h
     | exit i =>
       show (bif Nat.beq i g then k ρ h else bif Nat.blt i 4294967296 then K (.exit i) ρ h else none) = Bool.rec (Bool.rec none (K2 (.exit i) (DI.reg ρ) h) (Nat.blt i 4294967296)) (k2 (DI.reg ρ) h) (Nat.beq i g); cases Nat.beq i g
       · cases Nat.blt i 4294967296
         · rfl
         · exact hk (.exit i) ρ h
       · exact hkk ρ h
     | ret => exact hk .ret ρ h
   have key : ∀ n ρ h, aGS (uY E r) g K n ρ h = yM (jZ E r) g K2 n (DI.reg ρ) h := by
     intro n
     induction n with
     | zero => intro ρ h; rfl
     | succ n ih => intro ρ h; exact ihr ρ h _ (aBm g (yM (jZ E r) g K2 n) K2) (jk _ _ ih)
   exact iha ρ h _ (aBm g (yM (jZ E r) g K2 aT) K2) (jk _ _ (key aT))
 | drg l => intro ρ h K K2 hk; exact aHc l [] ρ h _ _ λ ρ h => hk .normal ρ h
 | bad => intro ρ h K K2 hk; rfl
theorem aQP (h : H) : ∀ (l : List RV) (k : List DV -> Option (DV × H)), aVg (reg ρ) h l k = (pX ρ h l).bind k
 | [], k => rfl
 | r :: l, k => by
   show rv2 (reg ρ) h r (λ v => aVg (reg ρ) h l λ vs => k (v :: vs)) = _
   simp only [aQP h l]; have e : ∀ q : DV -> Option (DV × H), rv2 (reg ρ) h r q = (aHZ ρ h r).bind q := by
     intro q; cases r with
     | r p => rfl
     | cell p =>
       show vK (aF h.get (ev ρ (.r p))) q = _; rw [bCs]; simp only [aHZ, aF, cG]; generalize ev ρ (.r p) = y; cases y <;> rfl
     | cells p n =>
       show vK (aJ n h.get (ev ρ (.r p))) q = _; rw [bCs]; simp only [aHZ, aJ, cH]; generalize ev ρ (.r p) = y; cases y <;> rfl
   rw [e]; simp only [pX]; cases aHZ ρ h r with
   | none => rfl
   | some v =>
     simp only [Option.bind_some]; cases pX ρ h l <;> rfl
theorem aTv (E : bG) (d : DF) (args : List DV) (h : H) : lU E d args h = aNU E d args h := by
 unfold lU aNU; cases Nat.beq args.length d.np with
 | false => rfl
 | true =>
   show uY E d.body (Tr.ofL args) h (retK d.res) = jZ E d.body (reg (Tr.ofL args)) h (aQT d.res); refine aWl d.body _ h _ _ λ x ρ h => ?_
   have e : ((pX ρ h d.res).map λ vs => (rD vs, h)) = aVg (reg ρ) h d.res λ vs => some (rD vs, h) := by
     rw [aQP]; cases pX ρ h d.res <;> rfl
   cases x with
   | normal => exact e
   | exit i => rfl
   | ret => exact e
end
section
variable {R : Type}
abbrev bNo (d : WOp) : Rg -> H -> (DV -> H -> Option R) -> Option R :=
 WOp.rec (motive := λ _ => Rg -> H -> (DV -> H -> Option R) -> Option R)
   (λ n a x σ h k => wK (bS n (e2 σ a) (e2 σ x) h) k)
   (λ es bytes x y σ h k => wK (cF es bytes (e2 σ x) (e2 σ y) h) k)
   (λ es x y σ h k => wK (lI es (e2 σ x) (e2 σ y) h) k)
   (λ kt x q y σ h k => wK (aWF kt (e2 σ x) (e2 σ q) (e2 σ y) h) k)
   (λ zs x σ h k => wK (vD zs (e2 σ x) h) k)
   (λ x σ h k => wK (aAF (e2 σ x) h) k)
   (λ es bytes zs x y σ h k => wK (aMq es bytes zs (e2 σ x) (e2 σ y) h) k) d
abbrev bNp (E : bG) (d : COp) : Rg -> H -> (DV -> H -> Option R) -> Option R :=
 COp.rec (motive := λ _ => Rg -> H -> (DV -> H -> Option R) -> Option R)
   (λ f args σ h k => wK (aE E f (args.map (e2 σ)) h) k)
   (λ f args σ h k => wK (kE E (e2 σ f) (args.map (e2 σ)) h) k)
   (λ tbl x args σ h k => wK (vH E tbl (e2 σ x) (args.map (e2 σ)) h) k) d
abbrev odo3 (E : bG) (d : DOp) : Rg -> H -> (DV -> H -> Option R) -> Option R :=
 DOp.rec (motive := λ _ => Rg -> H -> (DV -> H -> Option R) -> Option R) aZE bNo (bNp E) d
abbrev aWj (E : bG) (g : DG) (σ : Rg) (h : H) (k : Rg -> H -> Option R) : Option R :=
 Option.rec (motive := λ _ => Option R) (odo3 E g.op σ h λ v h => k (aAo g.dst v σ) h)
   (λ x => bT (σ x.1) x.2 (λ kk => odo3 E g.op σ h kk) h λ v h => k (aAo g.dst v σ) h) g.guard
abbrev aZL (E : bG) (l : List DG) : Rg -> H -> (Rg -> H -> Option R) -> Option R :=
 List.rec (motive := λ _ => Rg -> H -> (Rg -> H -> Option R) -> Option R) (λ σ h k => k σ h) (λ g _ ih σ h k => aWj E g σ h λ σ h => ih σ h k) l
abbrev reK3 (pre : List DR) (σ : Rg) (h : H) (x : Option R) (l : Ln) : Option R :=
 List.rec (motive := λ _ => Option R) x (λ q _ ih => rK (Option.rec (motive := λ _ => Bool) false (λ g => oM g σ h) (aAq q pre)) ih) l
abbrev bEm (E : bG) (l : List DR) : List DR -> Rg -> H -> (Rg -> H -> Option R) -> Option R :=
 List.rec (motive := λ _ => List DR -> Rg -> H -> (Rg -> H -> Option R) -> Option R) (λ _ σ h k => k σ h)
   (λ x _ ih pre σ h k => aWj E x.g σ h λ σ h => reK3 pre σ h (ih (x :: pre) σ h k) x.re) l
abbrev cP (k : Rg -> H -> Option R) (K : iF R) : iF R := λ x σ h =>
 DX.rec (motive := λ _ => Option R) (k σ h) (λ id => K (.exit id) σ h) (K .ret σ h) x
abbrev bV (id : Nat) (K : iF R) : iF R := λ x σ h =>
 DX.rec (motive := λ _ => Option R) (K .normal σ h) (λ i => Bool.rec (K (.exit i) σ h) (K .normal σ h) (Nat.beq i id)) (K .ret σ h) x
abbrev aAa (K : iF R) : iF R := λ x σ h =>
 DX.rec (motive := λ _ => Option R) (K .normal σ h) (λ i => Bool.rec none (K (.exit i) σ h) (Nat.blt i 4294967296)) (K .ret σ h) x
abbrev aVP (g : Nat) (k : Rg -> H -> Option R) (K : iF R) : iF R := λ x σ h =>
 DX.rec (motive := λ _ => Option R) (K .normal σ h) (λ i => Bool.rec (Bool.rec none (K (.exit i) σ h) (Nat.blt i 4294967296)) (k σ h) (Nat.beq i g)) (K .ret σ h) x
abbrev lQ (E : bG) (c : DC) : Rg -> H -> iF R -> Option R :=
 DC.rec (motive := λ _ => Rg -> H -> iF R -> Option R)
   (λ σ h K => K .normal σ h)
   (λ l σ h K => aZL E l σ h λ σ h => K .normal σ h)
   (λ _ _ ia ib σ h K => ia σ h (cP (λ σ h => ib σ h K) K))
   (λ c _ _ ia ib σ h K => bK (e2 σ c) (ia σ h K) (ib σ h K))
   (λ id _ ia σ h K => ia σ h (bV id K))
   (λ _ ia σ h K => uV ia K aT σ h)
   (λ id σ h K => K (.exit id) σ h)
   (λ σ h K => K .ret σ h)
   (λ _ ia σ h K => ia σ h (aAa K))
   (λ l σ h K => bEm E l [] σ h λ σ h => K .normal σ h)
   (λ _ _ _ => none)
   (λ g _ _ ia ir σ h K => ia σ h (aVP g (yM ir g K aT) K)) c
end
abbrev rv3 (σ : Rg) (h : H) (r : RV) (k : DV -> Option (DV × H)) : Option (DV × H) :=
 RV.rec (motive := λ _ => Option (DV × H)) (λ p => k (σ p)) (λ p => vK (aF h.get (σ p)) k) (λ p n => vK (aJ n h.get (σ p)) k) r
abbrev rvs3 (σ : Rg) (h : H) (l : List RV) : (List DV -> Option (DV × H)) -> Option (DV × H) :=
 List.rec (motive := λ _ => (List DV -> Option (DV × H)) -> Option (DV × H)) (λ k => k []) (λ r _ ih k => rv3 σ h r λ v => ih λ vs => k (v :: vs)) l
abbrev bU (res : List RV) : iF (DV × H) := λ x σ h =>
 DX.rec (motive := λ _ => Option (DV × H)) (rvs3 σ h res λ vs => some (rD vs, h)) (λ _ => none) (rvs3 σ h res λ vs => some (rD vs, h)) x
theorem aWk {R : Type} (E : bG) (c : DC) (σ : Rg) (h : H) (K : iF R) : lQ E c σ h K = jZ E c σ h K := by
 induction c generalizing σ h K with
 | skip => rfl
 | reg l => rfl
 | seq a b iha ihb =>
   show lQ E a σ h (cP (λ σ h => lQ E b σ h K) K) = jZ E a σ h (aBa (λ σ h => jZ E b σ h K) K)
   rw [iha, show (λ σ h => lQ E b σ h K) = λ σ h => jZ E b σ h K from funext λ σ => funext λ h => ihb σ h K]
   rfl
 | cond c a b iha ihb =>
   show bK (e2 σ c) (lQ E a σ h K) (lQ E b σ h K) = bK (e2 σ c) (jZ E a σ h K) (jZ E b σ h K); rw [iha, ihb]
 | block id a iha => exact iha σ h _
 | loop a iha =>
   have e : lQ (R := R) E a = jZ E a := funext λ σ => funext λ h => funext λ K => iha σ h K
   show uV (lQ E a) K aT σ h = uV (jZ E a) K aT σ h; rw [e]
 | exit id => rfl
 | ret => rfl
 | scope a iha => exact iha σ h _
 | drg l => rfl
 | bad => rfl
 | jump g a r iha ihr =>
   have e : lQ (R := R) E r = jZ E r := funext λ σ => funext λ h => funext λ K => ihr σ h K
   show lQ E a σ h (aVP g (yM (lQ E r) g K aT) K) = jZ E a σ h (aBm g (yM (jZ E r) g K aT) K); rw [e, iha]; rfl
def Is {R : Type} (E : bG) (c : DC) (K : iF R) (S : Rg -> H -> Option R) : Prop := ∀ σ h, lQ E c σ h K = S σ h
section
variable {R : Type} {E : bG} {K : iF R}
theorem Is.leaf (c : DC) : Is E c K λ σ h => lQ E c σ h K := λ _ _ => rfl
theorem Is.seq {a b : DC} {Sa Sb : Rg -> H -> Option R} (hb : Is E b K Sb) (ha : Is E a (cP Sb K) Sa) : Is E (.seq a b) K Sa := λ σ h => by
 have e : (λ σ h => lQ E b σ h K) = Sb := funext λ σ => funext λ h => hb σ h
 show lQ E a σ h (cP (λ σ h => lQ E b σ h K) K) = _
 rw [e]; exact ha σ h
theorem Is.block {id : Nat} {a : DC} {Sa : Rg -> H -> Option R} (ha : Is E a (bV id K) Sa) : Is E (.block id a) K Sa := ha
theorem Is.scope {a : DC} {Sa : Rg -> H -> Option R} (ha : Is E a (aAa K) Sa) : Is E (.scope a) K Sa := ha
theorem Is.loop {a : DC} (S : Nat -> Rg -> H -> Option R) (h0 : S 0 = λ _ _ => none) (hs : ∀ n, Is E a (cP (S n) K) (S (n + 1))) : Is E (.loop a) K (S aT) := by
 have key : ∀ n, uV (lQ E a) K n = S n := by
   intro n
   induction n with
   | zero => exact h0.symm
   | succ n ih =>
     funext σ h
     show lQ E a σ h (aBa (uV (lQ E a) K n) K) = _; rw [ih]; exact hs n σ h
 exact λ σ h => congrFun (congrFun (key aT) σ) h
theorem Is.as {c : DC} {S T : Rg -> H -> Option R} (h : Is E c K S) (e : ∀ σ m, S σ m = T σ m) : Is E c K T := λ σ m => (h σ m).trans (e σ m)
end
end Go.DI
namespace Go.DI
open Go.RowKit
def a0 {R : Type} (args : List DV) (x : Option R) : Option R := List.rec (motive := λ _ => Option R) x (λ _ _ _ => none) args
def aS {R : Type} (args : List DV) (k : DV -> List DV -> Option R) : Option R := List.rec (motive := λ _ => Option R) none (λ v vs _ => k v vs) args
abbrev aV := Option (DV × H)
theorem Is.fn {E : bG} {d : DF} {S : Rg -> H -> aV} (h : Is E d.body (bU d.res) S) {np : Nat} (hn : d.np = np) (F : cB) (hF : ∀ args h, args.length = np -> S (reg (Tr.ofL args)) h = F args h) (h0 : ∀ args h, args.length ≠ np -> F args h = none) (args : List DV) (m : H) : lU E d args m = F args m := by
 rw [aTv]; unfold aNU; have e0 : ∀ σ m, jZ E d.body σ m (aQT d.res) = S σ m := λ σ m => (aWk E d.body σ m (aQT d.res)).symm.trans (h σ m)
 subst hn; by_cases e : args.length = d.np
 · rw [e, Nat.beq_refl]; exact (e0 _ m).trans (hF args m e)
 · have : Nat.beq args.length d.np = false := by
     cases hb : Nat.beq args.length d.np
     · rfl
     · exact absurd (Nat.eq_of_beq_eq_true hb) e
   rw [this]; exact (h0 args m e).symm
theorem Is.fn0 {E : bG} {d : DF} {S : Rg -> H -> aV} (h : Is E d.body (bU d.res) S) (hn : d.np = 0) (J : H -> aV) (e : ∀ h, S (reg (Tr.ofL [])) h = J h) (args : List DV) (m : H) : lU E d args m = a0 args (J m) :=
 h.fn hn (λ args h => a0 args (J h)) (λ args h hl => by
   match args, hl with
   | [], _ => exact e h) (λ args h hl => by
   match args, hl with
   | [], hl => exact absurd rfl hl
   | _ :: _, _ => rfl) args m
theorem Is.fn1 {E : bG} {d : DF} {S : Rg -> H -> aV} (h : Is E d.body (bU d.res) S) (hn : d.np = 1) (J : DV -> H -> aV) (e : ∀ r0 h, S (reg (Tr.ofL [r0])) h = J r0 h) (args : List DV) (m : H) : lU E d args m = (λ args h => aS args λ r0 args => a0 args (J r0 h)) args m :=
 h.fn hn (λ args h => aS args λ r0 args => a0 args (J r0 h)) (λ args h hl => by
   match args, hl with
   | [r0], _ => exact e r0 h) (λ args h hl => by
   match args, hl with
   | [], _ => rfl
   | [r0], hl => exact absurd rfl hl
   | _ :: _ :: _, _ => rfl) args m
theorem Is.fn2 {E : bG} {d : DF} {S : Rg -> H -> aV} (h : Is E d.body (bU d.res) S) (hn : d.np = 2) (J : DV -> DV -> H -> aV) (e : ∀ r0 r1 h, S (reg (Tr.ofL [r0, r1])) h = J r0 r1 h) (args : List DV) (m : H) : lU E d args m = (λ args h => aS args λ r0 args => aS args λ r1 args => a0 args (J r0 r1 h)) args m :=
 h.fn hn (λ args h => aS args λ r0 args => aS args λ r1 args => a0 args (J r0 r1 h)) (λ args h hl => by
   match args, hl with
   | [r0, r1], _ => exact e r0 r1 h) (λ args h hl => by
   match args, hl with
   | [], _ => rfl
   | [_], _ => rfl
   | [r0, r1], hl => exact absurd rfl hl
   | _ :: _ :: _ :: _, _ => rfl) args m
theorem Is.fn3 {E : bG} {d : DF} {S : Rg -> H -> aV} (h : Is E d.body (bU d.res) S) (hn : d.np = 3) (J : DV -> DV -> DV -> H -> aV) (e : ∀ r0 r1 r2 h, S (reg (Tr.ofL [r0, r1, r2])) h = J r0 r1 r2 h) (args : List DV) (m : H) : lU E d args m = (λ args h => aS args λ r0 args => aS args λ r1 args => aS args λ r2 args => a0 args (J r0 r1 r2 h)) args m :=
 h.fn hn (λ args h => aS args λ r0 args => aS args λ r1 args => aS args λ r2 args => a0 args (J r0 r1 r2 h)) (λ args h hl => by
   match args, hl with
   | [r0, r1, r2], _ => exact e r0 r1 r2 h) (λ args h hl => by
   match args, hl with
   | [], _ => rfl
   | [_], _ => rfl
   | [_, _], _ => rfl
   | [r0, r1, r2], hl => exact absurd rfl hl
   | _ :: _ :: _ :: _ :: _, _ => rfl) args m
theorem Is.fn4 {E : bG} {d : DF} {S : Rg -> H -> aV} (h : Is E d.body (bU d.res) S) (hn : d.np = 4) (J : DV -> DV -> DV -> DV -> H -> aV) (e : ∀ r0 r1 r2 r3 h, S (reg (Tr.ofL [r0, r1, r2, r3])) h = J r0 r1 r2 r3 h) (args : List DV) (m : H) : lU E d args m = (λ args h => aS args λ r0 args => aS args λ r1 args => aS args λ r2 args => aS args λ r3 args => a0 args (J r0 r1 r2 r3 h)) args m :=
 h.fn hn (λ args h => aS args λ r0 args => aS args λ r1 args => aS args λ r2 args => aS args λ r3 args => a0 args (J r0 r1 r2 r3 h)) (λ args h hl => by
   match args, hl with
   | [r0, r1, r2, r3], _ => exact e r0 r1 r2 r3 h) (λ args h hl => by
   match args, hl with
   | [], _ => rfl
   | [_], _ => rfl
   | [_, _], _ => rfl
   | [_, _, _], _ => rfl
   | [r0, r1, r2, r3], hl => exact absurd rfl hl
   | _ :: _ :: _ :: _ :: _ :: _, _ => rfl) args m
structure FD where
 f : Nat
 d : DF
 s : bG -> cB
def wA : List FD -> Prop
 | [] => True
 | x :: l => (∀ E args h, lU E x.d args h = x.s E args h) /\ wA l
theorem wA.mem : ∀ {l : List FD}, wA l -> ∀ x ∈ l, ∀ E args h, lU E x.d args h = x.s E args h
 | y :: l, h, x, hx => by
   rcases List.mem_cons.1 hx with rfl | hx
   · exact h.1
   · exact h.2.mem x hx
theorem wA.append : ∀ {l m : List FD}, wA l -> wA m -> wA (l ++ m)
 | [], _, _, h => h
 | _ :: _, _, h, k => ⟨h.1, h.2.append k⟩
def aEH (P : Program) (l : List FD) : Bool := l.all λ x => aMz P x.f x.d
theorem aIQ {P : Program} {l m : List FD} (h : aEH P l = true) (k : aEH P m = true) : aEH P (l ++ m) = true := by
 unfold aEH at *; rw [List.all_append, h, k]; rfl
def aZz : List FD -> Tr (bG -> cB) -> Tr (bG -> cB)
 | [], t => t
 | x :: l, t => aZz l (Tr.set x.s (Pa.of x.f) t)
theorem aQX : ∀ (l : List FD) (t : Tr (bG -> cB)) (f : Nat) (s : bG -> cB), (aZz l t).at_ f = some s -> t.at_ f = some s \/ ∃ x ∈ l, x.f = f /\ x.s = s
 | [], t, f, d, h => .inl h
 | x :: l, t, f, d, h => by
   rcases aQX l _ f d h with h | ⟨y, hy, h⟩
   · have := Tr.at_put t x.f f x.s; unfold Tr.put at this; rw [this] at h; split at h
     · rename_i hh; cases h; exact .inr ⟨x, by simp, hh.symm, rfl⟩
     · exact .inl h
   · exact .inr ⟨y, List.mem_cons_of_mem _ hy, h⟩
def SE (B : bG) (T : Tr (bG -> cB)) (n : Nat) : bG := Nat.rec (motive := λ _ => bG) (λ _ => none) (λ _ ih f =>
 Option.rec (motive := λ _ => Option cB) (Option.rec (motive := λ _ => Option cB) none (λ s => some (s ih)) (T.at_ f)) some (B f)) n
structure aHs (P : Program) (T : Tr (bG -> cB)) : Prop where
 ok : ∀ f s, T.at_ f = some s -> kZ P f = true /\ ∀ E, kT P E -> gE P f (s E)
theorem bNk {P : Program} {l : List FD} {T : Tr (bG -> cB)} (hT : aZz l .e = T) (hc : aEH P l = true) (he : wA l) : aHs P T := by
 refine ⟨λ f s h => ?_⟩
 rw [<- hT] at h; rcases aQX l _ f s h with h | ⟨x, hx, rfl, rfl⟩
 · rw [Tr.at_e] at h; cases h
 · have hk := List.all_eq_true.1 hc x hx; refine ⟨aMB hk, λ E hE => ?_⟩
   have e : x.s E = lU E x.d := funext λ args => funext λ h => (he.mem x hx E args h).symm
   rw [e]; exact aWc hE hk
theorem aRL {P : Program} {B : bG} {T : Tr (bG -> cB)} (hB : kT P B) (hT : aHs P T) : ∀ n, kT P (SE B T n)
 | 0 => λ f F hF => by cases hF
 | n + 1 => λ f F hF => by
   replace hF : Option.rec (motive := λ _ => Option cB) (Option.rec (motive := λ _ => Option cB) none (λ s => some (s (SE B T n))) (T.at_ f)) some (B f) = some F := hF
   cases hb : B f with
   | some G => rw [hb] at hF; cases hF; exact hB f F hb
   | none =>
     rw [hb] at hF; cases hs : T.at_ f with
     | none => rw [hs] at hF; cases hF
     | some s =>
       rw [hs] at hF; cases hF; exact ⟨(hT.ok f s hs).1, (hT.ok f s hs).2 _ (aRL hB hT n)⟩
theorem aMA {P : Program} {B : bG} {T : Tr (bG -> cB)} {f : FuncId} {s : bG -> cB} (hB : kT P B) (hT : aHs P T) (hf : T.at_ f = some s) {n : Nat} {args : List DV} {args' : List Value} (hargs : trs (λ _ => none) args = some args')
   (hrun : (s (SE B T n) args H0).map (·.1) = some (.bool true)) (w : World) :
   Calls P f args'.toArray w λ e w' => e = .returned (.bool true) /\ Below w.heap.size w w' := by
 cases hr : s (SE B T n) args H0 with
 | none => rw [hr] at hrun; cases hrun
 | some r =>
   obtain ⟨v, h'⟩ := r; rw [hr] at hrun; simp only [Option.map_some, Option.some.injEq] at hrun; subst hrun; refine ((hT.ok f s hf).2 _ (aRL hB hT n) w.heap.size w _ H0 w args args' _ h' hr hargs (cX.start w)).mono λ e w' hh => ?_
   obtain ⟨m', v', rfl, h2, h3, h4⟩ := hh; rw [jM h2]; exact ⟨rfl, h3.below⟩
end Go.DI
namespace Go.DI
open Go.RowKit
section
variable {R : Type}
@[simp] theorem aA (v : DV) (k : DV -> Option R) : vK (some v) k = k v := id rfl
@[simp] theorem bTy (k : DV -> Option R) : vK none k = none := id rfl
@[simp] theorem aB (v : DV) (h : H) (k : DV -> H -> Option R) : wK (some (v, h)) k = k v h := id rfl
@[simp] theorem bTx (k : DV -> H -> Option R) : wK none k = none := id rfl
@[simp] theorem aD (a b : Option R) : bK (.bool true) a b = a := id rfl
@[simp] theorem aC (a b : Option R) : bK (.bool false) a b = b := id rfl
@[simp] theorem eM (a : Option R) : rK true a = a := id rfl
@[simp] theorem bTJ (v : DV) (vs : List DV) (k : DV -> List DV -> Option R) : aS (v :: vs) k = k v vs := id rfl
@[simp] theorem aS_nil (k : DV -> List DV -> Option R) : aS [] k = none := id rfl
@[simp] theorem a0_nil (x : Option R) : a0 [] x = x := id rfl
@[simp] theorem bTK (v : DV) (vs : List DV) (x : Option R) : a0 (v :: vs) x = none := id rfl
end
theorem dV {a b : Nat} (h : a < b) : Nat.blt a b = true := by rw [Nat.blt_eq]; exact h
theorem cK {E : bG} {f : Nat} {F : cB} (h : E f = some F) (args : List DV) (m : H) : aE E f args m = F args m := by unfold aE; rw [h]
theorem jC (k : IntKind) : kEq k k = true := by cases k <;> rfl
theorem aAY (k : IntKind) (a b : Int) : bJ (.int k a) (.int k b) = some (.int k (k.wrap (a + b))) := by
 show (bif kEq k k then aRI k a b else none) = _; rw [jC]; show jE k (aVS a b) = _; rw [aIw, jP]
theorem aAS (k : IntKind) (a b : Int) : fE (.int k a) (.int k b) = some (.int k (k.wrap (a - b))) := by
 show (bif kEq k k then aRz k a b else none) = _; rw [jC]; show jE k (a - b) = _; rw [jP]
theorem eX (k : IntKind) (a b : Int) : cW (.int k a) (.int k b) = some (.bool (decide (a < b))) := by
 show (bif kEq k k then aRC k a b else none) = _; rw [jC]; show fA (iLt a b) = _; rw [fV, mP]
theorem wF (k : IntKind) (a b : Int) : eF (.int k a) (.int k b) = some (.bool (decide (b < a))) := by
 show (bif kEq k k then aRE k a b else none) = _; rw [jC]; show fA (iLt b a) = _; rw [fV, mP]
theorem aTi (k : IntKind) (a b : Nat) (ha : a < 2 ^ k.bits) (hb : b < 2 ^ k.bits) : aDA (.int k (.ofNat a)) (.int k (.ofNat b)) = some (.int k (k.wrap (.ofNat (a &&& b)))) := by
 show (bif kEq k k then aRk k (.ofNat a) (.ofNat b) else none) = _; rw [jC]; show (bif Nat.blt a (2 ^ k.bits) && Nat.blt b (2 ^ k.bits) then jE k (.ofNat (Nat.land a b)) else _) = _; rw [dV ha, dV hb]; exact jP _ _
theorem aAR (k : IntKind) (a b : Nat) (ha : a < 2 ^ k.bits) (hb : b < 2 ^ k.bits) : aDt (.int k (.ofNat a)) (.int k (.ofNat b)) = some (.int k (k.wrap (.ofNat (a ^^^ b)))) := by
 show (bif kEq k k then aRj k (.ofNat a) (.ofNat b) else none) = _; rw [jC]; show (bif Nat.blt a (2 ^ k.bits) && Nat.blt b (2 ^ k.bits) then jE k (.ofNat (Nat.xor a b)) else _) = _; rw [dV ha, dV hb]; exact jP _ _
theorem aTd (k k' : IntKind) (a b : Nat) (hb : b <= k.bits) : xT (.int k (.ofNat a)) (.int k' (.ofNat b)) = some (.int k (.ofNat (a / 2 ^ b))) := by
 show pH .shr k (.ofNat a) (.ofNat b) = _; unfold pH; rw [show iLt (.ofNat b) 0 = false from by rw [mP]; simp]
 simp only [cond_false, oH]; rw [show min (Int.ofNat b).toNat k.bits = b from by simp [Nat.min_eq_left hb]]
 congr 2
 show Int.fdiv (a : Int) (2 ^ b) = ((a / 2 ^ b : Nat) : Int); rw [Int.fdiv_eq_ediv_of_nonneg _ (by exact_mod_cast Nat.zero_le _)]
 simp
theorem oS (k k' : IntKind) (a : Int) : fG k (.int k' a) = some (.int k (k.wrap a)) := jP _ _
theorem aY (s : Ln) : cA (.str s) = some (.int .i64 (.ofNat s.length)) := by
 simp only [cA, aZ]
theorem oJ {s : Ln} {i b : Nat} (h : s[i]? = some b) (k : IntKind) : gR (.str s) (.int k (.ofNat i)) = some (.int .u8 (.ofNat b)) := by
 have hi : i < s.length := by
   rcases Nat.lt_or_ge i s.length with h1 | h1
   · exact h1
   · rw [List.getElem?_eq_none h1] at h; cases h
 simp only [gR, pR]; rw [dV hi, h]; rfl
theorem wrap_i64 {n : Nat} (h : n < 9223372036854775808) : IntKind.i64.wrap (.ofNat n) = .ofNat n := by
 rw [uC] <;> simp only [Int.ofNat_eq_natCast] <;> omega
@[simp] theorem eD {R : Type} (op : (DV -> H -> Option R) -> Option R) (h : H) (k : DV -> H -> Option R) : bT (.bool false) false op h k = op k := id rfl
@[simp] theorem iL {R : Type} (op : (DV -> H -> Option R) -> Option R) (h : H) (k : DV -> H -> Option R) : bT (.bool true) true op h k = op k := id rfl
@[simp] theorem gG {R : Type} (op : (DV -> H -> Option R) -> Option R) (h : H) (k : DV -> H -> Option R) : bT (.bool true) false op h k = k (.tup []) h := id rfl
@[simp] theorem aBq {R : Type} (op : (DV -> H -> Option R) -> Option R) (h : H) (k : DV -> H -> Option R) : bT (.bool false) true op h k = k (.tup []) h := id rfl
@[simp] theorem cL (a b : DV) : bF (.bool true) a b = some a := id rfl
@[simp] theorem cI (a b : DV) : bF (.bool false) a b = some b := id rfl
theorem fY (b : Bool) : nE (.bool b) = some (.bool (!b)) := fV _
theorem aGB (k : IntKind) (a b : Int) : dB (.int k a) (.int k b) = some (.bool (a != b)) := by
 show (bif kEq k k then aRB k a b else none) = _; rw [jC]; show fA (!iEq a b) = _; rw [fV, sZ]; rfl
theorem gM (k : IntKind) (a b : Int) : bZ (.int k a) (.int k b) = some (.bool (a == b)) := by
 show (bif kEq k k then aRG k a b else none) = _; rw [jC]; show fA (iEq a b) = _; rw [fV, sZ]
def eS (b : Nat) : DV := .int .u8 (.ofNat b)
def bR (s : Ln) : List DV := s.map eS
theorem vJ : ∀ {s : Ln}, bA s = true -> nC (bR s) = some s
 | [], _ => rfl
 | b :: s, h => by
   simp only [bA, Bool.and_eq_true, Nat.blt_eq] at h; have hb : aEK (eS b) = some b := by
     show (bif Nat.blt b 256 then some b else none) = some b; rw [dV h.1]; rfl
   show (match aEK (eS b), nC (bR s) with
     | some b, some bs => some (b :: bs)
     | _, _ => none) = _
   rw [hb, vJ h.2]
theorem qW (s : Ln) : (bR s).all DV.one = true := by
 rw [List.all_eq_true]; intro x hx; obtain ⟨b, _, rfl⟩ := List.mem_map.1 hx
 rfl
theorem lF {rd : Rd} {b : Nat} : ∀ (vs : List DV) (j : Nat), (∀ i v, vs[i]? = some v -> rdCell rd b (j + i) = some v) -> rdCells rd b j vs.length = some vs
 | [], j, _ => rfl
 | v :: vs, j, h => by
   simp only [List.length_cons, rdCells]; have h0 := h 0 v rfl; rw [Nat.add_zero] at h0; rw [h0, lF vs (j + 1) (λ i u hi => by rw [show j + 1 + i = j + (i + 1) from by omega]; exact h (i + 1) u hi)]
theorem qI {h : H} {b o : Nat} {B : Blk} {vs : List DV} (hg : h.get b = some (.blk B)) (hr : B.ro = false) (hl : o + vs.length <= B.n) (h1 : vs.all DV.one = true) :
   ∃ h' t', gZ vs h b o = some h' /\ h'.size = h.size /\ (∀ c, c ≠ b -> h'.get c = h.get c) /\ h'.get b = some (.blk { B with t := t' }) /\ ∀ j, t'.at_ j = if o <= j /\ j < o + vs.length then vs[j - o]? else B.t.at_ j := by
 cases vs with
 | nil => exact ⟨h, B.t, rfl, rfl, λ _ _ => rfl, hg, λ j => by rw [if_neg (by simp only [List.length_nil]; omega)]⟩
 | cons v vs =>
   refine ⟨_, aLa (v :: vs) o B.t, by rw [aBt (v :: vs) h b o B hg (by simp), if_pos ⟨by simp [hr], hl, h1⟩], by simp, λ c hc => by rw [H.get_put, if_neg hc], by rw [H.get_put, if_pos rfl], λ j => ?_⟩
   rw [aBd, Tr.at_ofF]
theorem jW {rd : Rd} {b j : Nat} {B : Blk} (h : rd b = some (.blk B)) (hj : j < B.n) : rdCell rd b j = B.t.at_ j := by
 unfold rdCell; rw [h]; simp only []; rw [if_pos hj]
theorem jV {rd rd' : Rd} {b j : Nat} (h : rd' b = rd b) : rdCell rd' b j = rdCell rd b j := by unfold rdCell; rw [h]
theorem gE.or {P : Program} {f : FuncId} {F G : cB} (hF : gE P f F) (hG : gE P f G) : gE P f λ args h => Option.rec (motive := λ _ => Option (DV × H)) (G args h) some (F args h) := by
 intro N0 w0 m h w args args' v h' hr ht hw; cases hf : F args h with
 | some r =>
   have hr' : some r = some (v, h') := by rw [<- hr]; show _ = Option.rec (motive := λ _ => Option (DV × H)) (G args h) some (F args h); rw [hf]
   cases hr'; exact hF N0 w0 m h w args args' v h' hf ht hw
 | none =>
   have hr' : G args h = some (v, h') := by rw [<- hr]; show _ = Option.rec (motive := λ _ => Option (DV × H)) (G args h) some (F args h); rw [hf]
   exact hG N0 w0 m h w args args' v h' hr' ht hw
def aBj (s : Ln) : Bool := List.rec (motive := λ _ => Bool) true (λ b _ ih => bif Nat.blt b 256 then ih else false) s
theorem wL : ∀ s, aBj s = bA s
 | [] => rfl
 | b :: s => by
   show (bif Nat.blt b 256 then aBj s else false) = (Nat.blt b 256 && bA s); rw [wL s]; cases Nat.blt b 256 <;> rfl
end Go.DI
namespace Go.DI
open Go.RowKit
section
variable {P : Program} {N0 : Nat} {w0 : World} {E : bG}
end
end Go.DI
namespace Go.DI
open Go.RowKit
section
variable {P : Program} {N0 : Nat} {w0 : World} {E : bG}
section
variable {n : Nat} {ds : List Deferred} {ops : Array Oper} {m0 : Mp} {h0 : H} {σ pfx rest0 : List DR} {x : DR} {res : Tr DV × H} {Q : Exit -> Act -> World -> Prop}
end
end
end Go.DI
namespace Go.DI
open Go.RowKit
section
variable {P : Program} {N0 : Nat} {w0 : World} {E : bG}
end
section
variable {P : Program} {N0 : Nat} {w0 : World} {E : bG}
end
end Go.DI
namespace Go.DI
open Go.RowKit
theorem aCv (n : Nat) : bA (List.replicate n 0) = true := by
 rw [gP]; intro b hb; have := List.eq_of_mem_replicate hb; omega
structure zJ (b : Nat) (h h' : H) : Prop where
 size : h'.size = h.size
 get : ∀ c, c ≠ b -> h'.get c = h.get c
theorem zJ.trans {b : Nat} {x y z : H} (h : zJ b x y) (k : zJ b y z) : zJ b x z := ⟨k.size.trans h.size, λ c hc => (k.get c hc).trans (h.get c hc)⟩
theorem zJ.grown {h0 h h' : H} (g : aI h0 h) {b : Nat} (hb : h0.size <= b) (k : zJ b h h') : aI h0 h' :=
 ⟨by rw [k.size]; exact g.size, λ i hi => (k.get i (by omega)).trans (g.get i hi)⟩
theorem aEk {R : Type} {h : H} {n : Nat} (hn : n < 140737488355328) (k : DV -> H -> Option R) : tQ 1 1 (.int .u8 (.ofNat 0)) (.int .i64 (.ofNat n)) (.int .i64 (.ofNat n)) h k = k (.slc h.size 0 n n false) (h.push (.blk ⟨n, 1, false, true, Tr.full (.int .u8 (.ofNat 0)) 48⟩)) := by
 simp only [tQ]; rw [Nat.ble_eq_true_of_le (Nat.le_refl _), dV (show 1 * n < 140737488355328 by omega), dV hn]
 simp only [Bool.and_self, cond_true, H.pushK_eq]
theorem wrap_u8 {n : Nat} (h : n < 256) : IntKind.u8.wrap (.ofNat n) = .ofNat n := by
 rw [IntKind.wrap_u8]; simp only [Int.ofNat_eq_natCast]; omega
theorem aDw (k k' : IntKind) (a b : Nat) : aAT (.int k (.ofNat a)) (.int k' (.ofNat b)) = some (.int k (.ofNat (max a b))) := by
 simp only [aAT, mP]
 congr 2
 by_cases h : a < b
 · rw [show decide (Int.ofNat a < Int.ofNat b) = true from by simp only [Int.ofNat_eq_natCast, decide_eq_true_iff]; omega]
   show Int.ofNat b = _; congr 1; omega
 · rw [show decide (Int.ofNat a < Int.ofNat b) = false from by simp only [Int.ofNat_eq_natCast, decide_eq_false_iff_not]; omega]
   show Int.ofNat a = _; congr 1; omega
theorem aAX {b n c j : Nat} {op : Bool} (hj : j < n) (k : IntKind) : cC 1 (.slc b 0 n c op) (.int k (.ofNat j)) = some (.ptr b j) := by
 simp only [cC, pR, aZ]; rw [dV hj]; simp
theorem aVI (a b : Nat) : decide (Int.ofNat a < Int.ofNat b) = decide (a < b) := by
 rw [decide_eq_decide]; simp only [Int.ofNat_eq_natCast]; omega
theorem fN {i : Nat} (h : i + 1 < 9223372036854775808) : bJ (.int .i64 (.ofNat i)) (.int .i64 (.ofNat 1)) = some (.int .i64 (.ofNat (i + 1))) := by
 rw [aAY, show Int.ofNat i + Int.ofNat 1 = Int.ofNat (i + 1) from rfl, wrap_i64 h]
theorem zQ {s : Ln} {j : Nat} (h : j <= s.length) (k : IntKind) : gV (.str s) none (some (.int k (.ofNat j))) = some (.str (s.take j)) := by
 simp only [gV, dJ, dHi, dLo]; rw [Nat.ble_eq_true_of_le h, cond_true, Nat.ble_eq_true_of_le (Nat.zero_le _), cond_true, iD]; rfl
theorem yA {s : Ln} {j : Nat} (h : j <= s.length) (k : IntKind) : gV (.str s) (some (.int k (.ofNat j))) none = some (.str (s.drop j)) := by
 simp only [gV, dJ, dHi, dLo]; rw [Nat.ble_eq_true_of_le (Nat.le_refl _), cond_true, Nat.ble_eq_true_of_le h, cond_true, iD, List.take_length]
theorem fX (s t : Ln) : bZ (.str s) (.str t) = some (.bool (s == t)) := by
 show fA (sEq s t) = _; rw [fV, sJ]
theorem cJ (k : IntKind) (a b : Nat) : bZ (.int k (.ofNat a)) (.int k (.ofNat b)) = some (.bool (decide (a = b))) := by
 rw [gM]; congr 2; rw [Bool.eq_iff_iff, beq_iff_eq, decide_eq_true_iff]; simp only [Int.ofNat_eq_natCast]; omega
end Go.DI
namespace Go.DI
open Go.RowKit
theorem aBk {a b : Nat} (h : a ≠ b) : Nat.beq a b = false := by
 cases hb : Nat.beq a b
 · rfl
 · exact absurd (Nat.eq_of_beq_eq_true hb) h
theorem iT {a b : Nat} (h : ¬ a <= b) : Nat.ble a b = false := by
 cases hb : Nat.ble a b
 · rfl
 · exact absurd (Nat.le_of_ble_eq_true hb) h
def cO (h : H) (b : Nat) (L : List DV) : Prop := b < h.size /\ ∃ pl t, h.get b = some (.blk ⟨L.length, 1, false, pl, t⟩) /\ ∀ j x, L[j]? = some x -> t.at_ j = some x
section
variable {h h' : H} {b : Nat} {L : List DV}
theorem cO.rd (hb : cO h b L) {j : Nat} {x : DV} (hj : L[j]? = some x) : rdCell h.get b j = some x := by
 obtain ⟨hlt, pl, t, h1, h2⟩ := hb; have hjl : j < L.length := by
   rcases Nat.lt_or_ge j L.length with h3 | h3
   · exact h3
   · rw [List.getElem?_eq_none h3] at hj; cases hj
 rw [jW h1 hjl]; exact h2 j x hj
theorem cO.cells (hb : cO h b L) {o k : Nat} (hk : o + k <= L.length) : rdCells h.get b o k = some ((L.drop o).take k) := by
 have hl : ((L.drop o).take k).length = k := by simp; omega
 have := lF (rd := h.get) (b := b) ((L.drop o).take k) o λ i v hi => hb.rd (by
   rw [List.getElem?_take] at hi; split at hi
   · rw [List.getElem?_drop] at hi; exact hi
   · cases hi)
 rw [hl] at this; exact this
theorem cO.cells_all (hb : cO h b L) : rdCells h.get b 0 L.length = some L := by
 have := hb.cells (o := 0) (k := L.length) (by omega)
 simpa using this
theorem cO.but (hb : cO h b L) {c : Nat} (hc : b ≠ c) (k : zJ c h h') : cO h' b L := by
 obtain ⟨hlt, pl, t, h1, h2⟩ := hb; exact ⟨by rw [k.size]; exact hlt, pl, t, by rw [k.get b hc]; exact h1, h2⟩
theorem cO.store (hb : cO h b L) {vs : List DV} {o : Nat} (hv : vs.all DV.one = true) (ho : o + vs.length <= L.length) :
   ∃ h', gZ vs h b o = some h' /\ cO h' b (L.take o ++ vs ++ L.drop (o + vs.length)) /\ zJ b h h' := by
 obtain ⟨hlt, pl, t, h1, h2⟩ := hb; obtain ⟨h', t', f1, f2, f3, f4, f5⟩ := qI (h := h) (b := b) (o := o) (vs := vs) h1 rfl ho hv; have hlen : (L.take o ++ vs ++ L.drop (o + vs.length)).length = L.length := by simp; omega
 refine ⟨h', f1, ⟨by rw [f2]; exact hlt, pl, t', by rw [f4, hlen], λ j x hj => ?_⟩, ⟨f2, f3⟩⟩
 rw [f5]; have ht : (L.take o).length = o := by simp; omega
 by_cases hjo : o <= j /\ j < o + vs.length
 · rw [if_pos hjo]; rw [List.append_assoc, List.getElem?_append_right (by omega), ht, List.getElem?_append_left (by omega)] at hj
   exact hj
 · rw [if_neg hjo]; apply h2; rcases Nat.lt_or_ge j o with hlt | hge
   · rw [List.append_assoc, List.getElem?_append_left (by omega), List.getElem?_take, if_pos hlt] at hj
     exact hj
   · have hge2 : o + vs.length <= j := by
       rcases Nat.lt_or_ge j (o + vs.length) with h3 | h3
       · exact absurd ⟨hge, h3⟩ hjo
       · exact h3
     rw [List.getElem?_append_right (by simp only [List.length_append, ht]; omega), List.length_append, ht, List.getElem?_drop] at hj
     rw [show j = o + vs.length + (j - (o + vs.length)) from by omega]; exact hj
theorem cO.set (hb : cO h b L) {j : Nat} {v : DV} (hv : v.one = true) (hj : j < L.length) :
   ∃ h', bS 1 (.ptr b j) v h = some (.tup [], h') /\ cO h' b (L.set j v) /\ zJ b h h' := by
 obtain ⟨h', f1, f2, f3⟩ := hb.store (vs := [v]) (o := j) (by simp [hv]) (by simp; omega)
 refine ⟨h', ?_, ?_, f3⟩
 · rw [aAE]; have hc : v.cells = [v] := by cases v <;> first | rfl | cases hv
   simp only [dSt, hc, List.length_singleton, Nat.beq_refl, cond_true, f1, Option.map_some]
 · have : L.take j ++ [v] ++ L.drop (j + [v].length) = L.set j v := by
     rw [List.set_eq_take_append_cons_drop, if_pos hj]; simp
   rw [<- this]; exact f2
theorem cO.text {s : Ln} (hb : cO h b (bR s)) (hok : bA s = true) (c : Nat) (op : Bool) : mJ h.get (.slc b 0 s.length c op) = some (.str s) := by
 have hr := hb.cells_all; have hlen : (bR s).length = s.length := by simp [bR]
 rw [hlen] at hr; simp only [mJ, cH, hr, Option.bind_some, vJ hok, iD]
theorem cO.copy_str (hb : cO h b L) {s : Ln} {o n c : Nat} {op : Bool} (hs : s.length <= n) (ho : o + s.length <= L.length) :
   ∃ h', lI 1 (.slc b o n c op) (.str s) h = some (.int .i64 (.ofNat s.length), h') /\ cO h' b (L.take o ++ bR s ++ L.drop (o + s.length)) /\ zJ b h h' := by
 have hbl : (bR s).length = s.length := by simp [bR]
 obtain ⟨h', f1, f2, f3⟩ := hb.store (vs := bR s) (o := o) (qW s) (by omega)
 rw [hbl] at f2; refine ⟨h', ?_, f2, f3⟩; rw [aBu]; simp only [aED, srcLen, aZ, Option.bind_some]; rw [Nat.ble_eq_true_of_le hs]; simp only [cond_true, pV, Nat.beq_refl, List.take_length, Option.bind_some]; have : (s.map λ b => DV.int .u8 (.ofNat b)) = bR s := rfl
 rw [this, f1]; rfl
end
theorem cO.pushed {h : H} {L : List DV} {pl : Bool} : cO (h.push (.blk ⟨L.length, 1, false, pl, Tr.ofL L⟩)) h.size L :=
 ⟨by rw [H.size_push]; omega, pl, _, by rw [H.get_push, if_pos rfl], λ j x hj => by rw [Tr.at_ofL]; exact hj⟩
theorem cO.push {h : H} {b : Nat} {L : List DV} (hb : cO h b L) (o : iN) : cO (h.push o) b L := by
 obtain ⟨hlt, pl, t, h1, h2⟩ := hb; exact ⟨by rw [H.size_push]; omega, pl, t, by rw [H.get_push, if_neg (by omega)]; exact h1, h2⟩
theorem cO.made {h : H} {z : DV} {n : Nat} (hn : n < 140737488355328) : cO (h.push (.blk ⟨n, 1, false, true, Tr.full z 48⟩)) h.size (List.replicate n z) := by
 refine ⟨by rw [H.size_push]; omega, true, _, by rw [H.get_push, if_pos rfl, List.length_replicate], λ j x hj => ?_⟩
 have hlt : j < n := by
   rcases Nat.lt_or_ge j n with h3 | h3
   · exact h3
   · rw [List.getElem?_eq_none (by simpa using h3)] at hj; cases hj
 have hx : x = z := by
   rw [List.getElem?_replicate, if_pos hlt] at hj; exact (Option.some.inj hj).symm
 subst hx; exact Tr.at_full _ (by omega)
structure cD (n0 : Nat) (h h' : H) : Prop where
 size : h.size <= h'.size
 get : ∀ c, c < n0 -> h'.get c = h.get c
theorem cD.refl (n0 : Nat) (h : H) : cD n0 h h := ⟨Nat.le_refl _, λ _ _ => rfl⟩
theorem cD.trans {n0 : Nat} {x y z : H} (a : cD n0 x y) (c : cD n0 y z) : cD n0 x z := ⟨Nat.le_trans a.size c.size, λ i hi => (c.get i hi).trans (a.get i hi)⟩
theorem cD.grown {h h' : H} (a : cD h.size h h') : aI h h' := ⟨a.size, a.get⟩
theorem zJ.keeps {n0 b : Nat} {h h' : H} (k : zJ b h h') (hb : n0 <= b) : cD n0 h h' := ⟨by rw [k.size]; exact Nat.le_refl _, λ c hc => k.get c (by omega)⟩
theorem cD.push {n0 : Nat} {h : H} (hn : n0 <= h.size) (o : iN) : cD n0 h (h.push o) := ⟨by rw [H.size_push]; omega, λ c hc => by rw [H.get_push, if_neg (by omega)]⟩
def cE (n0 : Nat) (h : H) (v : DV) (L : List DV) : Prop := (v = .nils /\ L = []) \/ ∃ b, n0 <= b /\ v = .slc b 0 L.length L.length true /\ cO h b L
theorem cE.nil (n0 : Nat) (h : H) : cE n0 h .nils [] := .inl ⟨rfl, rfl⟩
theorem cE.len {n0 : Nat} {h : H} {v : DV} {L : List DV} (o : cE n0 h v L) : bX v = some (.int .i64 (.ofNat L.length)) := by
 rcases o with ⟨rfl, rfl⟩ | ⟨b, _, rfl, _⟩ <;> rfl
theorem cE.append {n0 : Nat} {h : H} {v x : DV} {L new : List DV} {bytes : Nat} (o : cE n0 h v L) (hn0 : n0 <= h.size) (hl : srcLen x = some new.length) (hc : dT 1 h.get x = some new) (h1 : new.all DV.one = true) (hne : new ≠ [])
   (hs : (L.length + new.length) * bytes < aU) (hs2 : L.length + new.length < aU) : ∃ v' h', cF 1 bytes v x h = some (v', h') /\ cE n0 h' v' (L ++ new) /\ cD n0 h h' := by
 have hpos : 0 < new.length := List.length_pos_iff.2 hne; rcases o with ⟨rfl, rfl⟩ | ⟨b, hb0, rfl, hb⟩
 · refine ⟨.slc h.size 0 new.length new.length true, h.push (.blk ⟨new.length, 1, false, true, Tr.ofL new⟩), ?_, .inr ⟨h.size, hn0, ?_, ?_⟩, cD.push hn0 _⟩
   · rw [eW]; simp only [fQ, hl, hc, Option.bind_some]; simp only [List.length_nil, Nat.zero_add] at hs hs2; rw [aBk (show new.length ≠ 0 by omega), dV hs, dV hs2]
     simp only [cond_false, Bool.and_self, cond_true, H.pushK_eq, Nat.mul_one]
   · simp
   · simpa using cO.pushed
 · obtain ⟨hlt, pl, t, g1, g2⟩ := hb; refine ⟨.slc h.size 0 (L.length + new.length) (L.length + new.length) true, (h.push (.blk ⟨(L.length + new.length) * 1, 1, false, false, Tr.ofF new (L.length * 1) t⟩)).put b .dead, ?_, .inr ⟨h.size, hn0, ?_, ?_⟩, ?_⟩
   · rw [eW]; simp only [fQ, hl, hc, Option.bind_some, aZ]; rw [iT (show ¬ L.length + new.length <= L.length by omega), dV hs, dV hs2]
     simp only [cond_false, Bool.and_self, cond_true, g1, h1, Nat.zero_add, Nat.mul_one, Nat.beq_refl, Bool.not_false, Nat.ble_eq_true_of_le (Nat.le_refl _), aCE, Option.bind_some, H.pushK_eq, H.putK_eq]
   · simp
   · refine ⟨by rw [H.size_put, H.size_push]; omega, false, Tr.ofF new (L.length * 1) t, ?_, λ j x hj => ?_⟩
     · rw [H.get_put, if_neg (by omega), H.get_push, if_pos rfl, List.length_append, Nat.mul_one]
     · rw [Tr.at_ofF, Nat.mul_one]; rcases Nat.lt_or_ge j L.length with hj1 | hj1
       · rw [if_neg (by omega)]
         rw [List.getElem?_append_left hj1] at hj; exact g2 j x hj
       · rw [List.getElem?_append_right hj1] at hj; have : j - L.length < new.length := by
           rcases Nat.lt_or_ge (j - L.length) new.length with h3 | h3
           · exact h3
           · rw [List.getElem?_eq_none h3] at hj; cases hj
         rw [if_pos ⟨hj1, by omega⟩]; exact hj
   · refine ⟨by rw [H.size_put, H.size_push]; omega, λ c hc' => ?_⟩
     rw [H.get_put, if_neg (by omega), H.get_push, if_neg (by omega)]
theorem cE.push1 {n0 : Nat} {h : H} {v x z : DV} {L : List DV} {bytes : Nat} (o : cE n0 h v L) (hn0 : n0 <= h.size) (h1 : x.one = true)
   (hs : (L.length + 1) * bytes < aU) (hs2 : L.length + 1 < aU) : ∃ v' h', (∀ (R : Type) (k : DV -> H -> Option R), (fT 1 1 [z] [(0, 1, x)] h λ y h' => wK (cF 1 bytes v y h') k) = k v' h') /\ cE n0 h' v' (L ++ [x]) /\ cD n0 h h' := by
 let h1' := h.push (.blk ⟨1 * 1, 1, false, true, Tr.ofL [x]⟩)
 have hp : cO h1' h.size [x] := cO.pushed (h := h) (L := [x]) (pl := true); have o' : cE n0 h1' v L := by
   rcases o with ⟨rfl, rfl⟩ | ⟨b, hb0, rfl, hb⟩
   · exact .inl ⟨rfl, rfl⟩
   · exact .inr ⟨b, hb0, rfl, hb.push _⟩
 obtain ⟨v', h', f1, f2, f3⟩ := o'.append (x := .slc h.size 0 1 1 false) (new := [x]) (bytes := bytes) (by show n0 <= (h.push _).size; rw [H.size_push]; omega) rfl
   (by simpa [dT] using hp.cells_all) (by simp [h1]) (by simp) hs hs2
 refine ⟨v', h', λ R k => ?_, f2, (cD.push hn0 _).trans f3⟩
 have hf : gX (gO [z] 1) [(0, 1, x)] = some [x] := by
   have hc : x.cells = [x] := by cases x <;> first | rfl | cases h1
   simp [gX, gO, hc, uM]; rfl
 simp only [fT, hf, Option.bind_some, H.pushK_eq]; show wK (cF 1 bytes v (.slc h.size 0 1 1 false) h1') k = _; rw [f1]; rfl
theorem cE.lt {n0 : Nat} {h : H} {v : DV} {L : List DV} (o : cE n0 h v L) (hL : L ≠ []) : ∃ b, n0 <= b /\ v = .slc b 0 L.length L.length true /\ cO h b L := by
 rcases o with ⟨rfl, rfl⟩ | o
 · exact absurd rfl hL
 · exact o
theorem cE.store1 {n0 : Nat} {h : H} {v x : DV} {L : List DV} {j : Nat} (o : cE n0 h v L) (hj : j < L.length) (hx : x.one = true) (k : IntKind) :
   ∃ b h', cC 1 v (.int k (.ofNat j)) = some (.ptr b j) /\ bS 1 (.ptr b j) x h = some (.tup [], h') /\ cE n0 h' v (L.set j x) /\ cD n0 h h' := by
 obtain ⟨b, hb0, rfl, hb⟩ := o.lt (by intro e; subst e; simp at hj)
 obtain ⟨h', f1, f2, f3⟩ := hb.set hx hj; exact ⟨b, h', aAX hj k, f1, .inr ⟨b, hb0, by simp, f2⟩, f3.keeps hb0⟩
theorem cE.text {n0 : Nat} {h : H} {v : DV} {s : Ln} (o : cE n0 h v (bR s)) (hok : bA s = true) : mJ h.get v = some (.str s) := by
 have hl : (bR s).length = s.length := by simp [bR]
 rcases o with ⟨rfl, e⟩ | ⟨b, _, rfl, hb⟩
 · have : s = [] := by
     cases s with
     | nil => rfl
     | cons _ _ => cases e
   subst this; rfl
 · rw [hl]; exact hb.text hok _ _
theorem cE.s2b {n0 : Nat} {h : H} (hn0 : n0 <= h.size) (s : Ln) : ∃ v' h', (∀ (R : Type) (k : DV -> H -> Option R), aGQ (.str s) h k = k v' h') /\ cE n0 h' v' (bR s) /\ cD n0 h h' /\ v' ≠ .nils := by
 have hl : (bR s).length = s.length := by simp [bR]
 refine ⟨.slc h.size 0 s.length s.length true, h.push (.blk ⟨s.length, 1, false, false, Tr.ofL (bR s)⟩), λ R k => ?_, .inr ⟨h.size, hn0, by rw [hl], ?_⟩, cD.push hn0 _, by simp⟩
 · simp only [aGQ, aZ, H.pushK_eq]; rfl
 · have := cO.pushed (h := h) (L := bR s) (pl := false); rw [hl] at this; exact this
def gC (s : Ln) (n : Nat) : Ln := s ++ List.replicate (n - s.length) 0
def xN (s : Ln) (at_ : Nat) (t : Ln) : Ln := (gC s (max s.length (at_ + t.length))).take at_ ++ t ++ (gC s (max s.length (at_ + t.length))).drop (at_ + t.length)
theorem kM {s : Ln} {n : Nat} (h : s.length <= n) : (gC s n).length = n := by unfold gC; simp; omega
theorem qB (s t : Ln) (at_ : Nat) : (xN s at_ t).length = max s.length (at_ + t.length) := by
 have := kM (s := s) (n := max s.length (at_ + t.length)) (by omega)
 unfold xN; simp only [List.length_append, List.length_take, List.length_drop, this]; omega
theorem uU {s : Ln} (h : bA s = true) (n : Nat) : bA (gC s n) = true := cM h (aCv _)
theorem yJ {s : Ln} (h : bA s = true) (n : Nat) : bA (s.take n) = true := by
 rw [gP] at h ⊢; intro b hb; exact h b (List.mem_of_mem_take hb)
theorem yK {s : Ln} (h : bA s = true) (n : Nat) : bA (s.drop n) = true := by
 rw [gP] at h ⊢; intro b hb; exact h b (List.mem_of_mem_drop hb)
theorem aEb {s t : Ln} (hs : bA s = true) (ht : bA t = true) (a : Nat) : bA (xN s a t) = true :=
 cM (cM (yJ (uU hs _) _) ht) (yK (uU hs _) _)
theorem eI (s t : Ln) : bR (s ++ t) = bR s ++ bR t := by simp [bR]
theorem aMC (s : Ln) (n : Nat) : bR (s.take n) = (bR s).take n := by simp [bR, List.map_take]
theorem aMD (s : Ln) (n : Nat) : bR (s.drop n) = (bR s).drop n := by simp [bR, List.map_drop]
theorem bW (s : Ln) : (bR s).length = s.length := by simp [bR]
theorem aAG (n : Nat) : bR (List.replicate n 0) = List.replicate n (eS 0) := by simp [bR]
theorem aPb (s : Ln) (j x : Nat) : bR (s.set j x) = (bR s).set j (eS x) := by simp [bR, List.map_set]
theorem dC (k : IntKind) (a b : Nat) : eF (.int k (.ofNat a)) (.int k (.ofNat b)) = some (.bool (decide (b < a))) := by rw [wF, aVI]
theorem aP (k : IntKind) (a b : Nat) : cW (.int k (.ofNat a)) (.int k (.ofNat b)) = some (.bool (decide (a < b))) := by rw [eX, aVI]
theorem fM {a b : Nat} (h : b <= a) (ha : a < 9223372036854775808) : fE (.int .i64 (.ofNat a)) (.int .i64 (.ofNat b)) = some (.int .i64 (.ofNat (a - b))) := by
 rw [aAS, show Int.ofNat a - Int.ofNat b = Int.ofNat (a - b) from by simp only [Int.ofNat_eq_natCast]; omega, wrap_i64 (by omega)]
theorem bQ {a b : Nat} (h : a + b < 9223372036854775808) : bJ (.int .i64 (.ofNat a)) (.int .i64 (.ofNat b)) = some (.int .i64 (.ofNat (a + b))) := by
 rw [aAY, show Int.ofNat a + Int.ofNat b = Int.ofNat (a + b) from rfl, wrap_i64 h]
theorem aAV (k : IntKind) {a : Int} (h : a < 0) : cW (.int k a) (.int k (.ofNat 0)) = some (.bool true) := by
 rw [eX]; simp [h]
theorem aNz {b o n : Nat} {op : Bool} {j : Nat} (h : j <= n) (k : IntKind) : dO 1 (.slc b o n n op) (some (.int k (.ofNat j))) none = some (if j < n then .slc b (o + j) (n - j) (n - j) op else if op then .slE b o (o + j) else .slc b o 0 0 false) := by
 simp only [dO, dJ, dHi, dLo]; rw [Nat.ble_eq_true_of_le (Nat.le_refl n), cond_true, Nat.ble_eq_true_of_le h, cond_true]; simp only [aZ, Nat.mul_one]; by_cases hj : j < n
 · rw [dV hj, if_pos hj]; rfl
 · rw [if_neg hj, show Nat.blt j n = false from iT (by omega)]
   cases op <;> rfl
def aFh : cB := λ args h => match args with
 | [] => some (.bool true, h)
 | _ => none
theorem aNF {P : Program} {B : bG} {T : Tr (bG -> cB)} {f : FuncId} {s : bG -> cB} (hB : kT P B) (hT : aHs P T) (hf : T.at_ f = some s) {n : Nat} (hrun : (s (SE B T n) [] H0).map (·.1) = some (.bool true)) : gE P f aFh := by
 refine aKY λ args hh v h' hr => ?_
 unfold aFh at hr; split at hr
 · cases hr; refine ⟨rfl, λ m args' w ht => ?_⟩
   simp only [trs, Option.some.injEq] at ht; subst ht; exact ⟨.bool true, rfl, (aMA hB hT hf (args := []) (args' := []) rfl hrun w)⟩
 · cases hr
def cT (l : List (Ln)) : List DV := l.map DV.str
theorem strsV_append (a b : List (Ln)) : cT (a ++ b) = cT a ++ cT b := by simp [cT]
theorem bC (l : List (Ln)) : (cT l).length = l.length := by simp [cT]
theorem jI {l : List (Ln)} {j : Nat} {s : Ln} (h : l[j]? = some s) : (cT l)[j]? = some (.str s) := by simp [cT, h]
theorem cE.keep {n0 n1 : Nat} {h h' : H} {v : DV} {L : List DV} (o : cE n0 h v L) (k : cD n1 h h') (hn : h.size <= n1) : cE n0 h' v L := by
 rcases o with o | ⟨b, hb, e, hlt, pl, t, g1, g2⟩
 · exact .inl o
 · exact .inr ⟨b, hb, e, Nat.lt_of_lt_of_le hlt k.size, pl, t, by rw [k.get b (by omega)]; exact g1, g2⟩
theorem cE.mono {n0 n1 : Nat} {h : H} {v : DV} {L : List DV} (o : cE n0 h v L) (hn : n1 <= n0) : cE n1 h v L := by
 rcases o with o | ⟨b, hb, e⟩
 · exact .inl o
 · exact .inr ⟨b, by omega, e⟩
theorem eY {s t : Ln} (h : s.length + t.length < fJ) : bJ (.str s) (.str t) = some (.str (s ++ t)) := by
 show (bif Nat.blt (s.length + t.length) fJ then xP (s ++ t) else none) = _; rw [dV h, iD]; rfl
theorem aOo (n : Nat) : gO [0] n = List.replicate n 0 := by
 induction n with
 | zero => rfl
 | succ n ih => rw [List.replicate_succ, <- ih]; rfl
theorem aKn (n : Nat) (hn : n <= 140737488355328) (h : H) : rV [.str [0], .int .i64 (.ofNat n)] h = some (.str (List.replicate n 0), h) := by
 show (bif Nat.ble n 9223372036854775807 && Nat.ble (([0] : Ln).length * n) 140737488355328 then (xP (gO [0] n)).map λ v => (v, h) else none) = _
 rw [Nat.ble_eq_true_of_le (by omega), Nat.ble_eq_true_of_le (by simp; omega), iD, aOo]; rfl
end Go.DI
namespace Go.DI
open Go.RowKit
theorem lL {α : Type} {l : List α} {j : Nat} {x : α} (h : l[j]? = some x) : j < l.length := by
 rcases Nat.lt_or_ge j l.length with h1 | h1
 · exact h1
 · rw [List.getElem?_eq_none h1] at h; cases h
def cZ (h : H) (v : DV) (L : List DV) : Prop :=
 (L = [] /\ (v = .nils \/ ∃ b o o2, v = .slE b o o2)) \/ ∃ b o c op, v = .slc b o L.length c op /\ L.length <= c /\ b < h.size /\ ∀ j x, L[j]? = some x -> rdCell h.get b (o + j) = some x
section
variable {h h' : H} {v : DV} {L : List DV}
theorem cZ.nil (h : H) : cZ h .nils [] := .inl ⟨rfl, .inl rfl⟩
theorem cZ.len (r : cZ h v L) : bX v = some (.int .i64 (.ofNat L.length)) := by
 rcases r with ⟨rfl, rfl | ⟨b, o, o2, rfl⟩⟩ | ⟨b, o, c, op, rfl, _⟩ <;> rfl
theorem cZ.grown (r : cZ h v L) (g : aI h h') : cZ h' v L := by
 rcases r with r | ⟨b, o, c, op, e, hc, hb, hx⟩
 · exact .inl r
 · exact .inr ⟨b, o, c, op, e, hc, Nat.lt_of_lt_of_le hb g.size, λ j x hj => by rw [jV (g.get b hb)]; exact hx j x hj⟩
theorem aUM {b o n c j : Nat} {op : Bool} (hj : j < n) (k : IntKind) : cC 1 (.slc b o n c op) (.int k (.ofNat j)) = some (.ptr b (o + j)) := by
 simp only [cC, pR, aZ]; rw [dV hj]; simp
theorem cZ.at (r : cZ h v L) {j : Nat} {x : DV} (hj : L[j]? = some x) (k : IntKind) : ∃ b o, cC 1 v (.int k (.ofNat j)) = some (.ptr b o) /\ aF h.get (.ptr b o) = some x := by
 rcases r with ⟨rfl, _⟩ | ⟨b, o, c, op, rfl, _, _, hx⟩
 · cases hj
 · exact ⟨b, o + j, aUM (lL hj) k, by simp only [aF, cG]; exact hx j x hj⟩
theorem cZ.srcLen (r : cZ h v L) : srcLen v = some L.length := by
 rcases r with ⟨rfl, rfl | ⟨b, o, o2, rfl⟩⟩ | ⟨b, o, c, op, rfl, _⟩ <;> rfl
theorem cZ.src (r : cZ h v L) : dT 1 h.get v = some L := by
 rcases r with ⟨rfl, rfl | ⟨b, o, o2, rfl⟩⟩ | ⟨b, o, c, op, rfl, _, _, hx⟩
 · rfl
 · rfl
 · simp only [dT, Nat.mul_one]; exact lF L o hx
theorem cZ.cut (r : cZ h v L) {l m : Nat} (hlm : l <= m) (hm : m <= L.length) (k k' : IntKind) :
   ∃ v', dO 1 v (some (.int k (.ofNat l))) (some (.int k' (.ofNat m))) = some v' /\ cZ h v' ((L.take m).drop l) := by
 rcases r with ⟨rfl, hv⟩ | ⟨b, o, c, op, rfl, hc, hb, hx⟩
 · have h0 : m = 0 := by simpa using hm
   subst h0; have h1 : l = 0 := by omega
   subst h1; rcases hv with rfl | ⟨b, o, o2, rfl⟩
   · exact ⟨.nils, rfl, by simpa using cZ.nil h⟩
   · exact ⟨.slE b o o2, rfl, .inl ⟨by simp, .inr ⟨b, o, o2, rfl⟩⟩⟩
 · simp only [dO, dJ, dHi, dLo]; rw [Nat.ble_eq_true_of_le (show m <= c by omega), cond_true, Nat.ble_eq_true_of_le hlm, cond_true]
   simp only [aZ, Nat.mul_one]; have hlen : ((L.take m).drop l).length = m - l := by simp; omega
   by_cases hl : l < c
   · rw [dV hl, cond_true]; refine ⟨_, rfl, .inr ⟨b, o + l, c - l, op, by rw [hlen], by rw [hlen]; omega, hb, λ j x hj => ?_⟩⟩
     rw [List.getElem?_drop, List.getElem?_take] at hj; split at hj
     · rw [Nat.add_assoc]; exact hx _ _ hj
     · cases hj
   · have hl2 : l = m := by omega
     have he : (L.take m).drop l = [] := List.eq_nil_of_length_eq_zero (by omega)
     rw [show Nat.blt l c = false from iT (by omega), cond_false, he]
     cases op
     · exact ⟨_, rfl, .inr ⟨b, o, 0, false, rfl, Nat.le_refl _, hb, λ j x hj => by cases hj⟩⟩
     · exact ⟨_, rfl, .inl ⟨rfl, .inr ⟨b, o, _, rfl⟩⟩⟩
theorem cZ.cutTo (r : cZ h v L) {m : Nat} (hm : m <= L.length) (k : IntKind) : ∃ v', dO 1 v none (some (.int k (.ofNat m))) = some v' /\ cZ h v' (L.take m) := by
 obtain ⟨v', e, r'⟩ := r.cut (l := 0) (Nat.zero_le m) hm .i64 k; exact ⟨v', by rw [<- e]; cases v <;> rfl, by simpa using r'⟩
end
theorem cO.row {h : H} {b : Nat} {L : List DV} (hb : cO h b L) (op : Bool) : cZ h (.slc b 0 L.length L.length op) L :=
 .inr ⟨b, 0, _, op, rfl, Nat.le_refl _, hb.1, λ j x hj => by rw [Nat.zero_add]; exact hb.rd hj⟩
theorem cE.row {n0 : Nat} {h : H} {v : DV} {L : List DV} (o : cE n0 h v L) : cZ h v L := by
 rcases o with ⟨rfl, rfl⟩ | ⟨b, hb0, rfl, hb⟩
 · exact cZ.nil h
 · exact hb.row true
theorem calls_true3 {P : Program} {B : bG} {T : Tr (bG -> cB)} {f : FuncId} {s : bG -> cB} (hB : kT P B) (hT : aHs P T) (hf : T.at_ f = some s) {n : Nat} {args : List DV} {args' : List Value} {m : Mp} {h : H} {w : World} (hw : cX w.heap.size w m h w) (hargs : trs m args = some args')
   (hrun : (s (SE B T n) args h).map (·.1) = some (.bool true)) :
   Calls P f args'.toArray w λ e w' => e = .returned (.bool true) /\ Below w.heap.size w w' := by
 cases hr : s (SE B T n) args h with
 | none => rw [hr] at hrun; cases hrun
 | some r =>
   obtain ⟨v, h'⟩ := r; rw [hr] at hrun; simp only [Option.map_some, Option.some.injEq] at hrun; subst hrun; refine ((hT.ok f s hf).2 _ (aRL hB hT n) w.heap.size w m h w args args' _ h' hr hargs hw).mono λ e w' hh => ?_
   obtain ⟨m', v', rfl, h2, h3, h4⟩ := hh; rw [jM h2]; exact ⟨rfl, h3.below⟩
def aYQ (CL : List DV) : H := H0.push (.blk ⟨CL.length, 1, true, false, Tr.ofL CL⟩)
theorem xJ (CL : List DV) : (aYQ CL).size = 1 := rfl
theorem aMY (CL : List DV) : (aYQ CL).get 0 = some (.blk ⟨CL.length, 1, true, false, Tr.ofL CL⟩) := by
 unfold aYQ; rw [H.get_push]; rfl
theorem cX.startRow {w : World} {a : Addr} {len cap : Nat} {CL : List DV} {t : TypeId} {k : Nat} (ha : a.spot = none) (hs : w.shape? a.block = some (t, k)) (hlen : CL.length = 0 -> len = 0)
   (hc : ∀ j x, CL[j]? = some x -> ∃ v', tr (λ _ => none) x = some v' /\ w.cell? (a.add j) = some v') :
   ∃ m o, cX w.heap.size w m (aYQ CL) w /\ tr m (.slc 0 o len cap false) = some (.slice (some a) len cap) /\ (CL ≠ [] -> o = 0) := by
 unfold World.shape? at hs; split at hs
 rotate_left
 · cases hs
 rename_i c el fr hh; have hlt : a.block < w.heap.size := by
   rcases Nat.lt_or_ge a.block w.heap.size with h1 | h1
   · exact h1
   · rw [Array.getElem?_eq_none (by simpa using h1)] at hh; cases hh
 obtain ⟨ab, ao, as⟩ := a; simp only [] at ha hh hlt; subst ha; have cellAt : ∀ j, w.cell? ((⟨ab, ao, none⟩ : Addr).add j) = c[ao + j]? := λ j => by
   rw [iE]; simp [World.cell?, hh]
 let i : rU := if CL = [] then ⟨ab, c.size, 0⟩ else ⟨ab, c.size - ao - CL.length, ao⟩
 let m : Mp := λ b => if b = 0 then some i else none
 have hir : i.r = ab := by by_cases h0 : CL = [] <;> simp [i, h0]
 have m_some : ∀ {b j}, m b = some j -> b = 0 /\ j = i := by
   intro b j e; simp only [m] at e; split at e
   · rename_i h0; cases e; exact ⟨h0, rfl⟩
   · cases e
 have mle : Mp.le (λ _ => none) m := λ _ _ e => by cases e
 refine ⟨m, if CL = [] then ao else 0, ?_, ?_, λ h => by rw [if_neg h]⟩
 · refine ⟨λ b j e => ?_, λ b j e => ?_, λ b b' j j' o o' e e' _ _ _ _ _ => ?_, Below.refl _ _, Nat.le_refl _, λ b hb => ?_⟩
   · obtain ⟨rfl, rfl⟩ := m_some e; exact ⟨by rw [xJ]; omega, by rw [hir]; exact hlt⟩
   · obtain ⟨rfl, rfl⟩ := m_some e; refine ⟨_, aMY CL, ⟨⟨c, el, fr, by rw [hir]; exact hh, ?_, λ j hj => ?_⟩, (λ h => nomatch h), (λ h => nomatch h)⟩, (λ h => nomatch h)⟩
     · by_cases h0 : CL = []
       · simp [i, h0]
       · have hpos : 0 < CL.length := List.length_pos_iff.2 h0; obtain ⟨v', _, h2⟩ := hc (CL.length - 1) _ (List.getElem?_eq_getElem (by omega))
         rw [cellAt] at h2; have hlt2 : ao + (CL.length - 1) < c.size := by
           rcases Nat.lt_or_ge (ao + (CL.length - 1)) c.size with h3 | h3
           · exact h3
           · rw [Array.getElem?_eq_none (by simpa using h3)] at h2; cases h2
         simp only [i, h0, if_false]; omega
     · simp only [] at hj; have h0 : CL ≠ [] := by intro h0; subst h0; simp at hj
       obtain ⟨v', h1, h2⟩ := hc j _ (List.getElem?_eq_getElem hj); refine .inl ⟨_, v', by rw [Tr.at_ofL]; exact List.getElem?_eq_getElem hj, fH mle _ _ h1, ?_⟩
       rw [cellAt] at h2; simp only [i, h0, if_false]; exact h2
   · rw [(m_some e).1, (m_some e').1]
   · rw [xJ] at hb; unfold aYQ; rw [H.get_push, if_neg (show b ≠ H0.size from by show b ≠ 0; omega)]
     exact Tr.at_e b
 · simp only [tr, m, if_true]; by_cases h0 : CL = []
   · simp [i, h0]
   · simp [i, h0]
theorem aTe {a b : Nat} (hb : 0 < b) (ha : a < 9223372036854775808) : aQx (.int .i64 (.ofNat a)) (.int .i64 (.ofNat b)) = some (.int .i64 (.ofNat (a / b))) := by
 show (bif kEq .i64 .i64 then aRA .i64 (.ofNat a) (.ofNat b) else none) = _; rw [jC]; show (bif iEq (.ofNat b) 0 then none else jE .i64 ((Int.ofNat a).tdiv (.ofNat b))) = _; rw [sZ, show ((Int.ofNat b) == 0) = false from by simp; omega, cond_false, jP]
 rw [show (Int.ofNat a).tdiv (.ofNat b) = .ofNat (a / b) from rfl, wrap_i64 (by have := Nat.div_le_self a b; omega)]
theorem aTg (k : IntKind) (a b : Int) : oR (.int k a) (.int k b) = some (.bool (decide (b <= a))) := by
 show (bif kEq k k then aRF k a b else none) = _; rw [jC]; show fA (iLe b a) = _; rw [fV, aOD]
theorem aAW (k : IntKind) (a b : Int) : aDx (.int k a) (.int k b) = some (.bool (decide (a <= b))) := by
 show (bif kEq k k then aRD k a b else none) = _; rw [jC]; show fA (iLe a b) = _; rw [fV, aOD]
theorem aIu (a b : Nat) : decide (Int.ofNat a <= Int.ofNat b) = decide (a <= b) := by
 rw [decide_eq_decide]; simp only [Int.ofNat_eq_natCast]; omega
theorem fW (k : IntKind) (a b : Nat) : oR (.int k (.ofNat a)) (.int k (.ofNat b)) = some (.bool (decide (b <= a))) := by rw [aTg, aIu]
theorem wE (k : IntKind) (a b : Nat) : aDx (.int k (.ofNat a)) (.int k (.ofNat b)) = some (.bool (decide (a <= b))) := by rw [aAW, aIu]
theorem zT (n : Int) : IntKind.u64.wrap n = n % 18446744073709551616 := by simp [IntKind.wrap, IntKind.bits, IntKind.signed]
theorem uB {n : Nat} (h : n < 18446744073709551616) : IntKind.u64.wrap (.ofNat n) = .ofNat n := by
 rw [zT]; simp only [Int.ofNat_eq_natCast]; omega
theorem oW (l : List (Ln)) (n : Nat) : (cT l).take n = cT (l.take n) := by simp [cT, List.map_take]
theorem aTp (l : List (Ln)) : (cT l).all DV.one = true := by
 rw [List.all_eq_true]; intro x hx; obtain ⟨s, _, rfl⟩ := List.mem_map.1 hx; rfl
theorem aI.keeps {h h' : H} (g : aI h h') {n : Nat} (hn : n <= h.size) : cD n h h' := ⟨g.size, λ c hc => g.get c (by omega)⟩
end Go.DI
namespace Go.DI
open Go.RowKit
theorem Trod_lt {H : Type} {enc : TypeId × Value -> H} {P : Program} {W : World} {base : Nat} {sp : Nat -> Bool} {held : Bool} {t : TypeId} {v : Value} {d : DataW H} {ps : List MemPlace} (h : DataW.Trod enc P W base sp held t v d ps) : ∀ x ∈ ps, x.block < W.heap.size := λ x hx => by
 obtain ⟨n, e⟩ := h; exact DataW.trod_lt n _ _ _ e x hx
theorem tr_str_any (m : Mp) (s : ByteArray) : tr m (.str (aOy s)) = some (.string s) := by simp [tr, toBA_ofBA, okStr_ofBA]
end Go.DI
namespace Go.DI
open Go.RowKit
def fL (n0 : Nat) (h : H) (v : DV) (L : List DV) : Prop := (v = .nils /\ L = []) \/
 ∃ b c pl t, n0 <= b /\ b < h.size /\ v = .slc b 0 L.length c true /\ L.length <= c /\ 0 < c /\ h.get b = some (.blk ⟨c, 1, false, pl, t⟩) /\ ∀ j x, L[j]? = some x -> t.at_ j = some x
theorem fL.nil (n0 : Nat) (h : H) : fL n0 h .nils [] := .inl ⟨rfl, rfl⟩
section
variable {n0 : Nat} {h h' : H} {v : DV} {L : List DV}
theorem fL.row (g : fL n0 h v L) : cZ h v L := by
 rcases g with ⟨rfl, rfl⟩ | ⟨b, c, pl, t, hb0, hb, rfl, hc, hc0, hg, ht⟩
 · exact cZ.nil h
 · exact .inr ⟨b, 0, c, true, rfl, hc, hb, λ j x hj => by rw [Nat.zero_add, jW hg (Nat.lt_of_lt_of_le (lL hj) hc)]; exact ht j x hj⟩
theorem fL.keep {n1 : Nat} (g : fL n0 h v L) (k : cD n1 h h') (hn : h.size <= n1) : fL n0 h' v L := by
 rcases g with g | ⟨b, c, pl, t, hb0, hb, e, hc, hc0, hg, ht⟩
 · exact .inl g
 · exact .inr ⟨b, c, pl, t, hb0, Nat.lt_of_lt_of_le hb k.size, e, hc, hc0, by rw [k.get b (by omega)]; exact hg, ht⟩
theorem fL.cut (g : fL n0 h v L) {m : Nat} (hm : m <= L.length) (k : IntKind) : ∃ v', dO 1 v none (some (.int k (.ofNat m))) = some v' /\ fL n0 h v' (L.take m) := by
 rcases g with ⟨rfl, rfl⟩ | ⟨b, c, pl, t, hb0, hb, rfl, hc, hc0, hg, ht⟩
 · have : m = 0 := by simpa using hm
   subst this; exact ⟨.nils, rfl, by simpa using fL.nil n0 h⟩
 · refine ⟨.slc b 0 m c true, ?_, .inr ⟨b, c, pl, t, hb0, hb, by simp; omega, by simp; omega, hc0, hg, λ j x hj => ?_⟩⟩
   · simp only [dO, dJ, dHi, dLo]; rw [Nat.ble_eq_true_of_le (show m <= c by omega), cond_true, Nat.ble_eq_true_of_le (Nat.zero_le _), cond_true, dV hc0, cond_true]
     simp [aZ]
   · rw [List.getElem?_take] at hj; split at hj
     · exact ht j x hj
     · cases hj
theorem fL.appendRow {x : DV} {new : List DV} {bytes : Nat} (g : fL n0 h v L) (hn0 : n0 <= h.size) (r : cZ h x new) (h1 : new.all DV.one = true)
   (hs : (L.length + new.length) * bytes < aU) (hs2 : L.length + new.length < aU) : ∃ v' h', cF 1 bytes v x h = some (v', h') /\ fL n0 h' v' (L ++ new) /\ cD n0 h h' := by
 rcases g with ⟨rfl, rfl⟩ | ⟨b, c, pl, t, hb0, hb, rfl, hc, hc0, hg, ht⟩
 · by_cases hne : new = []
   · subst hne; refine ⟨.nils, h, ?_, fL.nil _ _, cD.refl _ _⟩; rw [eW]; simp only [fQ, r.srcLen, r.src, Option.bind_some, List.length_nil]; rfl
   · have hpos : 0 < new.length := List.length_pos_iff.2 hne; refine ⟨.slc h.size 0 new.length new.length true, h.push (.blk ⟨new.length, 1, false, true, Tr.ofL new⟩), ?_, .inr ⟨h.size, new.length, true, Tr.ofL new, hn0, by simp, by simp, by simp, hpos, by rw [H.get_push, if_pos rfl], λ j y hj => by rw [Tr.at_ofL]; exact hj⟩, cD.push hn0 _⟩
     rw [eW]; simp only [fQ, r.srcLen, r.src, Option.bind_some]; simp only [List.length_nil, Nat.zero_add] at hs hs2; rw [aBk (show new.length ≠ 0 by omega), dV hs, dV hs2]
     simp only [cond_false, Bool.and_self, cond_true, H.pushK_eq, Nat.mul_one]
 · rw [eW]; simp only [fQ, r.srcLen, r.src, Option.bind_some, aZ, Nat.zero_add, Nat.mul_one]; by_cases hfit : L.length + new.length <= c
   · rw [Nat.ble_eq_true_of_le hfit, cond_true]; obtain ⟨h1', t', f1, f2, f3, f4, f5⟩ := qI (h := h) (b := b) (o := L.length) (vs := new) hg rfl hfit h1; refine ⟨_, h1', by rw [f1]; rfl, .inr ⟨b, c, pl, t', hb0, by rw [f2]; exact hb, by simp, by simpa using hfit, hc0, f4, λ j y hj => ?_⟩, ⟨by rw [f2]; exact Nat.le_refl _, λ d hd => f3 d (by omega)⟩⟩
     rw [f5]; rcases Nat.lt_or_ge j L.length with h2 | h2
     · rw [if_neg (by omega)]
       rw [List.getElem?_append_left h2] at hj; exact ht j y hj
     · rw [List.getElem?_append_right h2] at hj; have := lL hj; rw [if_pos ⟨h2, by omega⟩]; exact hj
   · rw [iT hfit, cond_false, dV hs, dV hs2]; simp only [Bool.and_self, cond_true, hg, Nat.beq_refl, h1, Nat.ble_eq_true_of_le hc, Bool.not_false, aCE, Nat.mul_one, Option.bind_some, H.pushK_eq, H.putK_eq]; refine ⟨_, _, rfl, .inr ⟨h.size, L.length + new.length, false, Tr.ofF new L.length t, hn0, by simp, by simp, by simp, by omega, by rw [H.get_put, if_neg (by omega), H.get_push, if_pos rfl], λ j y hj => ?_⟩, ⟨by simp, λ d hd => by rw [H.get_put, if_neg (by omega), H.get_push, if_neg (by omega)]⟩⟩
     rw [Tr.at_ofF]; rcases Nat.lt_or_ge j L.length with h2 | h2
     · rw [if_neg (by omega)]
       rw [List.getElem?_append_left h2] at hj; exact ht j y hj
     · rw [List.getElem?_append_right h2] at hj; have := lL hj; rw [if_pos ⟨h2, by omega⟩]; exact hj
theorem fL.push1 {x z : DV} {bytes : Nat} (g : fL n0 h v L) (hn0 : n0 <= h.size) (h1 : x.one = true)
   (hs : (L.length + 1) * bytes < aU) (hs2 : L.length + 1 < aU) : ∃ v' h', (∀ (R : Type) (k : DV -> H -> Option R), (fT 1 1 [z] [(0, 1, x)] h λ y h' => wK (cF 1 bytes v y h') k) = k v' h') /\ fL n0 h' v' (L ++ [x]) /\ cD n0 h h' := by
 have hp : cO (h.push (.blk ⟨1 * 1, 1, false, true, Tr.ofL [x]⟩)) h.size [x] := cO.pushed (h := h) (L := [x]) (pl := true); have g' : fL n0 (h.push (.blk ⟨1 * 1, 1, false, true, Tr.ofL [x]⟩)) v L := g.keep (cD.push (Nat.le_refl _) _) (Nat.le_refl _); obtain ⟨v', h', f1, f2, f3⟩ := g'.appendRow (x := .slc h.size 0 1 1 false) (new := [x]) (bytes := bytes) (by rw [H.size_push]; omega) (hp.row false) (by simp [h1]) hs hs2
 refine ⟨v', h', λ R k => ?_, f2, (cD.push hn0 _).trans f3⟩
 have hf : gX (gO [z] 1) [(0, 1, x)] = some [x] := by
   have hc : x.cells = [x] := by cases x <;> first | rfl | cases h1
   simp [gX, gO, hc, uM]; rfl
 simp only [fT, hf, Option.bind_some, H.pushK_eq]; rw [f1]; rfl
end
end Go.DI
namespace Go.DI
open Go.RowKit
theorem fB {R : Type} (l : List DV) (t : Bool) (op : (DV -> H -> Option R) -> Option R) (h : H) (k : DV -> H -> Option R) : bT (.tup l) t op h k = k (.tup []) h := id rfl
theorem aN (a : DV) (l : List DV) : aG 0 (.tup (a :: l)) = some a := id rfl
theorem aM (a b : DV) (l : List DV) : aG 1 (.tup (a :: b :: l)) = some b := id rfl
theorem mU (a b c : DV) (l : List DV) : aG 2 (.tup (a :: b :: c :: l)) = some c := rfl
theorem aDu {s : Ln} {i j : Nat} (hi : i <= j) (hj : j <= s.length) (k k' : IntKind) : gV (.str s) (some (.int k (.ofNat i))) (some (.int k' (.ofNat j))) = some (.str ((s.take j).drop i)) := by
 simp only [gV, dJ, dHi, dLo]; rw [Nat.ble_eq_true_of_le hj, cond_true, Nat.ble_eq_true_of_le hi, cond_true, iD]
theorem oP (k k' : IntKind) (a b : Nat) : zS (.int k (.ofNat a)) (.int k' (.ofNat b)) = some (.int k (.ofNat (min a b))) := by
 simp only [zS, mP]
 congr 2
 by_cases h : b < a
 · rw [show decide (Int.ofNat b < Int.ofNat a) = true from by simp only [Int.ofNat_eq_natCast, decide_eq_true_iff]; omega]
   show Int.ofNat b = _; congr 1; omega
 · rw [show decide (Int.ofNat b < Int.ofNat a) = false from by simp only [Int.ofNat_eq_natCast, decide_eq_false_iff_not]; omega]
   show Int.ofNat a = _; congr 1; omega
theorem bL (k : IntKind) (a b : Nat) : dB (.int k (.ofNat a)) (.int k (.ofNat b)) = some (.bool (!decide (a = b))) := by
 rw [aGB]; congr 2; rw [Bool.eq_iff_iff]; simp only [bne_iff_ne, ne_eq, Int.ofNat_eq_natCast, Bool.not_eq_true', decide_eq_false_iff_not]; omega
theorem kJ (s t : Ln) : dB (.str s) (.str t) = some (.bool (s != t)) := by
 show fA (!sEq s t) = _; rw [fV, sJ]; rfl
end Go.DI
namespace Go.DI
open Go.RowKit
def bD (h : H) (b : Nat) (L : List DV) : Prop := b < h.size /\ ∃ es t, h.get b = some (.blk ⟨L.length, es, false, true, t⟩) /\ ∀ j x, L[j]? = some x -> t.at_ j = some x
section
variable {h h' : H} {b : Nat} {L : List DV}
theorem bD.rd (hb : bD h b L) {j : Nat} {x : DV} (hj : L[j]? = some x) : rdCell h.get b j = some x := by
 obtain ⟨hlt, es, t, h1, h2⟩ := hb; rw [jW h1 (lL hj)]; exact h2 j x hj
theorem bD.read (hb : bD h b L) {j : Nat} {x : DV} (hj : L[j]? = some x) : aF h.get (.ptr b j) = some x := by
 simp only [aF, cG]; exact hb.rd hj
theorem bD.cells (hb : bD h b L) {o k : Nat} (hk : o + k <= L.length) : rdCells h.get b o k = some ((L.drop o).take k) := by
 have hl : ((L.drop o).take k).length = k := by simp; omega
 have := lF (rd := h.get) (b := b) ((L.drop o).take k) o λ i v hi => hb.rd (by
   rw [List.getElem?_take] at hi; split at hi
   · rw [List.getElem?_drop] at hi; exact hi
   · cases hi)
 rw [hl] at this; exact this
theorem bD.readN (hb : bD h b L) {o k : Nat} (hk : o + k <= L.length) : aJ k h.get (.ptr b o) = some (.agg ((L.drop o).take k)) := by
 simp only [aJ, cH, hb.cells hk]; rfl
theorem bD.but (hb : bD h b L) {c : Nat} (hc : b ≠ c) (k : zJ c h h') : bD h' b L := by
 obtain ⟨hlt, es, t, h1, h2⟩ := hb; exact ⟨by rw [k.size]; exact hlt, es, t, by rw [k.get b hc]; exact h1, h2⟩
theorem bD.grown (hb : bD h b L) (g : aI h h') : bD h' b L := by
 obtain ⟨hlt, es, t, h1, h2⟩ := hb; exact ⟨Nat.lt_of_lt_of_le hlt g.size, es, t, by rw [g.get b hlt]; exact h1, h2⟩
theorem bD.keep {n : Nat} (hb : bD h b L) (k : cD n h h') (hn : b < n) : bD h' b L := by
 obtain ⟨hlt, es, t, h1, h2⟩ := hb; exact ⟨Nat.lt_of_lt_of_le hlt k.size, es, t, by rw [k.get b hn]; exact h1, h2⟩
theorem bD.store (hb : bD h b L) {vs : List DV} {o : Nat} (hv : vs.all DV.one = true) (ho : o + vs.length <= L.length) :
   ∃ h', gZ vs h b o = some h' /\ bD h' b (L.take o ++ vs ++ L.drop (o + vs.length)) /\ zJ b h h' := by
 obtain ⟨hlt, es, t, h1, h2⟩ := hb; obtain ⟨h', t', f1, f2, f3, f4, f5⟩ := qI (h := h) (b := b) (o := o) (vs := vs) h1 rfl ho hv; have hlen : (L.take o ++ vs ++ L.drop (o + vs.length)).length = L.length := by simp; omega
 refine ⟨h', f1, ⟨by rw [f2]; exact hlt, es, t', by rw [f4, hlen], λ j x hj => ?_⟩, ⟨f2, f3⟩⟩
 rw [f5]; have ht : (L.take o).length = o := by simp; omega
 by_cases hjo : o <= j /\ j < o + vs.length
 · rw [if_pos hjo]; rw [List.append_assoc, List.getElem?_append_right (by omega), ht, List.getElem?_append_left (by omega)] at hj
   exact hj
 · rw [if_neg hjo]; apply h2; rcases Nat.lt_or_ge j o with hlt | hge
   · rw [List.append_assoc, List.getElem?_append_left (by omega), List.getElem?_take, if_pos hlt] at hj
     exact hj
   · have hge2 : o + vs.length <= j := by
       rcases Nat.lt_or_ge j (o + vs.length) with h3 | h3
       · exact absurd ⟨hge, h3⟩ hjo
       · exact h3
     rw [List.getElem?_append_right (by simp only [List.length_append, ht]; omega), List.length_append, ht, List.getElem?_drop] at hj
     rw [show j = o + vs.length + (j - (o + vs.length)) from by omega]; exact hj
theorem xB {v : DV} (hv : v.one = true) : v.cells = [v] := by cases v <;> first | rfl | cases hv
theorem bD.set (hb : bD h b L) {j : Nat} {v : DV} (hv : v.one = true) (hj : j < L.length) :
   ∃ h', bS 1 (.ptr b j) v h = some (.tup [], h') /\ bD h' b (L.set j v) /\ zJ b h h' := by
 obtain ⟨h', f1, f2, f3⟩ := hb.store (vs := [v]) (o := j) (by simp [hv]) (by simp; omega)
 refine ⟨h', ?_, ?_, f3⟩
 · rw [aAE]; simp only [dSt, xB hv, List.length_singleton, Nat.beq_refl, cond_true, f1, Option.map_some]
 · have : L.take j ++ [v] ++ L.drop (j + [v].length) = L.set j v := by
     rw [List.set_eq_take_append_cons_drop, if_pos hj]; simp
   rw [<- this]; exact f2
theorem bD.setN (hb : bD h b L) {o n : Nat} {cs : List DV} (hn : cs.length = n) (hv : cs.all DV.one = true) (ho : o + n <= L.length) :
   ∃ h', bS n (.ptr b o) (.agg cs) h = some (.tup [], h') /\ bD h' b (L.take o ++ cs ++ L.drop (o + n)) /\ zJ b h h' := by
 subst hn; obtain ⟨h', f1, f2, f3⟩ := hb.store (vs := cs) (o := o) hv ho; refine ⟨h', ?_, f2, f3⟩; rw [aAE]; have : (DV.agg cs).cells = cs := rfl; simp only [dSt, this, Nat.beq_refl, cond_true, f1, Option.map_some]
theorem iK {R : Type} (cs : List DV) (h : H) (k : DV -> H -> Option R) : dP (.agg cs) h k = k (.ptr h.size 0) (h.push (.blk ⟨cs.length, cs.length, false, true, Tr.ofL cs⟩)) := by
 simp only [dP, aZ, H.pushK_eq]; rfl
theorem oN {R : Type} {v : DV} (hv : v.one = true) (h : H) (k : DV -> H -> Option R) : dP v h k = k (.ptr h.size 0) (h.push (.blk ⟨1, 1, false, true, Tr.ofL [v]⟩)) := by
 simp only [dP, aZ, H.pushK_eq, xB hv]; rfl
theorem bD.pushed {L : List DV} {es : Nat} : bD (h.push (.blk ⟨L.length, es, false, true, Tr.ofL L⟩)) h.size L :=
 ⟨by rw [H.size_push]; omega, es, _, by rw [H.get_push, if_pos rfl], λ j x hj => by rw [Tr.at_ofL]; exact hj⟩
end
@[simp] theorem bI (b o : Nat) : aW (.ptr b o) = some (.ptr b o) := id rfl
theorem aK (off b o : Nat) : aH off (.ptr b o) = some (.ptr b (o + off)) := by simp only [aH, aZ]
theorem aGC {len es b o j : Nat} (hj : j < len) (k : IntKind) : nZ len es (.ptr b o) (.int k (.ofNat j)) = some (.ptr b (o + j * es)) := by
 simp only [nZ, pR, aZ]; rw [dV hj]; rfl
end Go.DI
namespace Go.DI
open Go.RowKit
theorem wD (k' : IntKind) {a b : Nat} (hb : b <= 64) : aDv (.int .u64 (.ofNat a)) (.int k' (.ofNat b)) = some (.int .u64 (.ofNat (a * 2 ^ b % 18446744073709551616))) := by
 show pH .shl .u64 (.ofNat a) (.ofNat b) = _; unfold pH; rw [show iLt (.ofNat b) 0 = false from by rw [mP]; simp]
 simp only [cond_false, jP]; rw [show min (Int.ofNat b).toNat IntKind.u64.bits = b from by show min b 64 = b; omega, zT]
 congr 2
theorem aTc {a : Nat} (ha : a < 9223372036854775808) (k' : IntKind) : xT (.int .i64 (.negSucc a)) (.int k' (.ofNat 63)) = some (.int .i64 (.negSucc 0)) := by
 show pH .shr .i64 (.negSucc a) (.ofNat 63) = _; unfold pH; rw [show iLt (.ofNat 63) 0 = false from by rw [mP]; simp]
 simp only [cond_false, oH]; rw [show min (Int.ofNat 63).toNat IntKind.i64.bits = 63 from rfl]
 congr 2
 rw [Int.fdiv_eq_ediv_of_nonneg _ (by omega)]
 omega
theorem aUP {u : Nat} (h : u < 18446744073709551616) : aDA (.int .u64 (.ofNat u)) (.int .u64 (.ofNat 127)) = some (.int .u64 (.ofNat (u % 128))) := by
 have e : u &&& 127 = u % 128 := Nat.and_two_pow_sub_one_eq_mod u 7; rw [aTi .u64 u 127 (by show u < 2 ^ 64; omega) (by decide), e, uB (by omega)]
theorem aUL (k : IntKind) (a b : Nat) (ha : a < 2 ^ k.bits) (hb : b < 2 ^ k.bits) : aTf (.int k (.ofNat a)) (.int k (.ofNat b)) = some (.int k (k.wrap (.ofNat (a ||| b)))) := by
 show (bif kEq k k then aZK k (.ofNat a) (.ofNat b) else none) = _; rw [jC]; show (bif Nat.blt a (2 ^ k.bits) && Nat.blt b (2 ^ k.bits) then jE k (.ofNat (Nat.lor a b)) else _) = _; rw [dV ha, dV hb]; exact jP _ _
set_option maxRecDepth 100000 in
theorem bDU : ∀ x, x < 256 -> x ||| 128 = x % 128 + 128 := by decide
theorem aQz {x : Nat} (h : x < 256) : aTf (.int .u8 (.ofNat x)) (.int .u8 (.ofNat 128)) = some (eS (x % 128 + 128)) := by
 rw [aUL .u8 x 128 (by show x < 2 ^ 8; omega) (by decide), bDU x h]
 unfold eS; rw [wrap_u8 (by omega)]
theorem qJ (u : Nat) (k : IntKind) : fG .u8 (.int k (.ofNat u)) = some (.int .u8 (.ofNat (u % 256))) := by
 rw [oS, IntKind.wrap_u8]
 congr 2
theorem qT {b : Nat} (h : b < 18446744073709551616) (k : IntKind) : fG .u64 (.int k (.ofNat b)) = some (.int .u64 (.ofNat b)) := by
 rw [oS, uB h]
theorem aHW {a b : Nat} (k k' : IntKind) (hb : b <= k.bits) : xT (.int k (.ofNat a)) (.int k' (.ofNat b)) = some (.int k (.ofNat (a / 2 ^ b))) := aTd k k' a b hb
theorem aKz {x : Nat} (h : x < 18446744073709551616) : x ^^^ 18446744073709551615 = 18446744073709551615 - x := by
 apply Nat.eq_of_testBit_eq; intro i; rw [Nat.testBit_xor, show 18446744073709551615 - x = 2 ^ 64 - (x + 1) from by omega, Nat.testBit_two_pow_sub_succ h, show 18446744073709551615 = 2 ^ 64 - 1 from rfl, Nat.testBit_two_pow_sub_one]
 by_cases hi : i < 64
 · simp [hi]
 · have : x.testBit i = false := Nat.testBit_lt_two_pow (Nat.lt_of_lt_of_le h (by
     show 2 ^ 64 <= 2 ^ i; exact Nat.pow_le_pow_right (by omega) (by omega)))
   simp [hi, this]
def zz (n : Int) : Nat := match n with
 | .ofNat a => 2 * a
 | .negSucc a => 2 * a + 1
theorem aUH {n : Int} (h1 : -9223372036854775808 <= n) (h2 : n < 9223372036854775808) : ∃ (x y z : DV), fG .u64 (.int .i64 n) = some x /\ aDv x (.int .u64 (.ofNat 1)) = some y /\ xT (.int .i64 n) (.int .u64 (.ofNat 63)) = some z /\
   ∃ w, fG .u64 z = some w /\ aDt y w = some (.int .u64 (.ofNat (zz n))) := by
 cases n with
 | ofNat a =>
   simp only [Int.ofNat_eq_natCast] at h2; refine ⟨_, _, _, qT (by omega) _, wD _ (by omega), aHW _ _ (by decide), _, qT (by omega) _, ?_⟩
   have e1 : a * 2 ^ 1 % 18446744073709551616 = 2 * a := by omega
   have e2 : a / 2 ^ 63 = 0 := by omega
   rw [e1, e2, aAR .u64 _ _ (by show 2 * a < 2 ^ 64; omega) (by decide), Nat.xor_zero, uB (by omega)]; rfl
 | negSucc a =>
   have ha : a < 9223372036854775808 := by omega
   have e0 : IntKind.u64.wrap (.negSucc a) = .ofNat (18446744073709551615 - a) := by
     rw [zT]; simp only [Int.ofNat_eq_natCast]; omega
   have e3 : IntKind.u64.wrap (.negSucc 0) = .ofNat 18446744073709551615 := by rw [zT]; rfl
   refine ⟨.int .u64 (.ofNat (18446744073709551615 - a)), _, _, by rw [oS, e0], wD _ (by omega), aTc ha _, .int .u64 (.ofNat 18446744073709551615), by rw [oS, e3], ?_⟩
   have e1 : (18446744073709551615 - a) * 2 ^ 1 % 18446744073709551616 = 18446744073709551614 - 2 * a := by omega
   rw [e1, aAR .u64 _ _ (by show 18446744073709551614 - 2 * a < 2 ^ 64; omega) (by decide), aKz (by omega), uB (by omega)]
   have e5 : 18446744073709551615 - (18446744073709551614 - 2 * a) = 2 * a + 1 := by omega
   rw [e5]; rfl
theorem aZh {n : Int} (h1 : -9223372036854775808 <= n) (h2 : n < 9223372036854775808) : ∃ (x y : DV), fG .u64 (.int .i64 n) = some x /\ aDv x (.int .u64 (.ofNat 1)) = some y /\
   (0 <= n -> y = .int .u64 (.ofNat (zz n))) /\ (n < 0 -> aDt y (.int .u64 (.ofNat 18446744073709551615)) = some (.int .u64 (.ofNat (zz n)))) := by
 cases n with
 | ofNat a =>
   simp only [Int.ofNat_eq_natCast] at h2; refine ⟨_, _, qT (by omega) _, wD _ (by omega), λ _ => ?_, λ h => absurd h (by simp only [Int.ofNat_eq_natCast]; omega)⟩
   have e1 : a * 2 ^ 1 % 18446744073709551616 = 2 * a := by omega
   rw [e1]; rfl
 | negSucc a =>
   have ha : a < 9223372036854775808 := by omega
   have e0 : IntKind.u64.wrap (.negSucc a) = .ofNat (18446744073709551615 - a) := by
     rw [zT]; simp only [Int.ofNat_eq_natCast]; omega
   refine ⟨.int .u64 (.ofNat (18446744073709551615 - a)), _, by rw [oS, e0], wD _ (by omega), λ h => absurd h (by omega), λ _ => ?_⟩
   have e1 : (18446744073709551615 - a) * 2 ^ 1 % 18446744073709551616 = 18446744073709551614 - 2 * a := by omega
   rw [e1, aAR .u64 _ _ (by show 18446744073709551614 - 2 * a < 2 ^ 64; omega) (by decide), aKz (by omega), uB (by omega)]
   have e5 : 18446744073709551615 - (18446744073709551614 - 2 * a) = 2 * a + 1 := by omega
   rw [e5]; rfl
theorem bN {R : Type} {n es : Nat} (L : List DV) (h : H) (k : DV -> H -> Option R) : dN n es (.list L) h k = k (.ptr h.size 0) (h.push (.blk ⟨n, es, false, true, Tr.ofL L⟩)) := by
 simp only [dN, H.pushK_eq]; rfl
theorem gF (k : IntKind) (n : Int) : tY (some (.int k n)) (.int k n) = true := by
 show pQ (.int k n) (.int k n) = true; simp only [pQ, Bool.and_eq_true]
 first | (constructor <;> simp) | simp
theorem aIl (s : Ln) : tY (some (.str s)) (.str s) = true := by
 show pQ (.str s) (.str s) = true; simp [pQ]
theorem dG (rd : Rd) (b o : Nat) : eN .ptr false rd (.ptr b o) .nilp = some (.bool false) := rfl
theorem uE (rd : Rd) (b o : Nat) : eN .ptr true rd (.ptr b o) .nilp = some (.bool true) := rfl
def aSY (n0 : Nat) (h : H) (v : DV) (L : List DV) : Prop := cE n0 h v L \/
 ∃ b o B, v = .slc b o L.length L.length false /\ h.get b = some (.blk B) /\ ∀ j x, L[j]? = some x -> rdCell h.get b (o + j) = some x
theorem aSY.push1 {n0 : Nat} {h : H} {v x z : DV} {L : List DV} {bytes : Nat} (o : aSY n0 h v L) (hlt : ∀ b o n c op, v = .slc b o n c op -> b < h.size) (hn0 : n0 <= h.size) (h1 : x.one = true)
   (hs : (L.length + 1) * bytes < aU) (hs2 : L.length + 1 < aU) : ∃ v' h', (∀ (R : Type) (k : DV -> H -> Option R), (fT 1 1 [z] [(0, 1, x)] h λ y h' => wK (cF 1 bytes v y h') k) = k v' h') /\ cE n0 h' v' (L ++ [x]) /\ cD n0 h h' := by
 rcases o with o | ⟨b, off, B, rfl, hB, hc⟩
 · exact o.push1 hn0 h1 hs hs2
 · have hb := hlt b off _ _ _ rfl
   let h1' := h.push (.blk ⟨1 * 1, 1, false, true, Tr.ofL [x]⟩)
   have hp : cO h1' h.size [x] := cO.pushed (h := h) (L := [x]) (pl := true); have hB' : h1'.get b = some (.blk B) := by show (h.push _).get b = _; rw [H.get_push, if_neg (by omega)]; exact hB
   have hrow : rdCells h1'.get b off L.length = some L := lF L off λ j y hj => by rw [jV (hB'.trans hB.symm)]; exact hc j y hj
   have hf : gX (gO [z] 1) [(0, 1, x)] = some [x] := by simp [gX, gO, xB h1, uM]; rfl
   have hne : ¬ L.length + 1 <= L.length := by omega
   have hap : cF 1 bytes (.slc b off L.length L.length false) (.slc h.size 0 1 1 false) h1' = some (.slc h1'.size 0 (L.length + 1) (L.length + 1) true, h1'.push (.blk ⟨L.length + 1, 1, false, true, Tr.ofL (L ++ [x])⟩)) := by
     rw [eW]; have hx : dT 1 h1'.get (.slc h.size 0 1 1 false) = some [x] := by
       have := hp.cells_all
       simpa [dT] using this
     simp only [fQ, srcLen, hx, Option.bind_some, aZ, iT hne, cond_false, dV hs, dV hs2, Bool.and_self, cond_true, hB', Nat.mul_one, hrow, H.pushK_eq]
   refine ⟨.slc h1'.size 0 (L.length + 1) (L.length + 1) true, h1'.push (.blk ⟨L.length + 1, 1, false, true, Tr.ofL (L ++ [x])⟩), λ R k => ?_, .inr ⟨h1'.size, by show n0 <= h1'.size; rw [show h1'.size = h.size + 1 from rfl]; omega, ?_, ?_⟩, ?_⟩
   · simp only [fT, hf, Option.bind_some, H.pushK_eq]; show wK (cF 1 bytes (.slc b off L.length L.length false) (.slc h.size 0 1 1 false) h1') k = _; rw [hap]; rfl
   · simp
   · have := cO.pushed (h := h1') (L := L ++ [x]) (pl := true); rw [List.length_append] at this; exact this
   · exact (cD.push hn0 _).trans (cD.push (by show n0 <= h1'.size; rw [show h1'.size = h.size + 1 from rfl]; omega) _)
theorem cE.lt_size {n0 : Nat} {h : H} {v : DV} {L : List DV} (o : cE n0 h v L) : ∀ b o n c op, v = .slc b o n c op -> b < h.size := by
 intro b off n c op e; rcases o with ⟨rfl, _⟩ | ⟨b', _, rfl, hb⟩
 · cases e
 · cases e; exact hb.1
def aKt (h : H) (v : DV) (L : List DV) : Prop := aSY h.size h v L /\ ∀ b o n c op, v = .slc b o n c op -> b < h.size
theorem cE.appendStr {n0 : Nat} {h : H} {v : DV} {s : Ln} (o : cE n0 h v (bR s)) (hn0 : n0 <= h.size) (t : Ln) (hs : s.length + t.length <= 1000000) :
   ∃ v' h', cF 1 1 v (.str t) h = some (v', h') /\ cE n0 h' v' (bR (s ++ t)) /\ cD n0 h h' := by
 have e1 : (t.map λ b => DV.int .u8 (.ofNat b)) = bR t := rfl
 by_cases ht : t = []
 · subst ht; refine ⟨v, h, ?_, by simpa using o, cD.refl _ _⟩
   rw [eW]; rcases o with ⟨rfl, e⟩ | ⟨b, _, rfl, hb⟩
   · simp only [fQ, srcLen, dT, aZ, List.length_nil, Option.bind_some, Nat.beq_refl, cond_true]
   · simp only [fQ, srcLen, dT, aZ, List.length_nil, Option.bind_some, Nat.beq_refl, cond_true, Nat.add_zero, Nat.ble_eq_true_of_le (Nat.le_refl _)]; rfl
 · have := o.append (x := .str t) (new := bR t) (bytes := 1) hn0 (by simp only [srcLen, aZ, bW]) (by simp only [dT, Nat.beq_refl, cond_true, e1]) (qW t) (by intro e; exact ht (by simpa [bR] using e)) (by simp only [bW]; unfold aU; omega) (by simp only [bW]; unfold aU; omega)
   rw [eI]; exact this
theorem cZ.text {h : H} {v : DV} {s : Ln} (r : cZ h v (bR s)) (hok : bA s = true) : mJ h.get v = some (.str s) := by
 have hs := r.src; rcases r with ⟨e, hv⟩ | ⟨b, o, c, op, rfl, _⟩
 · have : s = [] := by
     cases s with
     | nil => rfl
     | cons _ _ => cases e
   subst this; rcases hv with rfl | ⟨b, o, o2, rfl⟩ <;> rfl
 · simp only [dT, Nat.mul_one] at hs; rw [bW] at hs ⊢; simp only [mJ, cH, hs, Option.bind_some, vJ hok, iD]
theorem aTO {R : Type} {z x : DV} (hx : x.one = true) (h : H) (k : DV -> H -> Option R) : fT 1 1 [z] [(0, 1, x)] h k = k (.slc h.size 0 1 1 false) (h.push (.blk ⟨1, 1, false, true, Tr.ofL [x]⟩)) := by
 have hf : gX (gO [z] 1) [(0, 1, x)] = some [x] := by simp [gX, gO, xB hx, uM]; rfl
 simp only [fT, hf, Option.bind_some, H.pushK_eq, Nat.mul_one]
theorem cZ.one {h : H} {x : DV} : cZ (h.push (.blk ⟨1, 1, false, true, Tr.ofL [x]⟩)) (.slc h.size 0 1 1 false) [x] := (cO.pushed (h := h) (L := [x]) (pl := true)).row false
theorem bD.all {h : H} {b n : Nat} {L : List DV} (hb : bD h b L) (hn : L.length = n) : aJ n h.get (.ptr b 0) = some (.agg L) := by
 rw [hb.readN (by omega), List.drop_zero, List.take_of_length_le (by omega)]
theorem bD.setAll {h : H} {b n : Nat} {L cs : List DV} (hb : bD h b L) (hL : L.length = n) (hn : cs.length = n) (hv : cs.all DV.one = true) :
   ∃ h', bS n (.ptr b 0) (.agg cs) h = some (.tup [], h') /\ bD h' b cs /\ zJ b h h' := by
 obtain ⟨h', f1, f2, f3⟩ := hb.setN (o := 0) hn hv (by omega)
 refine ⟨h', f1, ?_, f3⟩; rw [List.take_zero, List.nil_append, Nat.zero_add, List.drop_of_length_le (by omega), List.append_nil] at f2
 exact f2
end Go.DI
end
