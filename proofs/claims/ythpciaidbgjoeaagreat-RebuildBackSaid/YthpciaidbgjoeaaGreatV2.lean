/- Specs. No condition beyond the theorems' own. -/
import Derived.Test.YthpciaidbgjoeaaGreatV1
set_option linter.unusedVariables false
set_option linter.unusedSimpArgs false
noncomputable section
namespace Go.Proofs.YthpciaidbgjoeaaGreat
open Go.DI
def bBp : DV -> Ln
 | .ptr b _ | .slc b _ _ _ _ | .slE b _ _ | .mp b => [b]
 | _ => []
def bGN : DV -> Ln
 | .fn _ a c => a.flatMap bBp ++ c.flatMap bBp
 | .ifc _ v => bBp v
 | v => bBp v
def ptrB (t : Tr DV) (n : Nat) : Ln := Nat.rec (motive := λ _ => Ln) [] (λ j ih => match t.at_ j with
 | some v => bGN v ++ ih
 | none => ih) n
def ptrO : eE -> Ln
 | .blk B => ptrB B.t B.n
 | .map es _ => es.flatMap λ e => bGN e.key ++ bGN e.val
 | _ => []
def bId : eE -> Bool
 | .blk B => Nat.blt 100 B.n
 | _ => false
def gcK (h : H) (n : Nat) : Ln -> Tr eE -> Tr eE := Nat.rec (motive := λ _ => Ln -> Tr eE -> Tr eE) (λ _ t => t) (λ _ ih l t => match l with
 | [] => t
 | b :: l => match t.at_ b with
   | some _ => ih l t
   | none => match h.get b with
     | some o => bif bId o then ih l t else Tr.setK o (Pa.of b) t λ t => ih (ptrO o ++ l) t
     | none => ih l t) n
def gcH (root : Nat) (h : H) : H := ⟨h.size, gcK h 600 [root] .e⟩
theorem zO (h : H) : ∀ (n : Nat) (l : Ln) (t : Tr eE), (∀ b o, t.at_ b = some o -> h.get b = some o) -> ∀ b o, (gcK h n l t).at_ b = some o -> h.get b = some o
 | 0, l, t, ht => ht
 | n + 1, [], t, ht => ht
 | n + 1, b :: l, t, ht => by
   intro c o hc
   replace hc : ((match t.at_ b with
     | some _ => gcK h n l t
     | none => match h.get b with
       | some o => bif bId o then gcK h n l t else Tr.setK o (Pa.of b) t λ t => gcK h n (ptrO o ++ l) t
       | none => gcK h n l t) : Tr eE).at_ c = some o := hc
   split at hc
   · exact zO h n l t ht c o hc
   · split at hc
     · rename_i x hx; by_cases hbig : bId x = true
       · rw [hbig, cond_true] at hc; exact zO h n l t ht c o hc
       rw [Bool.eq_false_iff.2 hbig, cond_false, Tr.setK_eq] at hc; refine zO h n _ _ (λ d y hy => ?_) c o hc
       rw [show Tr.set x (Pa.of b) t = t.put b x from rfl, Tr.at_put] at hy
       split at hy
       · rename_i e; cases hy; rw [e]; exact hx
       · exact ht d y hy
     · exact zO h n l t ht c o hc
theorem aOK {root : Nat} {h : H} {b : Nat} {o : eE} (e : (gcH root h).get b = some o) : h.get b = some o := zO h 600 [root] .e (λ b o h => by rw [Tr.at_e] at h; cases h) b o e
theorem bPx {V : Vl} {O : Nat -> Prop} {A : Re} {h g : H} (r : HR V O A h g) (root : Nat) : HR V O A (gcH root h) g :=
 ⟨r.inj, r.dom, λ b c o hb ho => r.obj0 b c o hb (aOK ho), λ b hb => ⟨(r.opq b hb).1, by
   cases e : (gcH root h).get b with
   | none => rfl
   | some o => have := aOK e; rw [(r.opq b hb).2] at this; cases this⟩, r.unk⟩
def aJb (E : aQ) (cl kind : Nat) (xs : List DV) (a : DV) (h : H) : Option (DV × H) := h.pushK (.blk ⟨xs.length, 1, false, true, Tr.ofL xs⟩) λ h' => aB E 29 [a, .int .i64 (.ofNat cl), .int .i64 (.ofNat kind), .slc h.size 0 xs.length xs.length false] h'
def bGE (h : H) (id i s : Nat) : Bool := isT (aB Eb 62 [.ptr 47 0, .int .i64 (.ofNat id), .int .i64 (.ofNat i)] h) λ v h' => gL v (.tup [.int .i64 (.ofNat s), .bool true]) && uO h h' h.size
def aKB (h : H) (id i s : Nat) : Prop := ∃ h', aB Eb 62 [.ptr 47 0, .int .i64 (.ofNat id), .int .i64 (.ofNat i)] h = some (.tup [.int .i64 (.ofNat s), .bool true], h') /\ uO h h' h.size = true
theorem aOe {h : H} {id i s : Nat} (e : bGE h id i s = true) : aKB h id i s := by
 obtain ⟨v, h', e1, c⟩ := tC e; rw [Bool.and_eq_true] at c; rw [gO _ _ c.1] at e1; exact ⟨h', e1, c.2⟩
def bHd (v : DV) (h : H) (j : Nat) : Bool := match v with
 | .tup [.int .i64 (.ofNat 0), .slc b 0 2 2 _] => isO (rdCell h.get b 0) λ x => gL x (.int .i64 (.ofNat j))
 | _ => false
theorem bBz {v : DV} {h : H} {j : Nat} (e : bHd v h j = true) : ∃ b op, v = .tup [.int .i64 (.ofNat 0), .slc b 0 2 2 op] /\ rdCell h.get b 0 = some (.int .i64 (.ofNat j)) := by
 unfold bHd at e; split at e
 · obtain ⟨x, e1, e2⟩ := yC e; rw [gO _ _ e2] at e1; exact ⟨_, _, rfl, e1⟩
 · cases e
def wdB (h : H) : Bool := isO (rdCell h.get 47 2) λ x => gL x (.int .i64 (.ofNat 4))
def gcB (h : H) (k : H -> Bool) : Bool := k (gcH 47 h)
def wrB (j : Nat) (h : H) (k : H -> Bool) : Bool := stB h 47 46 && wdB h && isT (aJb Eb 0 1 [.mp (2 * j + 3)] (.ptr 47 0) h) λ v h => bHd v h j && gcB h λ h => stB h 47 46 && wdB h && ((List.range 4).all λ i => bGE h j i ((i + j) % 4)) && isT (aJb Eb 0 2 [.int .i64 (.ofNat j)] (.ptr 47 0) h) λ v h => aKz v 0 && gcB h k
structure Wr (j : Nat) (h h' : H) : Prop where
 st : Stg h 47 46
 wd : rdCell h.get 47 2 = some (.int .i64 (.ofNat 4))
 run : ∃ b op hB l, aJb Eb 0 1 [.mp (2 * j + 3)] (.ptr 47 0) h = some (.tup [.int .i64 (.ofNat 0), .slc b 0 2 2 op], hB) /\ rdCell hB.get b 0 = some (.int .i64 (.ofNat j)) /\ Stg (gcH 47 hB) 47 46 /\ rdCell (gcH 47 hB).get 47 2 = some (.int .i64 (.ofNat 4)) /\ (∀ i, i < 4 -> aKB (gcH 47 hB) j i ((i + j) % 4)) /\ ∃ hC, aJb Eb 0 2 [.int .i64 (.ofNat j)] (.ptr 47 0) (gcH 47 hB) = some (.tup [.int .i64 (.ofNat 0), l], hC) /\ h' = gcH 47 hC
theorem bGs {j : Nat} {h : H} {k : H -> Bool} (e : wrB j h k = true) : ∃ h', Wr j h h' /\ k h' = true := by
 unfold wrB at e; rw [Bool.and_eq_true, Bool.and_eq_true] at e; obtain ⟨⟨e1, e2⟩, e3⟩ := e; obtain ⟨x, e4, e5⟩ := yC e2; rw [gO _ _ e5] at e4; obtain ⟨v, hB, e6, e7⟩ := tC e3; rw [Bool.and_eq_true] at e7; obtain ⟨f1, f2⟩ := e7; unfold gcB at f2; rw [Bool.and_eq_true, Bool.and_eq_true, Bool.and_eq_true] at f2; obtain ⟨⟨⟨f2, f9⟩, f3⟩, f4⟩ := f2; obtain ⟨x9, g1, g2⟩ := yC f9; rw [gO _ _ g2] at g1; obtain ⟨b, op, rfl, f5⟩ := bBz f1; obtain ⟨v, h', f6, f7⟩ := tC f4; rw [Bool.and_eq_true] at f7; obtain ⟨l, rfl⟩ := aEb f7.1; exact ⟨_, ⟨aCE e1, e4, b, op, hB, l, e6, f5, aCE f2, g1, λ i hi => aOe (List.all_eq_true.1 f3 i (List.mem_range.2 hi)), h', f6, rfl⟩, f7.2⟩
def wrs (n : Nat) : Nat -> H -> (H -> Bool) -> Bool := Nat.rec (motive := λ _ => Nat -> H -> (H -> Bool) -> Bool) (λ _ h k => k h) (λ _ ih j h k => wrB j h λ h => ih (j + 1) h k) n
def sgL (lost id i : Nat) : Nat := bif Nat.beq ((i + id) % 4) lost then 4 else (i + id) % 4
def wA (lost id : Nat) : Nat := (lost + 3 * id) % 4
def strB (h : H) (id lost : Nat) : Bool := isT (aB Eb 65 [.ptr 46 0, .int .i64 (.ofNat id)] h) λ v h1 => uO h h1 h.size && match v with
 | .tup [.agg [.int .i64 (.ofNat i0), .int .i64 (.ofNat 2), .int .i64 (.ofNat 0), .int .i64 (.ofNat 1), .mp t, .slc c 0 4 4 true], .bool true] => Nat.beq i0 id && Nat.beq t (2 * id + 3) && isT (aB Eb 71 [.slc c 0 4 4 true, .int .i64 (.ofNat id), .int .i64 (.ofNat 4)] h1) λ u h2 => gL u (.tup [.int .i64 (.ofNat (wA lost id)), .int .i64 (.ofNat 0)]) && uO h h2 h.size
 | _ => false
def aMJ (h : H) (id lost : Nat) : Prop := ∃ c h1 h2, aB Eb 65 [.ptr 46 0, .int .i64 (.ofNat id)] h = some (.tup [.agg [.int .i64 (.ofNat id), .int .i64 (.ofNat 2), .int .i64 (.ofNat 0), .int .i64 (.ofNat 1), .mp (2 * id + 3), .slc c 0 4 4 true], .bool true], h1) /\ uO h h1 h.size = true /\
 aB Eb 71 [.slc c 0 4 4 true, .int .i64 (.ofNat id), .int .i64 (.ofNat 4)] h1 = some (.tup [.int .i64 (.ofNat (wA lost id)), .int .i64 (.ofNat 0)], h2) /\ uO h h2 h.size = true
theorem bBa {h : H} {id lost : Nat} (e : strB h id lost = true) : aMJ h id lost := by
 obtain ⟨v, h1, e1, c⟩ := tC e; rw [Bool.and_eq_true] at c; obtain ⟨c1, c2⟩ := c; split at c2
 · rename_i i0 t cc; rw [Bool.and_eq_true, Bool.and_eq_true] at c2; obtain ⟨⟨d1, d2⟩, d3⟩ := c2; have := Nat.eq_of_beq_eq_true d1; subst this; have := Nat.eq_of_beq_eq_true d2; subst this; obtain ⟨u, h2, e2, d4⟩ := tC d3; rw [Bool.and_eq_true] at d4; rw [gO _ _ d4.1] at e2; exact ⟨cc, h1, h2, e1, c1, e2, d4.2⟩
 · cases c2
def lstB (h : H) (n : Nat) : Bool := isT (aB Eb 42 [.ptr 46 0, .int .i64 (.ofNat 2)] h) λ v h1 => uO h h1 h.size && bif Nat.beq n 0 then gL v .nils else match v with
 | .slc c 0 n' cp _ => Nat.beq n' n && (Nat.ble h.size c && Nat.ble n cp) && match rdCells h1.get c 0 n with
   | some vs => nC vs (bBe n)
   | none => false
 | _ => false
def bDM (h : H) (n : Nat) : Prop := ∃ v h1, aB Eb 42 [.ptr 46 0, .int .i64 (.ofNat 2)] h = some (v, h1) /\ uO h h1 h.size = true /\ ((n = 0 /\ v = .nils) \/ (0 < n /\ ∃ c cp op, v = .slc c 0 n cp op /\ h.size <= c /\ n <= cp /\ rdCells h1.get c 0 n = some (bBe n)))
theorem bBD {h : H} {n : Nat} (e : lstB h n = true) : bDM h n := by
 obtain ⟨v, h1, e1, c⟩ := tC e; rw [Bool.and_eq_true] at c; obtain ⟨c1, c2⟩ := c; refine ⟨v, h1, e1, c1, ?_⟩; by_cases hn : Nat.beq n 0 = true
 · rw [hn, cond_true] at c2; exact .inl ⟨Nat.eq_of_beq_eq_true hn, gO _ _ c2⟩
 · rw [Bool.eq_false_iff.2 hn, cond_false] at c2; have h0 : 0 < n := by
     rcases Nat.eq_zero_or_pos n with h | h
     · subst h; exact absurd rfl hn
     · exact h
   split at c2
   · rw [Bool.and_eq_true, Bool.and_eq_true, Bool.and_eq_true] at c2; have := Nat.eq_of_beq_eq_true c2.1.1; subst this; have k1 := Nat.le_of_ble_eq_true c2.1.2.1; have k2 := Nat.le_of_ble_eq_true c2.1.2.2; have c3 := c2.2; split at c3
     · rename_i vs hvs; rw [pB _ _ c3] at hvs; exact .inr ⟨h0, _, _, _, rfl, k1, k2, hvs⟩
     · cases c3
   · cases c2
def bBk (n lost : Nat) (h : H) : Bool := stB h 47 46 && (((List.range n).all λ id => ((List.range 4).all λ i => bGE h id i (sgL lost id i)) && strB h id lost) && lstB h n)
structure Rdg (n lost : Nat) (h : H) : Prop where
 st : Stg h 47 46
 srv : ∀ id i, id < n -> i < 4 -> aKB h id i (sgL lost id i)
 str : ∀ id, id < n -> aMJ h id lost
 lst : bDM h n
theorem aOx {n lost : Nat} {h : H} (e : bBk n lost h = true) : Rdg n lost h := by
 unfold bBk at e; rw [Bool.and_eq_true, Bool.and_eq_true] at e; obtain ⟨e1, e2, e3⟩ := e; have e4 := λ id (hi : id < n) => Bool.and_eq_true_iff.1 (List.all_eq_true.1 e2 id (List.mem_range.2 hi))
 exact ⟨aCE e1, λ id i h1 h2 => aOe (List.all_eq_true.1 (e4 id h1).1 i (List.mem_range.2 h2)), λ id h1 => bBa (e4 id h1).2, bBD e3⟩
def bGO (n lost : Nat) (h : H) : Bool := aWo Eb 5 1 [.int .i64 (.ofNat lost)] 47 46 h λ v h => aKz v 0 && stB h 47 46 && aWo Eb 6 2 [] 47 46 h λ v h => aGy v h 4 && gcB h λ h => bBk n lost h && aWo Eb 7 3 [] 47 46 h λ v h => aKz v 0 && gcB h λ h => bBk n lost h
structure Pos (n lost : Nat) (h hR hD : H) : Prop where
 fl : ∃ l hF, Cmd Eb 5 1 [.int .i64 (.ofNat lost)] 47 46 h (.tup [.int .i64 (.ofNat 0), l]) hF /\ Stg hF 47 46 /\ ∃ b op hS, Cmd Eb 6 2 [] 47 46 hF (.tup [.int .i64 (.ofNat 0), .slc b 0 2 2 op]) hS /\ rdCell hS.get b 0 = some (.int .i64 (.ofNat 4)) /\ hR = gcH 47 hS
 rd : Rdg n lost hR
 fi : ∃ l hE, Cmd Eb 7 3 [] 47 46 hR (.tup [.int .i64 (.ofNat 0), l]) hE /\ hD = gcH 47 hE
 rd2 : Rdg n lost hD
theorem bBq {n lost : Nat} {h : H} (e : bGO n lost h = true) : ∃ hR hD, Pos n lost h hR hD := by
 obtain ⟨v, hF, cA, e1⟩ := aHj e; rw [Bool.and_eq_true, Bool.and_eq_true] at e1; obtain ⟨l, rfl⟩ := aEb e1.1.1; obtain ⟨v, hS, cB, e2⟩ := aHj e1.2; rw [Bool.and_eq_true] at e2; obtain ⟨b, op, rfl, hb⟩ := aLF e2.1; have e3 := e2.2; unfold gcB at e3; rw [Bool.and_eq_true] at e3; obtain ⟨v, hE, cC, e4⟩ := aHj e3.2; rw [Bool.and_eq_true] at e4; obtain ⟨l3, rfl⟩ := aEb e4.1; exact ⟨_, _, ⟨l, hF, cA, aCE e1.1.2, b, op, hS, cB, hb, rfl⟩, aOx e3.1, ⟨l3, hE, cC, rfl⟩, aOx e4.2⟩
def chN (n : Nat) : Bool := arrB Eb 4 1 λ a m h => Nat.beq a 47 && (Nat.beq m 46 && gcB h λ h => wrs n 0 h λ h => (List.range 4).all λ lost => bGO n lost h)
end Go.Proofs.YthpciaidbgjoeaaGreat
end
