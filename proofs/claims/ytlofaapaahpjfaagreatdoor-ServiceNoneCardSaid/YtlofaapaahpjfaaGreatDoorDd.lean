/- Insertion into slices of unknown capacity; rows of structs; slices of plain structs that a law is handed. No condition. -/
import Derived.Deep.Slices
import Derived.KernelRfl
import Derived.Test.YtlofaapaahpjfaaGreatDoorDc
set_option linter.unusedVariables false
set_option linter.unusedSimpArgs false
namespace Go.DI
open Go.RowKit

/-! ## slices.Insert, told by what it computes, where the slice's capacity is not known -/
noncomputable def F_ins (es : Nat) : Fun := fun args h => match args with
  | [.slc b 0 n cap true, .int .i64 (.ofNat i), .slc vb vo 1 vc vop] => match h.get b, h.get vb with
    | some (.blk B), some (.blk V) =>
      bif (!B.ro) && Nat.beq B.es es && Nat.beq B.n (cap * es) && Nat.ble n cap && Nat.ble i n && !(Nat.beq vb b) && V.pl && Nat.blt n 1000000 then
        (rdCells h.get b 0 (n * es)).bind fun L => (rdCells h.get vb vo es).bind fun N =>
          bif L.all DV.one && N.all DV.one then some (.slc h.size 0 (n + 1) (n + 1) true, (h.put b .dead).push (.blk ⟨(n + 1) * es, es, false, false, Tr.ofL (L.take (i * es) ++ N ++ L.drop (i * es))⟩)) else none
      else none
    | _, _ => none
  | _ => none
def InsRes (es b n : Nat) (L' : List DV) (h0 : H) (v : DV) (h' : H) : Prop :=
  ∃ k c2 op2 K, v = .slc k 0 (n + 1) c2 op2 ∧ b ≤ k ∧ h'.get k = some (.blk K) ∧ K.ro = false ∧ K.n = c2 * es ∧ n + 1 ≤ c2 ∧ ((op2 = false ∧ K.es = 0) ∨ (op2 = true ∧ K.es = es)) ∧
    (∀ j x, L'[j]? = some x → K.t.at_ j = some x) ∧ (∀ c, c < b → h'.get c = h0.get c) ∧ h0.size ≤ h'.size
section
variable {N0 : Nat} {w0 : World} {m : Mp} {h : H} {w : World}
/-- A block of D comes to stand for a block of the machine that is there. -/
theorem WRel.bindAt (hw : WRel N0 w0 m h w) {k : Nat} {i : Info} {o : DObj} (hk : k < h.size) (hn : m k = none) (hg : h.get k = some o) (hlt : i.r < w.heap.size) (hr : ObjRel (m.ins k i) i o w) (hN : o.writes = true → N0 ≤ i.r)
    (hfree : ∀ c j o', m c = some j → j.r = i.r → h.get c = some o' → o'.live = true → False) : WRel N0 w0 (m.ins k i) h w := by
  have hle := Mp.ins_le (i := i) hn
  refine ⟨fun b j e => ?_, fun b j e => ?_, fun b b' j j' o o' e e' hrr g g' l l' => ?_, hw.below, hw.base, hw.wf, hw.good⟩
  · simp only [Mp.ins] at e
    split at e
    · rename_i hb; subst hb; cases e; exact ⟨hk, hlt⟩
    · exact hw.lt b j e
  · simp only [Mp.ins] at e
    split at e
    · rename_i hb; subst hb; cases e; exact ⟨o, hg, hr, hN⟩
    · obtain ⟨o', g', r', n'⟩ := hw.has b j e
      exact ⟨o', g', r'.keep hle rfl, n'⟩
  · simp only [Mp.ins] at e e'
    split at e <;> split at e'
    · rename_i hb hb'; rw [hb, hb']
    · cases e; exact (hfree b' j' o' e' hrr.symm g' l').elim
    · cases e'; exact (hfree b j o e hrr g l).elim
    · exact hw.inj b b' j j' o o' e e' hrr g g' l l'
end
theorem rdCells_length {rd : Rd} {b : Nat} : ∀ {n a : Nat} {vs : List DV}, rdCells rd b a n = some vs → vs.length = n
  | 0, a, vs, e => by simp only [rdCells, Option.some.injEq] at e; subst e; rfl
  | n + 1, a, vs, e => by
    simp only [rdCells] at e
    split at e
    · rename_i x xs _ h2
      cases e
      simp [rdCells_length h2]
    · cases e
theorem rdCells_congr {rd rd' : Rd} {b : Nat} : ∀ {n a : Nat}, (∀ j, a ≤ j → j < a + n → rdCell rd b j = rdCell rd' b j) → rdCells rd b a n = rdCells rd' b a n
  | 0, a, _ => rfl
  | n + 1, a, e => by
    simp only [rdCells]
    rw [e a (Nat.le_refl _) (by omega), rdCells_congr fun j h1 h2 => e j (by omega) (by omega)]
theorem all_of {p q : Bool} (h : (p && q) = true) : p = true ∧ q = true := by simpa using h
theorem ins_sound {P : Program} {f : FuncId} {S : Fun} {es : Nat} (hS : Sound P f S) (hes : 0 < es)
    (hrun : ∀ (b n c i vb vo vc : Nat) (vop pl : Bool) (h : H) (L N : List DV) (V : Blk) (t : Tr DV), i ≤ n → n ≤ c → n < 1000000 → L.length = n * es → N.length = es → L.all DV.one = true → N.all DV.one = true → vb < b → b < h.size →
      h.get b = some (.blk ⟨c * es, 0, false, pl, t⟩) → (∀ j x, L[j]? = some x → t.at_ j = some x) → h.get vb = some (.blk V) → V.pl = true → rdCells h.get vb vo es = some N →
      ∃ v h', S [.slc b 0 n c false, .int .i64 (.ofNat i), .slc vb vo 1 vc vop] h = some (v, h') ∧ InsRes es b n (L.take (i * es) ++ N ++ L.drop (i * es)) h v h') :
    Sound P f (F_ins es) := by
  intro N0 w0 m h w args args' v h' hr ht hw
  unfold F_ins at hr
  split at hr
  case h_2 => cases hr
  rename_i b n cap i vb vo vc vop
  split at hr
  case h_2 => cases hr
  rename_i B V hB hV
  obtain ⟨hc, hr⟩ := bif_some' hr
  simp only [Bool.and_eq_true, Bool.not_eq_true', Nat.blt_eq] at hc
  obtain ⟨⟨⟨⟨⟨⟨⟨c1, c2⟩, c3⟩, c4⟩, c5⟩, c6⟩, c7⟩, c8⟩ := hc
  have c2 := Nat.eq_of_beq_eq_true c2
  have c3 := Nat.eq_of_beq_eq_true c3
  have c4 := Nat.le_of_ble_eq_true c4
  have c5 := Nat.le_of_ble_eq_true c5
  have c6 : vb ≠ b := fun hh => by rw [hh, Nat.beq_refl] at c6; cases c6
  cases hL : rdCells h.get b 0 (n * es) with
  | none => rw [hL] at hr; cases hr
  | some L =>
  rw [hL] at hr
  cases hN : rdCells h.get vb vo es with
  | none => rw [hN] at hr; cases hr
  | some N =>
  rw [hN] at hr
  simp only [Option.bind_some] at hr
  obtain ⟨hc2, hr⟩ := bif_some' hr
  obtain ⟨a1, a2⟩ := all_of hc2
  simp only [Option.some.injEq, Prod.mk.injEq] at hr
  obtain ⟨rfl, rfl⟩ := hr
  obtain ⟨s', r1, ht1, ht2, rfl⟩ := trs_cons.1 ht
  obtain ⟨i', r2, ht3, ht4, rfl⟩ := trs_cons.1 ht2
  obtain ⟨v', r3, ht5, ht6, rfl⟩ := trs_cons.1 ht4
  simp only [trs, Option.some.injEq] at ht6
  subst ht6
  obtain ⟨I, hI, e1⟩ := sure_slc ht1
  simp only [if_true] at e1
  -- the slice with its capacity
  have hnew := hw.unused (Nat.le_refl h.size)
  have hbl := (hw.lt b I hI).1
  obtain ⟨vj, hvj, e5⟩ := sure_slc ht5
  have hvl := (hw.lt vb vj hvj).1
  obtain ⟨oB, hoB, hrB, hnB⟩ := hw.has b I hI
  rw [hB] at hoB; cases hoB
  have hrB' : BlkRel m I B w := hrB
  obtain ⟨⟨cs, el, fr, g1, g2, g3⟩, g4, g5⟩ := hrB'
  have hLl : L.length = n * es := rdCells_length hL
  have hNl : N.length = es := rdCells_length hN
  obtain ⟨Ls, hLt, hLl', hLc⟩ := hw.rdCells hI hL
  have hsz : cs.size = I.sh + (cap + I.ex) * es := by rw [g2, c3, c2, Nat.add_mul, Nat.add_assoc]
  have hnc : n * es ≤ (cap + I.ex) * es := Nat.mul_le_mul_right _ (by omega)
  have hrel1 : BlkRel (m.ins h.size ⟨I.r, 0, I.sh⟩) ⟨I.r, 0, I.sh⟩ ⟨(cap + I.ex) * es, 0, false, false, Tr.ofL L⟩ w := by
    refine ⟨⟨cs, el, fr, g1, by simpa using hsz, fun j hj => ?_⟩, fun _ j hj => g4 c1 j (by simp only [] at hj; rw [← g2, hsz]; omega), fun hp => by cases hp⟩
    by_cases hjl : j < L.length
    · obtain ⟨u, q1, q2⟩ := trs_get hLt _ _ (List.getElem?_eq_getElem hjl)
      refine .inl ⟨_, u, by rw [Tr.at_ofL]; exact List.getElem?_eq_getElem hjl, tr_mono (Mp.ins_le hnew) _ _ q2, ?_⟩
      have := hLc j u q1
      simp only [World.cell?, g1] at this
      simpa using this
    · exact .inr ⟨rfl, by rw [Tr.at_ofL]; exact List.getElem?_eq_none (by omega)⟩
  obtain ⟨hw1, hx1⟩ := hw.regrow (B' := ⟨(cap + I.ex) * es, 0, false, false, Tr.ofL L⟩) hI hB c1 rfl rfl (fun _ _ => rfl) hw.below hrel1
  have gk : ((h.push (.blk ⟨(cap + I.ex) * es, 0, false, false, Tr.ofL L⟩)).put b .dead).get h.size = some (.blk ⟨(cap + I.ex) * es, 0, false, false, Tr.ofL L⟩) := by rw [H.get_put, if_neg (by omega), H.get_push, if_pos rfl]
  have go : ∀ c, c ≠ b → c < h.size → ((h.push (.blk ⟨(cap + I.ex) * es, 0, false, false, Tr.ofL L⟩)).put b .dead).get c = h.get c := fun c q1 q2 => by rw [H.get_put, if_neg q1, H.get_push, if_neg (by omega)]
  obtain ⟨v2, h2, f1, k, c2', op2, K, rfl, p1, p2, p3, p4, p5, p6, p7, p8, p9⟩ := hrun h.size n (cap + I.ex) i vb vo vc vop false ((h.push (.blk ⟨(cap + I.ex) * es, 0, false, false, Tr.ofL L⟩)).put b .dead) L N V (Tr.ofL L) c5 (by omega) c8 hLl hNl a1 a2 hvl (by simp)
    gk (fun j x hj => by rw [Tr.at_ofL]; exact hj) (by rw [go vb c6 hvl]; exact hV) c7 (by
      rw [← hN]
      exact rdCells_congr fun j _ _ => rdCell_same (go vb c6 hvl))
  have hargs : trs (m.ins h.size ⟨I.r, 0, I.sh⟩) [.slc h.size 0 n (cap + I.ex) false, .int .i64 (.ofNat i), .slc vb vo 1 vc vop] = some [s', i', v'] := by
    refine trs_cons.2 ⟨s', _, ?_, trs_cons.2 ⟨i', _, tr_mono (Mp.ins_le hnew) _ _ ht3, trs_cons.2 ⟨v', _, tr_mono (Mp.ins_le hnew) _ _ ht5, rfl, rfl⟩, rfl⟩, rfl⟩
    rw [e1]
    simp [tr, Mp.ins]
  refine (hS N0 w0 _ _ w _ _ _ _ f1 hargs hw1).mono fun e w2 hh => ?_
  obtain ⟨m2, u2, q1, q2, hw2, hx2⟩ := hh
  obtain ⟨J, hJ, e2⟩ := sure_slc q2
  obtain ⟨oK, hoK, hrK, hnK⟩ := hw2.has k J hJ
  rw [p2] at hoK; cases hoK
  have hrK' : BlkRel m2 J K w2 := hrK
  obtain ⟨⟨ks, el2, fr2, z1, z2, z3⟩, z4, z5⟩ := hrK'
  have hx12 := hx1.trans hx2
  -- what is old
  have hkill := hw.kill hI
  have hgr : Grown (h.put b .dead) h2 := by
    refine ⟨by have := hx12.size; simpa using this, fun c hc => ?_⟩
    simp only [H.size_put] at hc
    rw [p8 c hc]
    by_cases hcb : c = b
    · rw [hcb, H.get_put, if_pos rfl, H.get_put, if_pos rfl]
    · rw [go c hcb hc, H.get_put, if_neg hcb]
  have hxk : Ext m (h.put b .dead) m2 h2 := by
    refine ⟨hx12.le, by have := hx12.size; simpa using this, fun c hc e => ?_⟩
    simp only [H.size_put] at hc
    refine ⟨(hx12.rest c hc e).1, ?_⟩
    rw [hgr.get c (by simpa using hc)]
  have hwk : WRel N0 w0 m (h.put b .dead) w2 := hkill.forget hw2 hxk hgr
  have hwp := hwk.push (.blk ⟨(n + 1) * es, es, false, false, Tr.ofL (L.take (i * es) ++ N ++ L.drop (i * es))⟩)
  have hL'l : (L.take (i * es) ++ N ++ L.drop (i * es)).length = (n + 1) * es := by
    have : i * es ≤ n * es := Nat.mul_le_mul_right _ c5
    have e : (n + 1) * es = n * es + es := by rw [Nat.add_mul, Nat.one_mul]
    simp only [List.length_append, List.length_take, List.length_drop, hLl, hNl]
    omega
  have hNt : ∃ Ns, trs m N = some Ns := by
    obtain ⟨Ns, t1, _⟩ := hw.rdCells hvj hN
    exact ⟨Ns, t1⟩
  obtain ⟨Ns, hNt⟩ := hNt
  have hL't := trs_append (trs_append (trs_take hLt (i * es)) hNt) (trs_drop hLt (i * es))
  obtain ⟨C, hC⟩ : ∃ C, C = (if op2 = true then c2' + J.ex else c2') := ⟨_, rfl⟩
  have hCn : n + 1 ≤ C := by rw [hC]; split <;> omega
  have hks : ks.size = J.sh + C * es := by
    rw [z2, p4, hC]
    rcases p6 with ⟨x1, x2⟩ | ⟨x1, x2⟩
    · rw [x1, x2]; simp
    · rw [x1, x2]; simp only [if_true, Nat.add_mul]; omega
  have hCes : (n + 1) * es ≤ C * es := Nat.mul_le_mul_right _ hCn
  have hCx : (n + 1) * es + (C - (n + 1)) * es = C * es := by rw [← Nat.add_mul]; congr 1; omega
  have hp4 : (n + 1) * es ≤ K.n := by rw [p4]; exact Nat.mul_le_mul_right _ p5
  have hrel2 : BlkRel (m.ins h.size ⟨J.r, C - (n + 1), J.sh⟩) ⟨J.r, C - (n + 1), J.sh⟩ ⟨(n + 1) * es, es, false, false, Tr.ofL (L.take (i * es) ++ N ++ L.drop (i * es))⟩ w2 := by
    refine ⟨⟨ks, el2, fr2, z1, by simp only []; rw [hks]; omega, fun j hj => ?_⟩, fun _ j hj => z4 p3 j (by simp only [] at hj; rw [← z2, hks]; omega), fun hp => by cases hp⟩
    simp only [] at hj
    have hjl : j < (L.take (i * es) ++ N ++ L.drop (i * es)).length := by rw [hL'l]; exact hj
    obtain ⟨u, y1, y2⟩ := trs_get hL't _ _ (List.getElem?_eq_getElem hjl)
    have y3 := p7 j _ (List.getElem?_eq_getElem hjl)
    rcases z3 j (by omega) with ⟨x, x', n1, n2, n3⟩ | ⟨_, n1⟩
    · rw [y3] at n1; cases n1
      rw [tr_mono hxk.le _ _ y2] at n2; cases n2
      exact .inl ⟨_, u, by rw [Tr.at_ofL]; exact List.getElem?_eq_getElem hjl, tr_mono (Mp.ins_le hnew) _ _ y2, n3⟩
    · rw [y3] at n1; cases n1
  have hwf := hwp.bindAt (k := h.size) (i := ⟨J.r, C - (n + 1), J.sh⟩) (o := .blk ⟨(n + 1) * es, es, false, false, Tr.ofL (L.take (i * es) ++ N ++ L.drop (i * es))⟩) (by simp) hnew (by rw [H.get_push, if_pos (by simp)]) (hw2.lt k J hJ).2 hrel2
    (fun _ => hnK (by simp [DObj.writes, p3])) (fun c j o' e hjr g l => by
      have hcs := (hw.lt c j e).1
      rw [H.get_push, if_neg (by simp; omega)] at g
      have hcb : c ≠ b := fun hh => by subst hh; rw [H.get_put, if_pos rfl] at g; cases g; cases l
      have g2' : h2.get c = some o' := by rw [hgr.get c (by simpa using hcs)]; exact g
      have := hw2.inj c k j J o' _ (hxk.le c j e) hJ hjr g2' p2 l rfl
      omega)
  refine ⟨_, u2, q1, ?_, hwf, ⟨Mp.ins_le hnew, by simp, fun c hc e => ⟨?_, ?_⟩⟩⟩
  · rw [e2]
    simp only [tr, Mp.ins, if_true, Nat.add_zero]
    congr 2
    rw [← hC]; omega
  · simp only [Mp.ins]; rw [if_neg (by omega)]; exact e
  · rw [H.get_push, if_neg (by simp; omega), H.get_put, if_neg (fun hh => by subst hh; rw [hI] at e; cases e)]
end Go.DI
namespace Go.DI
open Go.RowKit

/-! ## Blocks of which the first cells are known; slices of elements of some cells -/
def PartAt (h : H) (b N E : Nat) (L : List DV) : Prop := b < h.size ∧ L.length ≤ N ∧ ∃ pl t, h.get b = some (.blk ⟨N, E, false, pl, t⟩) ∧ ∀ j x, L[j]? = some x → t.at_ j = some x
section
variable {h h' : H} {b N E : Nat} {L : List DV}
theorem PartAt.rd (hb : PartAt h b N E L) {j : Nat} {x : DV} (hj : L[j]? = some x) : rdCell h.get b j = some x := by
  obtain ⟨hlt, hl, pl, t, h1, h2⟩ := hb
  rw [rdCell_blk h1 (Nat.lt_of_lt_of_le (lt_of_get hj) hl)]; exact h2 j x hj
theorem PartAt.cells (hb : PartAt h b N E L) {o k : Nat} (hk : o + k ≤ L.length) : rdCells h.get b o k = some ((L.drop o).take k) := by
  have hl : ((L.drop o).take k).length = k := by simp; omega
  have := rdCells_of (rd := h.get) (b := b) ((L.drop o).take k) o fun i v hi => hb.rd (by
    rw [List.getElem?_take] at hi
    split at hi
    · rw [List.getElem?_drop] at hi; exact hi
    · cases hi)
  rw [hl] at this; exact this
theorem PartAt.but (hb : PartAt h b N E L) {c : Nat} (hc : b ≠ c) (k : But c h h') : PartAt h' b N E L := by
  obtain ⟨hlt, hl, pl, t, h1, h2⟩ := hb
  exact ⟨by rw [k.size]; exact hlt, hl, pl, t, by rw [k.get b hc]; exact h1, h2⟩
theorem PartAt.grown (hb : PartAt h b N E L) (g : Grown h h') : PartAt h' b N E L := by
  obtain ⟨hlt, hl, pl, t, h1, h2⟩ := hb
  exact ⟨Nat.lt_of_lt_of_le hlt g.size, hl, pl, t, by rw [g.get b hlt]; exact h1, h2⟩
theorem PartAt.keep {n : Nat} (hb : PartAt h b N E L) (k : Keeps n h h') (hn : b < n) : PartAt h' b N E L := by
  obtain ⟨hlt, hl, pl, t, h1, h2⟩ := hb
  exact ⟨Nat.lt_of_lt_of_le hlt k.size, hl, pl, t, by rw [k.get b hn]; exact h1, h2⟩
theorem PartAt.store (hb : PartAt h b N E L) {vs : List DV} {o : Nat} (hv : vs.all DV.one = true) (ho : o ≤ L.length) (hN : o + vs.length ≤ N) :
    ∃ h', dStore vs h b o = some h' ∧ PartAt h' b N E (L.take o ++ vs ++ L.drop (o + vs.length)) ∧ But b h h' := by
  obtain ⟨hlt, hl, pl, t, h1, h2⟩ := hb
  obtain ⟨h', t', f1, f2, f3, f4, f5⟩ := dStore_some (h := h) (b := b) (o := o) (vs := vs) h1 rfl hN hv
  refine ⟨h', f1, ⟨by rw [f2]; exact hlt, by simp; omega, pl, t', f4, fun j x hj => ?_⟩, ⟨f2, f3⟩⟩
  rw [f5]
  have ht : (L.take o).length = o := by simp; omega
  by_cases hjo : o ≤ j ∧ j < o + vs.length
  · rw [if_pos hjo]
    rw [List.append_assoc, List.getElem?_append_right (by omega), ht, List.getElem?_append_left (by omega)] at hj
    exact hj
  · rw [if_neg hjo]
    apply h2
    rcases Nat.lt_or_ge j o with hlt | hge
    · rw [List.append_assoc, List.getElem?_append_left (by omega), List.getElem?_take, if_pos hlt] at hj
      exact hj
    · have hge2 : o + vs.length ≤ j := by
        rcases Nat.lt_or_ge j (o + vs.length) with h3 | h3
        · exact absurd ⟨hge, h3⟩ hjo
        · exact h3
      rw [List.getElem?_append_right (by simp only [List.length_append, ht]; omega), List.length_append, ht, List.getElem?_drop] at hj
      rw [show j = o + vs.length + (j - (o + vs.length)) from by omega]; exact hj
theorem PartAt.pushed {es : Nat} {pl : Bool} : PartAt (h.push (.blk ⟨L.length, es, false, pl, Tr.ofL L⟩)) h.size L.length es L :=
  ⟨by simp, Nat.le_refl _, pl, _, by rw [H.get_push, if_pos rfl], fun j x hj => by rw [Tr.at_ofL]; exact hj⟩
end
theorem v_slL_fromE {es b o n c i : Nat} {op : Bool} (hi : i ≤ n) (hn : n ≤ c) (hic : i < c) (k : IntKind) : v_slL es (.slc b o n c op) (some (.int k (.ofNat i))) none = some (.slc b (o + i * es) (n - i) (c - i) op) := by
  simp only [v_slL, dBounds, dHi, dLo]
  rw [Nat.ble_eq_true_of_le hn, cond_true, Nat.ble_eq_true_of_le hi, cond_true, blt_t hic, cond_true]
  simp only [fNat_eq]
theorem v_slL_end {es b o n : Nat} (k : IntKind) : v_slL es (.slc b o n n false) (some (.int k (.ofNat n))) none = some (.slc b o 0 0 false) := by
  simp only [v_slL, dBounds, dHi, dLo]
  rw [Nat.ble_eq_true_of_le (Nat.le_refl _), cond_true, cond_true, show Nat.blt n n = false from nble_f (by omega), cond_false, cond_false]
theorem v_slL_toE {es b o n c j : Nat} {op : Bool} (hj : j ≤ c) (hc : 0 < c) (k : IntKind) : v_slL es (.slc b o n c op) none (some (.int k (.ofNat j))) = some (.slc b o j c op) := by
  simp only [v_slL, dBounds, dHi, dLo]
  rw [Nat.ble_eq_true_of_le hj, cond_true, Nat.ble_eq_true_of_le (Nat.zero_le _), cond_true, blt_t hc, cond_true]
  simp only [fNat_eq, Nat.zero_mul, Nat.add_zero, Nat.sub_zero]
theorem v_capL_cl {b o n c : Nat} : v_capL (.slc b o n c false) = some (.int .i64 (.ofNat c)) := id rfl
theorem v_lenL_slc {b o n c : Nat} {op : Bool} : v_lenL (.slc b o n c op) = some (.int .i64 (.ofNat n)) := id rfl
theorem v_ovl_apart {h : H} {b b' o n c o' n' c' : Nat} {op op' : Bool} {B C : Blk} (hB : h.get b = some (.blk B)) (hC : h.get b' = some (.blk C)) (hne : b ≠ b') (hp : B.pl = true) (hn : C.n ≠ 0) :
    v_ovl h.get (.slc b o n c op) (.slc b' o' n' c' op') = some (.bool false) := by
  show dOvl h.get (.slc b o n c op) (.slc b' o' n' c' op') = _
  have e1 : Nat.beq b b' = false := by rw [Bool.eq_false_iff]; intro hh; exact hne (Nat.eq_of_beq_eq_true hh)
  have e2 : Nat.beq C.n 0 = false := by rw [Bool.eq_false_iff]; intro hh; exact hn (Nat.eq_of_beq_eq_true hh)
  simp only [dOvl, hB, hC, e1, e2, hp]; rfl
theorem dCopy_slc {es b o n c b' o' n' c' k : Nat} {op op' : Bool} {h h2 : H} {new : List DV} (hk : k = min n' n) (hs : rdCells h.get b' o' (k * es) = some new) (hd : dStore new h b o = some h2) :
    dCopyF es (.slc b o n c op) (.slc b' o' n' c' op') h = some (.int .i64 (.ofNat k), h2) := by
  rw [dCopyF_eq]
  have hkk : (bif Nat.ble n' n then n' else n) = k := by
    subst hk
    cases hb : Nat.ble n' n with
    | true => have := Nat.le_of_ble_eq_true hb; simp only [cond_true]; exact (Nat.min_eq_left this).symm
    | false =>
      have : ¬ n' ≤ n := fun hh => by rw [Nat.ble_eq_true_of_le hh] at hb; cases hb
      simp only [cond_false]; exact (Nat.min_eq_right (by omega)).symm
  simp only [dCopy, srcLen, Option.bind_some, hkk, fNat_eq, srcPart, hs, hd]; rfl
end Go.DI
namespace Go.DI
open Go.RowKit

/-! ## Rows of elements of some cells, in blocks of which something is known -/
/-- Nothing has changed but in F's blocks and in new ones. -/
structure Off (F : Nat → Prop) (h h' : H) : Prop where
  size : h.size ≤ h'.size
  get : ∀ c, c < h.size → ¬ F c → h'.get c = h.get c
theorem Off.refl (F : Nat → Prop) (h : H) : Off F h h := ⟨Nat.le_refl _, fun _ _ _ => rfl⟩
theorem Off.trans {F : Nat → Prop} {x y z : H} (a : Off F x y) (b : Off F y z) : Off F x z :=
  ⟨Nat.le_trans a.size b.size, fun c hc hf => (b.get c (Nat.lt_of_lt_of_le hc a.size) hf).trans (a.get c hc hf)⟩
theorem Off.weak {F G : Nat → Prop} {x y : H} (a : Off F x y) (h : ∀ c, c < x.size → F c → G c) : Off G x y := ⟨a.size, fun c hc hg => a.get c hc fun hf => hg (h c hc hf)⟩
theorem Grown.off {x y : H} (a : Grown x y) (F : Nat → Prop) : Off F x y := ⟨a.size, fun c hc _ => a.get c hc⟩
theorem But.off {b : Nat} {x y : H} (a : But b x y) {F : Nat → Prop} (hb : F b) : Off F x y := ⟨by rw [a.size]; exact Nat.le_refl _, fun c _ hf => a.get c fun hh => hf (hh ▸ hb)⟩
def RowE (A : Nat → Prop) (es : Nat) (h : H) (v : DV) (L : List DV) : Prop := ∃ n, L.length = n * es ∧ (v = .nils ∧ n = 0 ∨ (∃ b o o2, v = .slE b o o2 ∧ n = 0) ∨
  ∃ b o c op, v = .slc b o n c op ∧ n ≤ c ∧ A b ∧ b < h.size ∧ ∀ j x, L[j]? = some x → rdCell h.get b (o + j) = some x)
section
variable {A A' : Nat → Prop} {es : Nat} {h h' : H} {v : DV} {L : List DV}
theorem RowE.nils : RowE A es h .nils [] := ⟨0, by simp, .inl ⟨rfl, rfl⟩⟩
theorem RowE.move (r : RowE A es h v L) (hs : h.size ≤ h'.size) (hg : ∀ c, A c → c < h.size → h'.get c = h.get c) (hA : ∀ c, A c → c < h.size → A' c) : RowE A' es h' v L := by
  obtain ⟨n, hn, r | r | ⟨b, o, c, op, e, hc, ha, hb, hd⟩⟩ := r
  · exact ⟨n, hn, .inl r⟩
  · exact ⟨n, hn, .inr (.inl r)⟩
  · exact ⟨n, hn, .inr (.inr ⟨b, o, c, op, e, hc, hA b ha hb, Nat.lt_of_lt_of_le hb hs, fun j x hj => by rw [rdCell_same (hg b ha hb)]; exact hd j x hj⟩)⟩
theorem RowE.grown (r : RowE A es h v L) (g : Grown h h') : RowE A es h' v L := r.move g.size (fun c _ hc => g.get c hc) fun _ h _ => h
theorem RowE.len (r : RowE A es h v L) : ∃ n, L.length = n * es ∧ v_lenL v = some (.int .i64 (.ofNat n)) := by
  obtain ⟨n, hn, ⟨rfl, rfl⟩ | ⟨b, o, o2, rfl, rfl⟩ | ⟨b, o, c, op, rfl, _⟩⟩ := r
  · exact ⟨0, hn, rfl⟩
  · exact ⟨0, hn, rfl⟩
  · exact ⟨n, hn, rfl⟩
theorem RowE.src (r : RowE A es h v L) : ∃ n, L.length = n * es ∧ srcLen v = some n ∧ srcCells es h.get v = some L := by
  obtain ⟨n, hn, ⟨rfl, rfl⟩ | ⟨b, o, o2, rfl, rfl⟩ | ⟨b, o, c, op, rfl, _, _, _, hd⟩⟩ := r
  · exact ⟨0, hn, rfl, by rw [show L = [] from List.eq_nil_of_length_eq_zero (by omega)]; rfl⟩
  · exact ⟨0, hn, rfl, by rw [show L = [] from List.eq_nil_of_length_eq_zero (by omega)]; rfl⟩
  · refine ⟨n, hn, rfl, ?_⟩
    have := rdCells_of (rd := h.get) (b := b) L o hd
    simp only [srcCells]
    rw [hn] at this; exact this
/-- The place of an element, and what stands there. -/
theorem RowE.ix (r : RowE A es h v L) {i n : Nat} (hn : L.length = n * es) (hi : i < n) (he : 0 < es) (k : IntKind) :
    ∃ b o, v_iaS es v (.int k (.ofNat i)) = some (.ptr b o) ∧ ∀ j x, j < es → L[i * es + j]? = some x → rdCell h.get b (o + j) = some x := by
  obtain ⟨m, hm, ⟨rfl, rfl⟩ | ⟨b, o, o2, rfl, rfl⟩ | ⟨b, o, c, op, rfl, _, _, _, hd⟩⟩ := r
  · have : n * es = 0 := by omega
    rcases Nat.mul_eq_zero.1 this with h | h <;> omega
  · have : n * es = 0 := by omega
    rcases Nat.mul_eq_zero.1 this with h | h <;> omega
  · have hmn : m = n := Nat.eq_of_mul_eq_mul_right he (hm.symm.trans hn)
    subst hmn
    refine ⟨b, o + i * es, ?_, fun j x hj hx => ?_⟩
    · simp only [v_iaS, dIdx, blt_t hi, cond_true, fNat_eq]
    · rw [Nat.add_assoc]; exact hd _ _ hx
theorem RowE.to (r : RowE A es h v L) {i n : Nat} (hn : L.length = n * es) (hi : i ≤ n) (he : 0 < es) (k : IntKind) : ∃ v', v_slL es v none (some (.int k (.ofNat i))) = some v' ∧ RowE A es h v' (L.take (i * es)) := by
  obtain ⟨m, hm, ⟨rfl, rfl⟩ | ⟨b, o, o2, rfl, rfl⟩ | ⟨b, o, c, op, rfl, hc, ha, hb, hd⟩⟩ := r
  · have : n = 0 := by rcases Nat.mul_eq_zero.1 (show n * es = 0 by omega) with h | h <;> omega
    have hi0 : i = 0 := by omega
    subst hi0
    exact ⟨.nils, rfl, 0, by simp, .inl ⟨rfl, rfl⟩⟩
  · have : n = 0 := by rcases Nat.mul_eq_zero.1 (show n * es = 0 by omega) with h | h <;> omega
    have hi0 : i = 0 := by omega
    subst hi0
    exact ⟨.slE b o o2, rfl, 0, by simp, .inr (.inl ⟨b, o, o2, rfl, rfl⟩)⟩
  · have hmn : m = n := Nat.eq_of_mul_eq_mul_right he (hm.symm.trans hn)
    subst hmn
    have hle : i * es ≤ m * es := Nat.mul_le_mul_right _ hi
    have hlen : (L.take (i * es)).length = i * es := by rw [List.length_take, hn]; omega
    by_cases hc0 : 0 < c
    · refine ⟨_, v_slL_toE (by omega) hc0 k, i, hlen, .inr (.inr ⟨b, o, c, op, rfl, by omega, ha, hb, fun j x hj => hd j x ?_⟩)⟩
      rw [List.getElem?_take] at hj
      split at hj
      · exact hj
      · cases hj
    · have h0 : c = 0 ∧ m = 0 ∧ i = 0 := by omega
      obtain ⟨rfl, rfl, rfl⟩ := h0
      have hL : L = [] := List.eq_nil_of_length_eq_zero (by omega)
      subst hL
      cases op with
      | true =>
        refine ⟨.slE b o (o + 0 * es), ?_, 0, by simp, .inr (.inl ⟨b, o, _, rfl, rfl⟩)⟩
        simp only [v_slL, dBounds, dHi, dLo]
        rw [Nat.ble_eq_true_of_le (Nat.le_refl _), cond_true, cond_true, show Nat.blt 0 0 = false from rfl, cond_false, cond_true]
        simp only [fNat_eq]
      | false => exact ⟨.slc b o 0 0 false, rfl, 0, by simp, .inr (.inr ⟨b, o, 0, false, rfl, Nat.le_refl _, ha, hb, fun j x hj => by simp at hj⟩)⟩
theorem RowE.from (r : RowE A es h v L) {i n : Nat} (hn : L.length = n * es) (hi : i ≤ n) (he : 0 < es) (k : IntKind) : ∃ v', v_slL es v (some (.int k (.ofNat i))) none = some v' ∧ RowE A es h v' (L.drop (i * es)) := by
  obtain ⟨m, hm, ⟨rfl, rfl⟩ | ⟨b, o, o2, rfl, rfl⟩ | ⟨b, o, c, op, rfl, hc, ha, hb, hd⟩⟩ := r
  · have : n = 0 := by rcases Nat.mul_eq_zero.1 (show n * es = 0 by omega) with h | h <;> omega
    have hi0 : i = 0 := by omega
    subst hi0
    have hL : L = [] := List.eq_nil_of_length_eq_zero (by omega)
    subst hL
    exact ⟨.nils, rfl, 0, by simp, .inl ⟨rfl, rfl⟩⟩
  · have : n = 0 := by rcases Nat.mul_eq_zero.1 (show n * es = 0 by omega) with h | h <;> omega
    have hi0 : i = 0 := by omega
    subst hi0
    have hL : L = [] := List.eq_nil_of_length_eq_zero (by omega)
    subst hL
    exact ⟨.slE b o o2, rfl, 0, by simp, .inr (.inl ⟨b, o, o2, rfl, rfl⟩)⟩
  · have hmn : m = n := Nat.eq_of_mul_eq_mul_right he (hm.symm.trans hn)
    subst hmn
    have hle : i * es ≤ m * es := Nat.mul_le_mul_right _ hi
    have hlen : (L.drop (i * es)).length = (m - i) * es := by rw [List.length_drop, hn, Nat.sub_mul]
    by_cases hic : i < c
    · refine ⟨_, v_slL_fromE hi hc hic k, m - i, hlen, .inr (.inr ⟨b, _, c - i, op, rfl, by omega, ha, hb, fun j x hj => ?_⟩)⟩
      rw [List.getElem?_drop] at hj
      rw [Nat.add_assoc]; exact hd _ _ hj
    · have h0 : i = m ∧ c = m := by omega
      obtain ⟨rfl, rfl⟩ := h0
      have hL : L.drop (c * es) = [] := List.drop_of_length_le (by omega)
      rw [hL]
      cases op with
      | true =>
        refine ⟨.slE b o (o + c * es), ?_, 0, by simp, .inr (.inl ⟨b, o, _, rfl, rfl⟩)⟩
        simp only [v_slL, dBounds, dHi, dLo]
        rw [Nat.ble_eq_true_of_le (Nat.le_refl _), cond_true, cond_true, show Nat.blt c c = false from nble_f (by omega), cond_false, cond_true]
        simp only [fNat_eq]
      | false => exact ⟨.slc b o 0 0 false, v_slL_end k, 0, by simp, .inr (.inr ⟨b, o, 0, false, rfl, Nat.le_refl _, ha, hb, fun j x hj => by simp at hj⟩)⟩
end
theorem PartAt.prefix {h : H} {b N E n : Nat} {L : List DV} (r : PartAt h b N E L) : PartAt h b N E (L.take n) := by
  obtain ⟨a1, a2, pl, t, a3, a4⟩ := r
  refine ⟨a1, by rw [List.length_take]; omega, pl, t, a3, fun j x hj => a4 j x ?_⟩
  rw [List.getElem?_take] at hj
  split at hj
  · exact hj
  · cases hj
/-- An own slice that grows by append. -/
def OpenE (n0 es : Nat) (h : H) (v : DV) (L : List DV) : Prop := (v = .nils ∧ L = []) ∨ ∃ b n pl t, n0 ≤ b ∧ b < h.size ∧ L.length = n * es ∧ v = .slc b 0 n n true ∧ h.get b = some (.blk ⟨n * es, es, false, pl, t⟩) ∧ ∀ j x, L[j]? = some x → t.at_ j = some x
section
variable {n0 es : Nat} {h h' : H} {v : DV} {L : List DV}
theorem OpenE.nil : OpenE n0 es h .nils [] := .inl ⟨rfl, rfl⟩
theorem OpenE.row (o : OpenE n0 es h v L) {A : Nat → Prop} (hA : ∀ c, n0 ≤ c → c < h.size → A c) : RowE A es h v L := by
  rcases o with ⟨rfl, rfl⟩ | ⟨b, n, pl, t, hb, hlt, hl, rfl, g, ht⟩
  · exact RowE.nils
  · refine ⟨n, hl, .inr (.inr ⟨b, 0, n, true, rfl, Nat.le_refl _, hA b hb hlt, hlt, fun j x hj => ?_⟩)⟩
    rw [Nat.zero_add, rdCell_blk g (by show j < n * es; rw [← hl]; exact lt_of_get hj)]; exact ht j x hj
theorem OpenE.mono {m : Nat} (o : OpenE n0 es h v L) (hm : m ≤ n0) : OpenE m es h v L := by
  rcases o with o | ⟨b, n, pl, t, hb, r⟩
  · exact .inl o
  · exact .inr ⟨b, n, pl, t, by omega, r⟩
theorem OpenE.one (o : OpenE n0 es h v L) : v.one = true := by rcases o with ⟨rfl, _⟩ | ⟨_, _, _, _, _, _, _, rfl, _⟩ <;> rfl
/-- Behind what hurts nothing from n0 on but new blocks. -/
theorem OpenE.grown (o : OpenE n0 es h v L) (g : Grown h h') : OpenE n0 es h' v L := by
  rcases o with o | ⟨b, n, pl, t, hb, hlt, hl, e, g1, ht⟩
  · exact .inl o
  · exact .inr ⟨b, n, pl, t, hb, Nat.lt_of_lt_of_le hlt g.size, hl, e, by rw [g.get b hlt]; exact g1, ht⟩
theorem OpenE.app (o : OpenE n0 es h v L) (hn0 : n0 ≤ h.size) {x : DV} {S : List DV} {k bytes : Nat} (hk : srcLen x = some k) (hS : srcCells es h.get x = some S) (hSl : S.length = k * es) (h1 : S.all DV.one = true) (he : 0 < es)
    (hsz : ∀ n, L.length = n * es → (n + k) * bytes < smallRoom ∧ n + k < smallRoom) : ∃ v' h', dAppendF es bytes v x h = some (v', h') ∧ OpenE n0 es h' v' (L ++ S) ∧ Keeps n0 h h' := by
  rw [dAppendF_eq]
  rcases o with ⟨rfl, rfl⟩ | ⟨b, n, pl, t, hb, hlt, hl, rfl, g, ht⟩
  · simp only [dAppend, hk, hS, Option.bind_some]
    by_cases hk0 : k = 0
    · subst hk0
      have : S = [] := List.eq_nil_of_length_eq_zero (by omega)
      subst this
      exact ⟨.nils, h, rfl, .inl ⟨rfl, rfl⟩, Keeps.refl _ _⟩
    · have hb0 : Nat.beq k 0 = false := by rw [Bool.eq_false_iff]; intro hh; exact hk0 (Nat.eq_of_beq_eq_true hh)
      obtain ⟨s1, s2⟩ := hsz 0 (by simp)
      rw [Nat.zero_add] at s1 s2
      rw [hb0, cond_false, blt_t s1, blt_t s2, Bool.and_self, cond_true, H.pushK_eq]
      refine ⟨_, _, rfl, .inr ⟨h.size, k, true, Tr.ofL S, hn0, by simp, by simpa using hSl, rfl, by rw [H.get_push, if_pos rfl], fun j x hj => by rw [Tr.at_ofL]; simpa using hj⟩, Keeps.push hn0 _⟩
  · simp only [dAppend, hk, hS, Option.bind_some, fNat_eq]
    by_cases hk0 : k = 0
    · subst hk0
      have : S = [] := List.eq_nil_of_length_eq_zero (by omega)
      subst this
      rw [Nat.ble_eq_true_of_le (by omega), cond_true]
      exact ⟨_, h, rfl, .inr ⟨b, n, pl, t, hb, hlt, by simpa using hl, rfl, g, by simpa using ht⟩, Keeps.refl _ _⟩
    · obtain ⟨s1, s2⟩ := hsz n hl
      have e1 : Nat.beq (0 + n * es) (n * es) = true := by rw [Nat.zero_add]; exact Nat.beq_refl _
      have e2 : growT 0 n es ⟨n * es, es, false, pl, t⟩ S h.get b = some (Tr.ofF S (n * es) t) := rfl
      rw [nble_f (by omega), cond_false, blt_t s1, blt_t s2, Bool.and_self, cond_true, g]
      simp only [e1, Nat.beq_refl, Bool.not_false, Nat.ble_eq_true_of_le (Nat.le_refl n), h1, Bool.and_self, cond_true, e2, Option.bind_some, H.pushK_eq, H.putK_eq]
      refine ⟨_, _, rfl, .inr ⟨h.size, n + k, false, Tr.ofF S (n * es) t, hn0, by simp, by rw [List.length_append, hl, hSl, Nat.add_mul], rfl, ?_, fun j x hj => ?_⟩, ⟨by simp, fun c hc => ?_⟩⟩
      · rw [H.get_put, if_neg (by omega), H.get_push, if_pos rfl]
      · rw [Tr.at_ofF]
        by_cases hj2 : n * es ≤ j
        · have hlt2 : j - L.length < S.length := by
            have := lt_of_get hj
            rw [List.length_append] at this; omega
          rw [if_pos ⟨hj2, by rw [← hl]; omega⟩]
          rw [List.getElem?_append_right (by omega), hl] at hj; exact hj
        · rw [if_neg (by omega)]
          rw [List.getElem?_append_left (by omega)] at hj
          exact ht j x hj
      · rw [H.get_put, if_neg (by omega), H.get_push, if_neg (by omega)]
end
end Go.DI
namespace Go.DI
open Go.RowKit
theorem RowE.keeps {n es : Nat} {h h' : H} {v : DV} {L : List DV} (r : RowE (fun c => c < n) es h v L) (k : Keeps n h h') : RowE (fun c => c < n) es h' v L := r.move k.size (fun c ha _ => k.get c ha) fun _ ha _ => ha
theorem RowE.off {A F : Nat → Prop} {es : Nat} {h h' : H} {v : DV} {L : List DV} (r : RowE A es h v L) (k : Off F h h') (hA : ∀ c, A c → ¬ F c) : RowE A es h' v L := r.move k.size (fun c ha hc => k.get c hc (hA c ha)) fun _ ha _ => ha
theorem RowE.weak {A A' : Nat → Prop} {es : Nat} {h : H} {v : DV} {L : List DV} (r : RowE A es h v L) (hA : ∀ c, A c → c < h.size → A' c) : RowE A' es h v L := r.move (Nat.le_refl _) (fun _ _ _ => rfl) hA
theorem grown_obj {h : H} {es : Nat} (L : List DV) (n : Nat) (hn : n = L.length) : ObjAt (h.push (.blk ⟨n, es, false, true, Tr.ofL L⟩)) h.size L := by subst hn; exact ObjAt.pushed
theorem grown_of_keeps {h h' : H} (k : Keeps h.size h h') : Grown h h' := ⟨k.size, k.get⟩
theorem ObjAt.off {h h' : H} {b : Nat} {L : List DV} (o : ObjAt h b L) {F : Nat → Prop} (k : Off F h h') (hb : ¬ F b) : ObjAt h' b L := by
  obtain ⟨hlt, es, t, h1, h2⟩ := o
  exact ⟨Nat.lt_of_lt_of_le hlt k.size, es, t, by rw [k.get b hlt hb]; exact h1, h2⟩
theorem RowAt.off {h h' : H} {v : DV} {L : List DV} (r : RowAt h v L) {F : Nat → Prop} (k : Off F h h') (hF : ∀ b o n c op, v = .slc b o n c op → ¬ F b) : RowAt h' v L := by
  rcases r with r | ⟨b, o, c, op, e, h1, h2, h3⟩
  · exact .inl r
  · exact .inr ⟨b, o, c, op, e, h1, Nat.lt_of_lt_of_le h2 k.size, fun j x hj => by rw [rdCell_same (k.get b h2 (hF _ _ _ _ _ e))]; exact h3 j x hj⟩
theorem OpenE.store {n0 es : Nat} {h : H} {v : DV} {L cs : List DV} (o : OpenE n0 es h v L) {i n : Nat} (hn : L.length = n * es) (hi : i < n) (he : 0 < es) (hcs : cs.length = es) (h1 : cs.all DV.one = true) (k : IntKind) :
    ∃ b h', v_iaS es v (.int k (.ofNat i)) = some (.ptr b (i * es)) ∧ n0 ≤ b ∧ b < h.size ∧ dStF es (.ptr b (i * es)) (.agg cs) h = some (.tup [], h') ∧ OpenE n0 es h' v (L.take (i * es) ++ cs ++ L.drop ((i + 1) * es)) ∧ But b h h' := by
  rcases o with ⟨rfl, rfl⟩ | ⟨b, m, pl, t, hb, hlt, hl, rfl, g, ht⟩
  · have : n * es = 0 := by simpa using hn.symm
    rcases Nat.mul_eq_zero.1 this with h | h <;> omega
  · have hmn : m = n := Nat.eq_of_mul_eq_mul_right he (hl.symm.trans hn)
    subst hmn
    have e1 : (i + 1) * es = i * es + es := by rw [Nat.add_mul, Nat.one_mul]
    have hle : (i + 1) * es ≤ m * es := Nat.mul_le_mul_right _ (by omega)
    have hP : PartAt h b (m * es) es L := ⟨hlt, by omega, pl, t, g, ht⟩
    obtain ⟨h', f1, f2, f3⟩ := hP.store (vs := cs) (o := i * es) h1 (by omega) (by omega)
    refine ⟨b, h', ?_, hb, hlt, ?_, .inr ?_, f3⟩
    · simp only [v_iaS, dIdx, blt_t hi, cond_true, fNat_eq, Nat.zero_add]
    · rw [dStF_eq]
      have hc : (DV.agg cs).cells = cs := rfl
      simp only [dSt, hc, hcs, Nat.beq_refl, cond_true, f1, Option.map_some]
    · obtain ⟨g1, g2, pl', t', g3, g4⟩ := f2
      rw [hcs, ← e1] at g4
      refine ⟨b, m, pl', t', hb, g1, ?_, rfl, g3, g4⟩
      simp only [List.length_append, List.length_take, List.length_drop, hcs]; omega
end Go.DI
namespace Go.DI
open Go.RowKit

/-! ## A slice of plain structs that a law is handed -/
inductive FK where
  | i
  | s
  | b
def fieldsF (g : TypeId → Option (List FK)) (P : Program) : List Field → Nat → Option (List FK)
  | [], _ => some []
  | f :: fs, off => match g f.type with
    | some ks => if f.offset = off ∧ P.cellsOf f.type = ks.length then (fieldsF g P fs (off + ks.length)).map (ks ++ ·) else none
    | none => none
def kindsF (P : Program) : Nat → TypeId → Option (List FK)
  | 0, _ => none
  | n + 1, t => match P.underlying t with
    | some (.int .i64) => some [.i]
    | some .string => some [.s]
    | some .bool => some [.b]
    | some (.struct fs) => match fieldsF (kindsF P n) P fs.toList 0 with
      | some ks => if P.cellsOf t = ks.length then some ks else none
      | none => none
    | _ => none
def OkV : FK → Value → Prop
  | .i, v => ∃ n, v = .int .i64 n ∧ -9223372036854775808 ≤ n ∧ n < 9223372036854775808
  | .s, v => ∃ s, v = .string s
  | .b, v => ∃ b, v = .bool b
def OkD : FK → DV → Prop
  | .i, v => ∃ n, v = .int .i64 n ∧ -9223372036854775808 ≤ n ∧ n < 9223372036854775808
  | .s, v => ∃ s, v = .str s ∧ okStr s = true
  | .b, v => ∃ b, v = .bool b
def TypedV : List FK → List Value → Prop
  | [], [] => True
  | k :: ks, v :: vs => OkV k v ∧ TypedV ks vs
  | _, _ => False
def TypedD : List FK → List DV → Prop
  | [], [] => True
  | k :: ks, v :: vs => OkD k v ∧ TypedD ks vs
  | _, _ => False
theorem TypedV.append : ∀ {a b : List FK} {x y : List Value}, TypedV a x → TypedV b y → TypedV (a ++ b) (x ++ y)
  | [], _, [], _, _, h => h
  | [], _, _ :: _, _, h, _ => h.elim
  | _ :: _, _, [], _, h, _ => h.elim
  | _ :: _, _, _ :: _, _, h, h' => ⟨h.1, h.2.append h'⟩
theorem TypedV.len : ∀ {a : List FK} {x : List Value}, TypedV a x → x.length = a.length
  | [], [], _ => rfl
  | [], _ :: _, h => h.elim
  | _ :: _, [], h => h.elim
  | _ :: _, _ :: _, h => by simp only [List.length_cons, h.2.len]
section
variable {H : Type} {enc : TypeId × Value → H} {P : Program} {w : World} {base : Nat} {sp : Nat → Bool} {held : Bool}
theorem fields_typed {g : TypeId → Option (List FK)} {cs : List Value} (hg : ∀ (t : TypeId) (ks : List FK) (cs : List Value) (fuel : Nat) (x : DataW H × List MemPlace), g t = some ks → DataW.trod enc P w base sp held fuel t cs = some x → TypedV ks cs) :
    ∀ (fs : List Field) (off : Nat) (ks : List FK), fieldsF g P fs off = some ks → (∀ f ∈ fs, ∃ fuel x, DataW.trod enc P w base sp held fuel f.type ((cs.drop f.offset).take (P.cellsOf f.type)) = some x) → TypedV ks ((cs.drop off).take ks.length)
  | [], off, ks, h, _ => by
    simp only [fieldsF, Option.some.injEq] at h
    subst h
    show TypedV [] (List.take 0 _)
    rw [List.take_zero]; exact True.intro
  | f :: fs, off, ks, h, hf => by
    unfold fieldsF at h
    split at h
    · rename_i k1 hk1
      split at h
      · rename_i hc
        obtain ⟨k2, hk2, rfl⟩ := Option.map_eq_some_iff.1 h
        obtain ⟨fuel, x, hx⟩ := hf f (by simp)
        have t1 := hg _ _ _ _ _ hk1 hx
        rw [hc.1, hc.2] at t1
        have t2 := fields_typed hg fs _ k2 hk2 fun f' h' => hf f' (by simp [h'])
        have e : (cs.drop off).take (k1 ++ k2).length = (cs.drop off).take k1.length ++ (cs.drop (off + k1.length)).take k2.length := by
          rw [List.length_append, List.take_add, List.drop_drop]
        rw [e]
        exact t1.append t2
      · cases h
    · cases h
theorem kinds_typed : ∀ (n : Nat) (t : TypeId) (ks : List FK) (cs : List Value) (fuel : Nat) (x : DataW H × List MemPlace), kindsF P n t = some ks → DataW.trod enc P w base sp held fuel t cs = some x → TypedV ks cs
  | 0, _, _, _, _, _, h, _ => by cases h
  | n + 1, t, ks, cs, fuel, x, h, hx => by
    unfold kindsF at h
    split at h
    · rename_i hu
      cases h
      obtain ⟨z, rfl, _, hw⟩ := DataW.trod_int hu hx
      refine ⟨⟨z, rfl, ?_⟩, True.intro⟩
      simp only [Lit.wf, IntKind.has, IntKind.min, IntKind.max, IntKind.signed, IntKind.bits] at hw
      simp at hw
      omega
    · rename_i hu
      cases h
      obtain ⟨s, rfl, _, _⟩ := DataW.trod_string hu hx
      exact ⟨⟨s, rfl⟩, True.intro⟩
    · rename_i hu
      cases h
      obtain ⟨s, rfl, _⟩ := DataW.trod_bool hu hx
      exact ⟨⟨s, rfl⟩, True.intro⟩
    · rename_i fs hu
      split at h
      · rename_i ks' hks
        split at h
        · rename_i hl
          cases h
          obtain ⟨xs, k, _, _, hlen, hxl, hf⟩ := DataW.trod_struct hu hx
          have := fields_typed (cs := cs) (kinds_typed n) fs.toList 0 ks hks fun f hm => by
            obtain ⟨i, hi⟩ := List.getElem?_of_mem hm
            have hi' : fs[i]? = some f := by simpa using hi
            have hlt : i < xs.length := by
              rw [hxl]
              exact (Array.getElem?_eq_some_iff.1 hi').1
            exact ⟨k, xs[i], by rw [hf i f hi', List.getElem?_eq_getElem hlt]⟩
          rw [List.drop_zero, List.take_of_length_le (by omega)] at this
          exact this
        · cases h
      · cases h
    · cases h
end
def valD : Value → DV
  | .int k n => .int k n
  | .string s => .str (ofBA s)
  | .bool b => .bool b
  | _ => .nilp
theorem valD_tr {k : FK} {v : Value} (h : OkV k v) (m : Mp) : tr m (valD v) = some v := by
  cases k with
  | i => obtain ⟨n, rfl, _⟩ := h; rfl
  | s => obtain ⟨s, rfl⟩ := h; exact tr_str_any m s
  | b => obtain ⟨b, rfl⟩ := h; rfl
theorem valD_ok {k : FK} {v : Value} (h : OkV k v) : OkD k (valD v) := by
  cases k with
  | i => obtain ⟨n, rfl, h⟩ := h; exact ⟨n, rfl, h⟩
  | s => obtain ⟨s, rfl⟩ := h; exact ⟨ofBA s, rfl, okStr_ofBA s⟩
  | b => obtain ⟨b, rfl⟩ := h; exact ⟨b, rfl⟩
theorem typedD : ∀ {ks : List FK} {cs : List Value}, TypedV ks cs → TypedD ks (cs.map valD)
  | [], [], _ => True.intro
  | [], _ :: _, h => h.elim
  | _ :: _, [], h => h.elim
  | _ :: _, _ :: _, h => ⟨valD_ok h.1, typedD h.2⟩
theorem typed_get : ∀ {ks : List FK} {cs : List Value} {r : Nat} {v : Value}, TypedV ks cs → cs[r]? = some v → ∃ k, OkV k v
  | [], [], _, _, _, h => by simp at h
  | [], _ :: _, _, _, h, _ => h.elim
  | _ :: _, [], _, _, h, _ => h.elim
  | k :: _, c :: _, 0, v, h, hr => by
    simp at hr; subst hr; exact ⟨k, h.1⟩
  | _ :: _, _ :: _, r + 1, v, h, hr => typed_get h.2 (by simpa using hr)
theorem flatten_get {α : Type} {es : Nat} : ∀ {L : List (List α)} {j : Nat} {x : α}, (∀ l ∈ L, l.length = es) → L.flatten[j]? = some x → ∃ i r l, j = i * es + r ∧ r < es ∧ L[i]? = some l ∧ l[r]? = some x
  | [], j, x, _, h => by simp at h
  | l :: L, j, x, hl, h => by
    rw [List.flatten_cons] at h
    have h0 := hl l (by simp)
    rcases Nat.lt_or_ge j l.length with hj | hj
    · rw [List.getElem?_append_left hj] at h
      exact ⟨0, j, l, by omega, by omega, rfl, h⟩
    · rw [List.getElem?_append_right hj] at h
      obtain ⟨i, r, l', e1, e2, e3, e4⟩ := flatten_get (fun l' h' => hl l' (by simp [h'])) h
      exact ⟨i + 1, r, l', by rw [Nat.succ_mul]; omega, e2, by simpa using e3, e4⟩
theorem flatten_len {α : Type} {es : Nat} : ∀ {L : List (List α)}, (∀ l ∈ L, l.length = es) → L.flatten.length = L.length * es
  | [], _ => by simp
  | l :: L, hl => by
    rw [List.flatten_cons, List.length_append, hl l (by simp), flatten_len fun l' h' => hl l' (by simp [h']), List.length_cons, Nat.succ_mul]; omega
theorem openFlat {H : Type} {enc : TypeId × Value → H} {P : Program} {W : World} {r : Reach} {b0 : Nat} {t e : TypeId} {v : Value} {d : DataW H} {ps : List MemPlace} {ks : List FK} {n : Nat} (ht : P.underlying t = some (.slice e)) (hk : kindsF P n e = some ks) (hc : P.cellsOf e = ks.length) (hpos : 0 < ks.length)
    (hval : Value.okWide P W r b0 t v) (hd : DataW.Trod enc P W 0 (fun _ => true) true t v d ps) (hg : Good W := by first | assumption | exact fun _ h => by cases h) :
    ∃ (L : List (List DV)) (m : Mp) (h : DI.H) (dv : DV), WRel W.heap.size W m h W ∧ tr m dv = some v ∧ RowE (fun c => c < h.size) ks.length h dv L.flatten ∧ ∀ l ∈ L, TypedD ks l := by
  obtain ⟨a, len, cap, rfl⟩ := Go.WideShapes.okWide_slice ht hval
  obtain ⟨fuel, hf⟩ := hd
  rcases Go.Deep.open_slice ht hf with ⟨hcs, hx⟩ | ⟨a', len', cap', m', n', D, Pl, hcs, _, hl, hm, hmm, hx, hcell⟩
  · have hcs : [Value.slice a len cap] = [Value.slice none 0 0] := hcs
    cases hcs
    exact ⟨[], fun _ => none, H0, .nils, WRel.start W hg, rfl, RowE.nils, fun l hl => by cases hl⟩
  · have hcs : [Value.slice a len cap] = [Value.slice (some a') len' cap'] := hcs
    cases hcs
    simp only [if_true] at hmm
    subst hmm
    have hhas : W.has P r b0 a' e m' := by
      simp only [Value.okWide, ht, Cell.okWide, Cell.ok] at hval
      exact hval.2.2
    obtain ⟨_, hspot, row, k, hshape, _⟩ := hhas
    obtain ⟨C, hC⟩ := Go.Deep.choose_lt (α := List Value) (p := fun i cs => W.cells? 0 (a'.add (i * ks.length)) ks.length = some cs ∧ TypedV ks cs) (fun i hi => by
      obtain ⟨cs', h1, h2⟩ := hcell i hi
      rw [hc] at h1
      exact ⟨cs', h1, kinds_typed n e ks cs' n' _ hk h2⟩)
    obtain ⟨L, hL⟩ : ∃ L : List (List DV), L = (List.range len).map fun i => (C i).map valD := ⟨_, rfl⟩
    have hget : ∀ i l, L[i]? = some l → i < len ∧ l = (C i).map valD := fun i l h => by
      rw [hL, List.getElem?_map] at h
      obtain ⟨y, hy, rfl⟩ := Option.map_eq_some_iff.1 h
      obtain ⟨hi, rfl⟩ := List.getElem?_eq_some_iff.1 hy
      rw [List.length_range] at hi
      exact ⟨hi, by simp⟩
    have hLlen : ∀ l ∈ L, l.length = ks.length := fun l hl => by
      obtain ⟨i, hi⟩ := List.getElem?_of_mem hl
      obtain ⟨h1, rfl⟩ := hget i l hi
      rw [List.length_map, (hC i (by omega)).2.len]
    have hLL : L.length = len := by rw [hL]; simp
    have hfl := flatten_len hLlen
    obtain ⟨m, o, h1, h2, h3⟩ := WRel.startRow (w := W) hg (a := a') (len := len) (cap := m') (CL := L.flatten) hspot hshape (fun h0 => by
      rw [hfl, hLL] at h0
      rcases Nat.mul_eq_zero.1 h0 with h | h <;> omega) (fun j x hj => by
      obtain ⟨i, rr, l, rfl, hr, hi, hx⟩ := flatten_get hLlen hj
      obtain ⟨hil, rfl⟩ := hget i l hi
      obtain ⟨hc1, hc2⟩ := hC i (by omega)
      obtain ⟨_, hlen, hcc⟩ := World.cells?_some hc1
      rw [List.getElem?_map] at hx
      obtain ⟨v, hv, rfl⟩ := Option.map_eq_some_iff.1 hx
      obtain ⟨k, hk⟩ := typed_get hc2 hv
      refine ⟨v, valD_tr hk _, ?_⟩
      have := hcc rr hr
      rw [Go.Deep.add_add] at this
      rw [this]
      exact hv)
    refine ⟨L, m, _, .slc 0 o len m' false, h1, h2, ⟨len, by rw [hfl, hLL], .inr (.inr ⟨0, o, m', false, rfl, hl, by rw [HRow_size]; omega, by rw [HRow_size]; omega, fun j x hj => ?_⟩)⟩, fun l hl => ?_⟩
    · have hne : L.flatten ≠ [] := fun h => by rw [h] at hj; cases hj
      have : o = 0 := h3 hne
      subst this
      have hjl := (List.getElem?_eq_some_iff.1 hj).1
      rw [Nat.zero_add, rdCell_blk (HRow_get _) hjl, Tr.at_ofL]
      exact hj
    · obtain ⟨i, hi⟩ := List.getElem?_of_mem hl
      obtain ⟨h1, rfl⟩ := hget i l hi
      exact typedD (hC i (by omega)).2
end Go.DI
namespace Go.DI

/-! ## Short words for printed functions -/
abbrev ZI := Nat → DG × Nat
def pp (n : Nat) : Pa := Pa.ofF 12 n
def zM (s : Nat) : ZI := fun n => (⟨some (pp n), none, .e (.mv (.r (pp s)))⟩, n + 1)
def zT (d s : Nat) : ZI := fun n => (⟨some (pp d), none, .e (.mv (.r (pp s)))⟩, n)
def zX (o : EOp) : ZI := fun n => (⟨some (pp n), none, .e o⟩, n + 1)
def zY (d : Nat) (o : EOp) : ZI := fun n => (⟨some (pp d), none, .e o⟩, n)
def zF (f : Nat) (l : List Opd) : ZI := fun n => (⟨some (pp n), none, .c (.f f l)⟩, n + 1)
def zW (o : WOp) : ZI := fun n => (⟨none, none, .w o⟩, n)
def zG (p : Nat) (b : Bool) (o : EOp) : ZI := fun n => (⟨some (pp n), some (pp p, b), .e o⟩, n + 1)
def zL (p : Nat) (b : Bool) (s : Nat) : ZI := fun n => (⟨some (pp n), some (pp p, b), .e (.mv (.r (pp s)))⟩, n + 1)
def zD (g : DG) : ZI := fun n => (g, n)
def zZ : Nat → List ZI → List DG
  | _, [] => []
  | n, z :: l => (z n).1 :: zZ (z n).2 l
abbrev YI := Nat → DR × Nat
def yA (i : Nat) (z : ZI) : YI := fun n => (⟨i, (z n).1, [], false⟩, (z n).2)
def yB (i : Nat) (z : ZI) (re : List Nat) (sy : Bool) : YI := fun n => (⟨i, (z n).1, re, sy⟩, (z n).2)
def yY : Nat → List YI → List DR
  | _, [] => []
  | n, z :: l => (z n).1 :: yY (z n).2 l
def zd (n : Nat) (l : List YI) : DC := .drg (yY n l)
def zR {α : Type} (l : List α) : Nat → List α
  | 0 => []
  | n + 1 => l ++ zR l n
def zk (n : Nat) : Opd := .c (.int .i64 (.ofNat n))
def zq (a b : DC) : DC := .seq a b
def zr (n : Nat) (l : List ZI) : DC := .reg (zZ n l)
def zs (n : Nat) (l : List ZI) (b : DC) : DC := .seq (.reg (zZ n l)) b
abbrev ii (n : Nat) : DV := .int .i64 (.ofNat n)
abbrev q0 : Pa := .h
abbrev q1 : Pa := .l .h
abbrev q2 : Pa := .r .h
abbrev q3 : Pa := .l (.l .h)
abbrev q4 : Pa := .r (.l .h)
abbrev iA0 (E : Env) (c : DC) (r : List RV) (J : H → Ans) : Prop := Is E c (retK3 r) fun σ h => J h
abbrev iA1 (E : Env) (c : DC) (r : List RV) (J : DV → H → Ans) : Prop := Is E c (retK3 r) fun σ h => J (σ q0) h
abbrev iA2 (E : Env) (c : DC) (r : List RV) (J : DV → DV → H → Ans) : Prop := Is E c (retK3 r) fun σ h => J (σ q0) (σ q1) h
abbrev iA3 (E : Env) (c : DC) (r : List RV) (J : DV → DV → DV → H → Ans) : Prop := Is E c (retK3 r) fun σ h => J (σ q0) (σ q1) (σ q2) h
abbrev iA4 (E : Env) (c : DC) (r : List RV) (J : DV → DV → DV → DV → H → Ans) : Prop := Is E c (retK3 r) fun σ h => J (σ q0) (σ q1) (σ q2) (σ q3) h
abbrev iA5 (E : Env) (c : DC) (r : List RV) (J : DV → DV → DV → DV → DV → H → Ans) : Prop := Is E c (retK3 r) fun σ h => J (σ q0) (σ q1) (σ q2) (σ q3) (σ q4) h
noncomputable def fA0 (J : H → Ans) : Fun := fun args h => a0 args (J h)
noncomputable def fA1 (J : DV → H → Ans) : Fun := fun args h => aS args fun r0 args => a0 args (J r0 h)
noncomputable def fA2 (J : DV → DV → H → Ans) : Fun := fun args h => aS args fun r0 args => aS args fun r1 args => a0 args (J r0 r1 h)
noncomputable def fA3 (J : DV → DV → DV → H → Ans) : Fun := fun args h => aS args fun r0 args => aS args fun r1 args => aS args fun r2 args => a0 args (J r0 r1 r2 h)
noncomputable def fA4 (J : DV → DV → DV → DV → H → Ans) : Fun := fun args h => aS args fun r0 args => aS args fun r1 args => aS args fun r2 args => aS args fun r3 args => a0 args (J r0 r1 r2 r3 h)
noncomputable def fA5 (J : DV → DV → DV → DV → DV → H → Ans) : Fun := fun args h => aS args fun r0 args => aS args fun r1 args => aS args fun r2 args => aS args fun r3 args => aS args fun r4 args => a0 args (J r0 r1 r2 r3 r4 h)
abbrev SQ (d : DF) (S : Env → Fun) : Prop := ∀ E args h, runFn E d args h = S E args h
theorem eA0 {E : Env} {d : DF} {J : H → Ans} (h : iA0 E d.body d.res J) (hn : d.np = 0) : ∀ args m, runFn E d args m = fA0 J args m := Is.fn0 h hn J fun _ => rfl
theorem eA1 {E : Env} {d : DF} {J : DV → H → Ans} (h : iA1 E d.body d.res J) (hn : d.np = 1) : ∀ args m, runFn E d args m = fA1 J args m := Is.fn1 h hn J fun _ _ => rfl
theorem eA2 {E : Env} {d : DF} {J : DV → DV → H → Ans} (h : iA2 E d.body d.res J) (hn : d.np = 2) : ∀ args m, runFn E d args m = fA2 J args m := Is.fn2 h hn J fun _ _ _ => rfl
theorem eA3 {E : Env} {d : DF} {J : DV → DV → DV → H → Ans} (h : iA3 E d.body d.res J) (hn : d.np = 3) : ∀ args m, runFn E d args m = fA3 J args m := Is.fn3 h hn J fun _ _ _ _ => rfl
theorem eA4 {E : Env} {d : DF} {J : DV → DV → DV → DV → H → Ans} (h : iA4 E d.body d.res J) (hn : d.np = 4) : ∀ args m, runFn E d args m = fA4 J args m := Is.fn4 h hn J fun _ _ _ _ _ => rfl
theorem eA5 {E : Env} {d : DF} {J : DV → DV → DV → DV → DV → H → Ans} (h : iA5 E d.body d.res J) (hn : d.np = 5) : ∀ args m, runFn E d args m = fA5 J args m := Is.fn5 h hn J fun _ _ _ _ _ _ => rfl
theorem pushed_obj (h : H) (n es : Nat) (L : List DV) (hn : n = L.length) : ∃ x, x = h.push (.blk ⟨n, es, false, true, Tr.ofL L⟩) ∧ Grown h x ∧ ObjAt x h.size L := ⟨_, rfl, Grown.push _ _, grown_obj _ _ hn⟩
theorem nbx {R : Type} {cs : List DV} {h h1 : H} {n : Nat} {k : DV → H → Option R} (e : h1 = h.push (.blk ⟨n, n, false, true, Tr.ofL cs⟩)) (hn : n = cs.length) : n_box (.agg cs) h k = k (.ptr h.size 0) h1 := by
  subst e; subst hn; exact n_box_agg cs h k
end Go.DI
/-! # A function of the model as D's, by computation. What it says is checked where it is used; nothing is claimed of it. No condition. -/
namespace Go.DI
open Go
section
variable (P : Program)
def cmL : Value → Option DV
  | .bool b => some (.bool b)
  | .int k n => some (.int k n)
  | .string s => some (.str (s.data.toList.map UInt8.toNat))
  | .pointer none => some .nilp
  | .slice none 0 0 => some .nils
  | .map none => some .nilm
  | .nilFunc => some .nilf
  | .nilIface => some .nili
  | .func f a b => bif a.isEmpty && b.isEmpty then some (.fn f [] []) else none
  | _ => none
def cmAll {α β : Type} (f : α → Option β) : List α → Option (List β)
  | [] => some []
  | x :: l => (f x).bind fun y => (cmAll f l).map fun l => y :: l
def cmV : Value → Option DV
  | .agg cs => (cmAll cmL cs.toList).map .agg
  | .tuple cs => (cmAll cmL cs.toList).map .tup
  | v => cmL v
def cmO : Operand → Option Opd
  | .tmp t => some (.r (Pa.of t))
  | .const v => (cmV v).map .c
  | .func f => some (.c (.fn (.func f) [] []))
  | .global _ => none
def cmOo : Option Operand → Option (Option Opd)
  | none => some none
  | some x => (cmO x).map some
def cmSz (t : TypeId) : Option Nat := (P.info? t).map (·.size)
def cmAgg (t : TypeId) : Option Bool := (P.underlying t).map isAggD
def cmZs (t : TypeId) : Option (List DV) := (P.info? t).bind fun i => i.zero.bind fun z => cmAll cmL z.cells.toList
def cmZ (t : TypeId) : Option DV := (P.info? t).bind fun i => i.zero.bind cmV
def cmSame (a b : DV) : Bool := match a, b with
  | .int k x, .int k' y => decide (k = k') && decide (x = y)
  | .bool x, .bool y => x == y
  | .nili, .nili => true
  | .nilp, .nilp => true
  | .str [], .str [] => true
  | _, _ => false
def cmZc (l : List DV) : Zs :=
  match l with
  | v :: rest =>
    let n := 1 + (rest.takeWhile (cmSame v)).length
    bif Nat.blt n 16 then .list l else bif Nat.beq n l.length then .full n v else .fullThen n v (l.drop n)
  | [] => .list []
def cmEqT (t : TypeId) (x y : Operand) : Option (Option EqT) := (P.underlying t).bind fun u => match u with
  | .bool => some (some .bool)
  | .int _ => some none
  | .string => some none
  | .pointer _ => some (some .ptr)
  | .interface _ => bif isNilConst x || isNilConst y then some (some .nilI) else some (some .nilD)
  | .slice _ => some (some .nilL)
  | .map _ _ => some (some .nilM)
  | .func _ _ _ => some (some .nilF)
  | _ => none
def cmLf (t : TypeId) : Option LfK := match P.underlying t with
  | some .bool => some .bool
  | some (.int _) => some .int
  | some .string => some .str
  | _ => none
def cmEqS : Nat → TypeId → Option EqS
  | 0, _ => none
  | n + 1, t => match P.underlying t with
    | some (.struct fs) => fs.toList.foldr (fun f r => r.bind fun s => match P.underlying f.type with
      | some .bool => some (.leaf .bool f.offset s)
      | some (.int _) => some (.leaf .int f.offset s)
      | some .string => some (.leaf .str f.offset s)
      | some (.pointer _) => some (.leaf .ptr f.offset s)
      | some (.struct _) => (cmSz P f.type).bind fun k => (cmEqS n f.type).map fun q => .sub f.offset k q s
      | some (.array m el) => (cmLf P el).map fun k => .arr k f.offset m s
      | _ => none) (some .nil)
    | _ => none
def cmParts (place : Nat → Option (Nat × Nat)) (ps : Array (Nat × Operand)) : Option (List (Nat × Nat × Opd)) :=
  cmAll (fun q => (place q.1).bind fun ab => (cmO q.2).map fun x => (ab.1, ab.2, x)) ps.toList
def cm1 (f : Opd → EOp) (x : Operand) : Option DOp := (cmO x).map fun a => .e (f a)
def cm2 (f : Opd → Opd → EOp) (x y : Operand) : Option DOp := (cmO x).bind fun a => (cmO y).map fun b => .e (f a b)
def cmCall (c : Call) : Option DOp := match c.callee, c.args.toList with
  | .builtin .len, [x] => match P.underlying (c.argTypes.getD 0 0) with
    | some .string => cm1 .lenS x
    | some (.slice _) => cm1 .lenL x
    | some (.map _ _) => cm1 .lenM x
    | some (.array n _) => some (.e (.lenA n))
    | some (.pointer a) => match P.underlying a with
      | some (.array n _) => some (.e (.lenA n))
      | _ => none
    | _ => none
  | .builtin .cap, [x] => match P.underlying (c.argTypes.getD 0 0) with
    | some (.slice _) => cm1 .capL x
    | _ => none
  | .builtin .min, [x, y] => cm2 .mn x y
  | .builtin .max, [x, y] => cm2 .mx x y
  | .builtin .append, [x, y] => match P.underlying (c.argTypes.getD 0 0) with
    | some (.slice el) => (cmO x).bind fun a => (cmO y).bind fun b => (cmSz P el).bind fun s => (P.info? el).bind fun i => match P.underlying (c.argTypes.getD 1 0) with
      | some (.int _) => (cmZs P el).map fun z => .w (.apz s i.bytes z a b)
      | _ => some (.w (.app s i.bytes a b))
    | _ => none
  | .builtin .clear, [x] => match P.underlying (c.argTypes.getD 0 0) with
    | some (.slice el) => (cmZs P el).bind fun z => (cmO x).map fun a => .w (.clr z a)
    | some (.map _ _) => (cmO x).map fun a => .w (.clm a)
    | _ => none
  | .builtin .copy, [x, y] => match P.underlying (c.argTypes.getD 0 0) with
    | some (.slice el) => (cmSz P el).bind fun s => (cmO x).bind fun a => (cmO y).map fun b => .w (.cpy s a b)
    | _ => none
  | .builtin .delete, [x, k] => match P.underlying (c.argTypes.getD 0 0) with
    | some (.map key _) => (cmLf P key).bind fun q => (cmO x).bind fun x => (cmO k).map fun k => .w (.del q x k)
    | _ => none
  | .builtin _, _ => none
  | .value (.func f), as => match P.funcs[f]?, as with
    | some fn, [x, y] =>
      bif fn.body.isNone && fn.name == "internal/bytealg.IndexByteString" then cm2 (.prm .idx) x y
      else bif fn.body.isNone && fn.name == "internal/bytealg.CountString" then cm2 (.prm .cnt) x y
      else bif chkOvl P f then cm2 .ovl x y
      else (cmAll cmO as).map fun l => .c (.f f l)
    | _, _ => (cmAll cmO as).map fun l => .c (.f f l)
  | .value x, as => (cmO x).bind fun a => (cmAll cmO as).map fun l => .c (.v a l)
  | .invoke x name, as => (cmO x).bind fun a => (cmAll cmO as).map fun l => .c (.m ((List.range P.types.size).filterMap fun t => (P.info? t).bind fun i => (i.methods.find? fun m => m.name == name).bind fun m => m.func.bind fun q => bif chkM P name (t, q.1) && callable P q.1 then some (t, q.1) else none) a l)
def cmE (o : Oper) : Option DOp :=
  match o.op with
  | .move x | .assign x => cm1 .mv x
  | .pick c a b => (cmO c).bind fun c => cm2 (.pick c) a b
  | .alloc t => (cmZs P t).bind fun z => (cmSz P t).map fun s => .e (.alc z.length s (cmZc z))
  | .box _ x => cm1 .box x
  | .build t ps => (cmZs P t).bind fun z => match P.underlying t with
    | some (.struct fs) => (cmParts (structPlace P fs) ps).map fun q => .e (.bld z q)
    | some (.array _ el) => (cmSz P el).bind fun s => (cmParts (arrPlace s) ps).map fun q => .e (.bld z q)
    | _ => none
  | .buildSlice t n ps => match P.underlying t with
    | some (.slice el) => (cmSz P el).bind fun s => (cmZs P el).bind fun z => (cmParts (arrPlace s) ps).map fun q => .e (.bsl n s z q)
    | _ => none
  | .load t a => (cmAgg P t).bind fun b => bif b then (cmSz P t).bind fun s => cm1 (.ldN s) a else cm1 .ld a
  | .store t a x => (cmSz P t).bind fun s => (cmO a).bind fun a => (cmO x).map fun x => .w (.st s a x)
  | .nilCheck x => cm1 .nilchk x
  | .binOp op t x y _ =>
    match op with
    | .eql => match P.underlying t with
      | some (.struct _) => (cmEqS P 20 t).bind fun q => cm2 (.eqs false q) x y
      | _ => (cmEqT P t x y).bind fun q => match q with | some q => cm2 (.eqv q false) x y | none => cm2 (.bin op) x y
    | .neq => match P.underlying t with
      | some (.struct _) => (cmEqS P 20 t).bind fun q => cm2 (.eqs true q) x y
      | _ => (cmEqT P t x y).bind fun q => match q with | some q => cm2 (.eqv q true) x y | none => cm2 (.bin op) x y
    | _ => cm2 (.bin op) x y
  | .unOp .not _ x => cm1 .not x
  | .unOp .neg _ x => cm1 .neg x
  | .unOp .xor t x => match P.underlying t with
    | some (.int k) => cm1 (.bin .xor (.c (.int k (ones k)))) x
    | _ => none
  | .unOp .. => none
  | .convert s t x =>
    match P.underlying s, P.underlying t with
    | some .string, some .string => cm1 .same x
    | some (.slice _), some .string => cm1 .b2s x
    | some .string, some (.slice _) => cm1 .s2b x
    | some (.int _), some (.int k) => cm1 (.conv k) x
    | _, _ => none
  | .makeInterface t x => cm1 (.mkI t) x
  | .makeFunc f a c => (cmAll cmO a.toList).bind fun a => (cmAll cmO c.toList).map fun c => .e (.mkF f a c)
  | .makeMap _ none => some (.e .mkm)
  | .makeSlice t l c => match P.underlying t with
    | some (.slice el) => (P.info? el).bind fun i => (cmZs P el).bind fun z => match z with
      | [z] => cm2 (.mks 1 i.bytes z) l c
      | _ => none
    | _ => none
  | .slice t x lo hi none => (cmOo lo).bind fun lo => (cmOo hi).bind fun hi => match P.underlying t with
    | some .string => cm1 (.slS · lo hi) x
    | some (.slice el) => (cmSz P el).bind fun s => cm1 (.slL s · lo hi) x
    | some (.array n el) => (cmSz P el).bind fun s => cm1 (.slA n s · lo hi) x
    | _ => none
  | .slice t x lo (some hi) (some mx) => (cmOo lo).bind fun lo => match P.underlying t with
    | some (.slice el) => (cmSz P el).bind fun s => (cmO x).bind fun x => cm2 (.slM s x lo) hi mx
    | _ => none
  | .slice .. => none
  | .fieldAddr s x f => (fieldOf P s f).bind fun d => cm1 (.fa d.offset) x
  | .field s x f => (fieldOf P s f).bind fun d => (cmSz P d.type).bind fun n => (cmAgg P d.type).bind fun b => cm1 (.fld d.offset n b) x
  | .indexAddr t x i => match P.underlying t with
    | some (.slice el) => (cmSz P el).bind fun s => cm2 (.iaS s) x i
    | some (.array n el) => (cmSz P el).bind fun s => cm2 (.iaA n s) x i
    | _ => none
  | .index t x i => match P.underlying t with
    | some .string => cm2 .ixS x i
    | some (.array n el) => (cmSz P el).bind fun s => (cmAgg P el).bind fun b => cm2 (.ixA n s b) x i
    | _ => none
  | .extract x i => cm1 (.ext i) x
  | .typeAssert x _ t ok => match P.underlying t with
    | some (.interface _) => none
    | some _ => (cmZ P t).bind fun z => cm1 (.tas t z ok) x
    | none => none
  | .lookup t x k ok => match P.underlying t with
    | some (.map key el) => (cmLf P key).bind fun q => (cmZ P el).bind fun z => cm2 (.lkp q z ok) x k
    | _ => none
  | .mapUpdate t x k y => match P.underlying t with
    | some (.map key _) => (cmLf P key).bind fun q => (cmO x).bind fun x => (cmO k).bind fun k => (cmO y).map fun y => .w (.mup q x k y)
    | _ => none
  | .call c => cmCall P c
  | .range t x => match P.underlying t with
    | some (.map _ _) => (cmO x).map fun x => .w (.rng x)
    | _ => none
  | .entry x => (cmO x).map fun x => .w (.ent x)
  | .mapEntry t x k => match P.underlying t with
    | some (.map key el) => (cmLf P key).bind fun q => (cmZ P el).bind fun z => (cmO x).bind fun x => (cmO k).map fun k => .w (.men q z x k)
    | _ => none
  | .entryStore _ x k y => (cmO x).bind fun x => (cmO k).bind fun k => (cmO y).map fun y => .w (.est x k y)
  | _ => none
def cmG (ops : Array Oper) (o : Oper) : DG where
  dst := o.dst.map Pa.of
  guard := o.guard.bind fun jb => ((ops[jb.1]?).bind (·.dst)).map fun t => (Pa.of t, jb.2)
  op := (cmE P o).getD (.e .bad)
def cmRun (ops : Array Oper) (gs : List DG) (ms : List Nat) (sy w : List Bool) : Nat → List Nat → List DR → List DR
  | 0, _, out => out.reverse
  | n + 1, done, out =>
    let rdy := (List.range ops.size).filter fun i => !done.any (Nat.beq i) && (match ops[i]? with | some o => (deps o).all fun d => done.any (Nat.beq d) | none => false)
    match (match rdy.filter (fun i => !w.getD i false) with | i :: _ => some i | [] => rdy.head?) with
    | none => out.reverse
    | some i => match gs[i]? with
      | none => out.reverse
      | some g => cmRun ops gs ms sy w n (i :: done) ({ i := i, g := g, re := bif w.getD i false then (out.filter fun x => x.g.op.rd && !ancB ms x.i i).map (·.i) else [], sy := sy.getD i false } :: out)
def cmSched (ops : Array Oper) (gs : List DG) (ms : List Nat) : List DR :=
  let n := ops.size
  let sy := (List.range n).map fun i => match gs[i]? with
    | some g => !g.op.isW && (List.range n).any fun j => !Nat.beq j i && (!ancB ms i j && (match gs[j]? with | some y => dstIn g.dst y.looks || rLooks ops i j | none => false))
    | none => false
  let w := (List.range n).map fun i => sy.getD i false || (match gs[i]? with | some g => g.op.isW | none => false)
  cmRun ops gs ms sy w n [] []
def cmGo : Code → List Nat
  | .goto l => [l]
  | .seq a b | .cond _ a b => cmGo a ++ cmGo b
  | .block _ a | .loop a => cmGo a
  | _ => []
def cmNx (o : Oper) : Option (Pa × Opd) := match o.op, o.dst with
  | .next it false, some t => (cmO it).map fun x => (Pa.of t, x)
  | _, _ => none
/-- The iterator of a loop over a map. -/
def cmIt : Code → Option Nat
  | .loop (.seq (.region _ ops _) _) => match ((ops.toList.head?).map (fun o : Oper => o.op)) with
    | some (Op.next (Operand.tmp t) false) => some t
    | _ => none
  | _ => none
/-- What a straight piece of code lays, by its registers. -/
def cmBox : Code → List Nat
  | .region _ ops _ => ops.toList.filterMap fun o => match o.op, o.guard, o.dst with
    | .alloc _, none, some t => some t
    | .box .., none, some t => some t
    | .buildSlice .., none, some t => some t
    | _, _, _ => none
  | .seq a b => cmBox a ++ cmBox b
  | .block _ a => cmBox a
  | _ => []
def cmKil (l : List Nat) (d : DC) : DC := l.foldl (fun d t => .fin t (Pa.of t) d) d
/-- A round of a loop over a map: its step, and the rest. -/
def cmRnd : Code → Option (Code × Code × Code)
  | .seq (.region i ops d) (.seq c b) => match ((ops.toList.head?).map (fun o : Oper => o.op)) with
    | some (Op.next _ false) => some (.region i ops d, c, b)
    | _ => none
  | _ => none
def cmC : Nat → Code → DC
  | 0, _ => .bad
  | n + 1, c => match c with
    | .skip | .label _ => .skip
    | .region _ ops draw =>
      let gs := ops.toList.map (cmG P ops)
      bif draw then .drg (cmSched ops gs (masksF [] ops.toList)) else match ops.toList.head?.bind fun o => cmNx o with
        | some (p, x) => .nxt p x gs.tail
        | none => .reg gs
    | .seq a b => .seq (cmC n a) (cmC n b)
    | .cond c a b => match cmO c with
      | some c => .cond c (cmC n a) (cmC n b)
      | none => .bad
    | .block id a => match cmIt a with
      | some t => .fin t (Pa.of t) (.block id (cmC n a))
      | none => .block id (cmC n a)
    | .loop a => match cmRnd a with
      | some (s, c, b) => .loop (.seq (cmC n s) (.seq (cmC n c) (cmKil (cmBox b) (cmC n b))))
      | none => .loop (cmC n a)
    | .exit id => .exit id
    | .ret => .ret
    | .scope a => match cmGo a with
      | [] => .scope (cmC n a)
      | l :: _ => match findLabel a l with
        | some r => .jump (4294967296 + l) (cmC n a) (cmC n r)
        | none => .bad
    | .goto l => .exit (4294967296 + l)
    | _ => .bad
/-- A function, and what it lays itself is forgotten behind it. -/
def cmFk (d : DF) (f : Nat) : DF := match P.funcs[f]? with
  | some fn => match fn.body with
    | some b => { d with body := cmKil (cmBox b) d.body }
    | none => d
  | none => d
def cmF (f : Nat) : DF := match P.funcs[f]? with
  | some fn => ⟨fn.params.size + fn.nfree, fn.ntmps, (match fn.body with | some b => cmC P 1000 b | none => .bad), fn.results.toList.map fun r => match r with
    | .tmp t => .r (Pa.of t)
    | .cell a t => match cmAgg P t, cmSz P t with
      | some true, some s => .cells (Pa.of a) s
      | _, _ => .cell (Pa.of a)⟩
  | none => ⟨0, 0, .bad, []⟩
end
end Go.DI
/-! # Pieces of code by their place: what a piece comes to, with no code in sight. No condition. -/
namespace Go.DI
def cl (c : DC) : DC := match c with
  | .seq a _ => a
  | .cond _ a _ => a
  | .block _ a => a
  | .loop a => a
  | .scope a => a
  | .fin _ _ a => a
  | .jump _ a _ => a
  | _ => .bad
def cr (c : DC) : DC := match c with
  | .seq _ b => b
  | .cond _ _ b => b
  | .jump _ _ b => b
  | _ => .bad
def cc (c : DC) : Opd := match c with
  | .cond x _ _ => x
  | _ => .c .nils
def isq (c : DC) : Bool := match c with | .seq _ _ => true | _ => false
def icd (c : DC) : Bool := match c with | .cond _ _ _ => true | _ => false
def ibk (i : Nat) (c : DC) : Bool := match c with | .block j _ => Nat.beq j i | _ => false
def ilp (c : DC) : Bool := match c with | .loop _ => true | _ => false
def isc (c : DC) : Bool := match c with | .scope _ => true | _ => false
def ijm (i : Nat) (c : DC) : Bool := match c with | .jump j _ _ => Nat.beq j i | _ => false
def ifn (p : Pa) (c : DC) : Bool := match c with | .fin _ q _ => paEq q p | _ => false
section
variable {R : Type} [Agr R] {E : Env} {K : KT2 R} {c : DC} {S Sa Sb : Rg → H → Option R}
theorem Is.rf (e : ∀ σ h, exec3 E c σ h K = S σ h := by intro σ h; kernel_rfl) : Is E c K S := e
theorem Is.aq (h : Is E c K Sa) (e : ∀ σ m, Sa σ m = S σ m := by intro σ h; kernel_rfl) : Is E c K S := h.as e
theorem Is.sq (hb : Is E (cr c) K Sb) (ha : Is E (cl c) (thenK3 Sb K) Sa) (h : isq c = true := by kernel_rfl) : Is E c K Sa := by
  cases c <;> first | exact Is.seq hb ha | exact absurd h (by simp [isq])
theorem Is.cd (ha : Is E (cl c) K Sa) (hb : Is E (cr c) K Sb) (h : icd c = true := by kernel_rfl) : Is E c K fun σ h => bK (e2 σ (cc c)) (Sa σ h) (Sb σ h) := by
  cases c <;> first | exact Is.cond ha hb | exact absurd h (by simp [icd])
theorem Is.bk {i : Nat} (ha : Is E (cl c) (blockK3 i K) Sa) (h : ibk i c = true := by kernel_rfl) : Is E c K Sa := by
  cases c with
  | block j a =>
    have : j = i := Nat.eq_of_beq_eq_true h
    subst this
    exact Is.block ha
  | _ => exact absurd h (by simp [ibk])
theorem Is.sc (ha : Is E (cl c) (scopeK3 K) Sa) (h : isc c = true := by kernel_rfl) : Is E c K Sa := by
  cases c <;> first | exact Is.scope ha | exact absurd h (by simp [isc])
theorem Is.fi {p : Pa} (ha : Is E (cl c) (finK3 p K) Sa) (h : ifn p c = true := by kernel_rfl) : Is E c K Sa := by
  cases c with
  | fin t q a =>
    have : q = p := paEq_eq h
    subst this
    exact Is.fin ha
  | _ => exact absurd h (by simp [ifn])
theorem Is.lp (S : Nat → Rg → H → Option R) (hs : ∀ n, Is E (cl c) (thenK3 (S n) K) (S (n + 1))) (h0 : S 0 = fun _ _ => none := by kernel_rfl) (h : ilp c = true := by kernel_rfl) : Is E c K (S FUEL) := by
  cases c <;> first | exact Is.loop S h0 hs | exact absurd h (by simp [ilp])
theorem Is.jm {g : Nat} (S : Nat → Rg → H → Option R) (hs : ∀ n, Is E (cr c) (jumpK3 g (S n) K) (S (n + 1))) (ha : Is E (cl c) (jumpK3 g (S FUEL) K) Sa) (h0 : S 0 = fun _ _ => none := by kernel_rfl) (h : ijm g c = true := by kernel_rfl) : Is E c K Sa := by
  cases c with
  | jump j a r =>
    have : j = g := Nat.eq_of_beq_eq_true h
    subst this
    exact Is.jump S h0 hs ha
  | _ => exact absurd h (by simp [ijm])
end
attribute [irreducible] cl cr isq icd ibk ilp isc ijm ifn
abbrev iB0 (E : Env) (d : DF) (J : H → Ans) : Prop := iA0 E d.body d.res J
abbrev iB1 (E : Env) (d : DF) (J : DV → H → Ans) : Prop := iA1 E d.body d.res J
abbrev iB2 (E : Env) (d : DF) (J : DV → DV → H → Ans) : Prop := iA2 E d.body d.res J
abbrev iB3 (E : Env) (d : DF) (J : DV → DV → DV → H → Ans) : Prop := iA3 E d.body d.res J
abbrev iB4 (E : Env) (d : DF) (J : DV → DV → DV → DV → H → Ans) : Prop := iA4 E d.body d.res J
abbrev iB5 (E : Env) (d : DF) (J : DV → DV → DV → DV → DV → H → Ans) : Prop := iA5 E d.body d.res J
section
variable {d : DF}
theorem eB0 {J : Env → H → Ans} (h : ∀ E, iB0 E d (J E)) (hn : d.np = 0 := by kernel_rfl) : SQ d fun E => fA0 (J E) := fun E => eA0 (h E) hn
theorem eB1 {J : Env → DV → H → Ans} (h : ∀ E, iB1 E d (J E)) (hn : d.np = 1 := by kernel_rfl) : SQ d fun E => fA1 (J E) := fun E => eA1 (h E) hn
theorem eB2 {J : Env → DV → DV → H → Ans} (h : ∀ E, iB2 E d (J E)) (hn : d.np = 2 := by kernel_rfl) : SQ d fun E => fA2 (J E) := fun E => eA2 (h E) hn
theorem eB3 {J : Env → DV → DV → DV → H → Ans} (h : ∀ E, iB3 E d (J E)) (hn : d.np = 3 := by kernel_rfl) : SQ d fun E => fA3 (J E) := fun E => eA3 (h E) hn
theorem eB4 {J : Env → DV → DV → DV → DV → H → Ans} (h : ∀ E, iB4 E d (J E)) (hn : d.np = 4 := by kernel_rfl) : SQ d fun E => fA4 (J E) := fun E => eA4 (h E) hn
theorem eB5 {J : Env → DV → DV → DV → DV → DV → H → Ans} (h : ∀ E, iB5 E d (J E)) (hn : d.np = 5 := by kernel_rfl) : SQ d fun E => fA5 (J E) := fun E => eA5 (h E) hn
end
end Go.DI
