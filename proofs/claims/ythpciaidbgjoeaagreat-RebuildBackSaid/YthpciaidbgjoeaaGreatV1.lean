/- Specs. No condition beyond the theorems' own. -/
import Derived.Test.YthpciaidbgjoeaaGreatV0
set_option linter.unusedVariables false
set_option linter.unusedSimpArgs false
namespace Go.Proofs.YthpciaidbgjoeaaGreat
open Go.DI
structure Fr where
 st : Nat
 ix : Nat
 b : Ln
def frE (e : Fr) : yL := ⟨true, e.st, e.ix, e.b.length⟩
def lI (l : List Fr) (st ix : Nat) : Option (Ln) := (l.find? λ e => decide (e.st = st) && decide (e.ix = ix)).map Fr.b
structure aBN (x : eX) (l : List Fr) : Prop where
 M : x.M = l.map frE ++ List.replicate (10 - l.length) fg0
 le : l.length <= 10
 L : x.L.length = 90
 r : ∀ p e, l[p]? = some e -> (rdS x.L (p * 9 + 1) 8).take e.b.length = e.b /\ e.b.length <= 512
 ok : vG x.L
theorem aSP : aBN (uL 90) [] := ⟨rfl, by decide, by simp [uL], λ p e h => by simp at h, aIw 90⟩
theorem aDu (l : List Fr) (st ix k : Nat) : (l.map frE ++ List.replicate k fg0).findIdx? (atP st ix) = l.findIdx? λ e => decide (e.st = st) && decide (e.ix = ix) := by
 have h0 : (List.replicate k fg0).findIdx? (atP st ix) = none := by
   rw [List.findIdx?_eq_none_iff]; intro e he; rw [List.eq_of_mem_replicate he]; rfl
 rw [List.findIdx?_append, h0]; simp only [Option.map_none, Option.or_none]; rw [List.findIdx?_map]
 congr 1
theorem aVp (l : List Fr) (k : Nat) : (l.map frE ++ List.replicate (k + 1) fg0).findIdx? (λ e => !e.on) = some l.length := by
 have h0 : (l.map frE).findIdx? (λ e => !e.on) = none := by
   rw [List.findIdx?_eq_none_iff]; intro e he; obtain ⟨x, _, rfl⟩ := List.mem_map.1 he
   rfl
 rw [List.findIdx?_append, h0, List.replicate_succ, List.findIdx?_cons]; simp [fg0]
theorem aSF {l : List Fr} {st ix : Nat} {b : Ln} (h : lI l st ix = some b) : ∃ p e, (l.findIdx? λ e => decide (e.st = st) && decide (e.ix = ix)) = some p /\ l[p]? = some e /\ e.st = st /\ e.ix = ix /\ e.b = b := by
 unfold lI at h; obtain ⟨e, h1, rfl⟩ := Option.map_eq_some_iff.1 h; have h2 := h1; rw [List.find?_eq_bind_findIdx?_getElem?] at h2; obtain ⟨p, h3, h4⟩ := Option.bind_eq_some_iff.1 h2; have := List.find?_some h1; simp only [Bool.and_eq_true, decide_eq_true_eq] at this; exact ⟨p, e, h3, h4, this.1, this.2, rfl⟩
theorem aFq {l : List Fr} {st ix : Nat} (h : lI l st ix = none) : (l.findIdx? λ e => decide (e.st = st) && decide (e.ix = ix)) = none := by
 unfold lI at h; rw [Option.map_eq_none_iff, List.find?_eq_none] at h; rw [List.findIdx?_eq_none_iff]; intro e he; exact Bool.eq_false_iff.2 (h e he)
theorem aSO {x : eX} {l : List Fr} (h : aBN x l) (hl : l.length < 10) {st ix : Nat} {body whole hd : Ln} (hb : body.length <= 512) (h1 : whole.length = 512) (h2 : whole.take body.length = body) (h3 : aP whole = true) (h4 : hd.length = 64) (h5 : aP hd = true) (dn ls : Bool) :
   aBN ⟨dn, ls, x.M.set l.length ⟨true, st, ix, body.length⟩, iM (iM x.L (l.length * 9 + 1) whole 8) (l.length * 9) hd 1⟩ (l ++ [⟨st, ix, body⟩]) where
 M := by
   obtain ⟨k, hk⟩ : ∃ k, 10 - l.length = k + 1 := ⟨9 - l.length, by omega⟩
   have hk2 : 10 - (l ++ [⟨st, ix, body⟩] : List Fr).length = k := by simp; omega
   show x.M.set l.length _ = _; rw [h.M, hk, hk2, List.set_append_right _ _ (by rw [List.length_map]; exact Nat.le_refl _), List.length_map, Nat.sub_self, List.replicate_succ, List.set_cons_zero, List.map_append, List.append_assoc]
   rfl
 le := by simp; omega
 L := by rw [kK, kK]; exact h.L
 r := λ p e hp => by
   have hL := h.L; show (rdS (iM (iM x.L (l.length * 9 + 1) whole 8) (l.length * 9) hd 1) (p * 9 + 1) 8).take e.b.length = e.b /\ _; by_cases hlt : p < l.length
   · rw [List.getElem?_append_left hlt] at hp; have e1 : rdS (iM (iM x.L (l.length * 9 + 1) whole 8) (l.length * 9) hd 1) (p * 9 + 1) 8 = rdS x.L (p * 9 + 1) 8 := aGG λ j hj => by
       rw [yY _ _ _ _ _ (.inl (by omega)), yY _ _ _ _ _ (.inl (by omega))]
     rw [e1]; exact h.r p e hp
   · have hp2 := (List.getElem?_eq_some_iff.1 hp).1; simp only [List.length_append, List.length_cons, List.length_nil] at hp2; have : p = l.length := by omega
     subst this; rw [List.getElem?_append_right (Nat.le_refl _), Nat.sub_self] at hp; cases hp; refine ⟨?_, hb⟩; have e1 : rdS (iM (iM x.L (l.length * 9 + 1) whole 8) (l.length * 9) hd 1) (l.length * 9 + 1) 8 = rdS (iM x.L (l.length * 9 + 1) whole 8) (l.length * 9 + 1) 8 := aGG λ j hj => yY _ _ _ _ _ (.inr (by omega))
     rw [e1, aIZ (by omega) (by omega), List.take_of_length_le (i := 8 * 64) (by omega)]
     exact h2
 ok := aCM (aCM h.ok h3 (by omega)) h5 (by omega)
section
variable {g g' : H} {sv lb : Nat} {S : List cZ} {X : List eX}
theorem aUc (q : SvS g sv lb S X) {i st ix : Nat} {B : cZ} {x : eX} {l : List Fr} {body : Ln} (hi : S[i]? = some B) (hx : X[i]? = some x) (hd : x.dn = false) (hs' : x.ls = false) (hm : aBN x l) (hl : l.length < 10) (hn : lI l st ix = none) (hs : st < 2147483648) (h8 : ix < 8) (ok : aP body = true) (hb : body.length <= 512) :
   W (oG [.ptr sv 0, .int .i64 (.ofNat i), .agg (pZ st ix), .str body] g) λ v g' => v = .int .i64 (.ofNat 0) /\ fJ (svF S sv lb) g g' /\ ∃ x', aBN x' (l ++ [⟨st, ix, body⟩]) /\ x'.dn = false /\ x'.ls = false /\ SvS g' sv lb S (X.set i x') := by
 have hA := q.at_ i B _ hi hx; obtain ⟨PB, pb, ps⟩ := bHE.call; have hmem := List.mem_of_getElem? hi; have res := bGM (h := g) (a := .ptr sv 0) (b := .int .i64 (.ofNat i)) (st := st) (ix := ix) (f := B.f) (body := body) (F := λ c => c = B.b \/ c = B.mp \/ c = B.bs) (Q := λ h4 => ∃ x', aBN x' (l ++ [⟨st, ix, body⟩]) /\ x'.dn = false /\ x'.ls = false /\ lX h4 B x')
   (λ h2 k => aCD (q.grown k).svs hi (hA.grown k) hd hs') (λ h2 k => by
     obtain ⟨c, o, f, nn⟩ := hA.grown k; obtain ⟨k9, hk9⟩ : ∃ k, 10 - l.length = k + 1 := ⟨9 - l.length, by omega⟩
     obtain ⟨h4, whole, hdd, c', e1, f4, w1, w2, w3, w4, w5, k4⟩ := ps B.f B.d B.b B.mp B.bs st ix l.length body x.M x.L c h2 f hs h8 ok hb (by rw [hm.M, hk9]; exact aVp l k9) (by rw [hm.M, aDu]; exact aFq hn)
     refine ⟨_, h4, by rw [pb]; exact e1, rfl, k4, _, aSO hm hl hb w1 w2 w3 w4 w5 false false, rfl, rfl, c', ?_, f4, nn⟩
     have := o.off k4 (by rintro (h | h | h) <;> simp_all)
     rw [hd, hs'] at this; exact this)
   (λ c hc => hA.lt (by rcases hc with rfl | rfl | rfl <;> simp [cZ.has])) (λ h4 h5 c ⟨x, a1, a2, a3, a4⟩ hc k => ⟨x, a1, a2, a3, a4.off (k.off (F := λ y => y = c) rfl) λ y hy e => by
     have := hA.lt hy; omega⟩)
 refine W.mono res ?_
 rintro v g' ⟨rfl, k, x, a1, a2, a3, a4⟩
 exact ⟨rfl, k.weak λ c _ hc => .inr (.inr ⟨B, hmem, by rcases hc with rfl | rfl | rfl <;> simp [cZ.has]⟩), x, a1, a2, a3, q.set k hi (λ c hc => by rcases hc with rfl | rfl | rfl <;> simp [cZ.has]) a4⟩
def bHm (x : eX) (l : List Fr) (st ix : Nat) : DV := if (x.dn || x.ls) = true then .tup [.str [], .int .i64 (.ofNat 8)] else match lI l st ix with
 | some b => .tup [.str b, .int .i64 (.ofNat 0)]
 | none => .tup [.str [], .int .i64 (.ofNat 7)]
theorem aUe (q : SvS g sv lb S X) {i st ix : Nat} {B : cZ} {x : eX} {l : List Fr} (hi : S[i]? = some B) (hx : X[i]? = some x) (hm : aBN x l) :
   W (oH [.ptr sv 0, .int .i64 (.ofNat i), .agg (pZ st ix)] g) λ v g' => v = bHm x l st ix /\ aX g g' := by
 have hA := q.at_ i B _ hi hx; unfold bHm; by_cases hd : (x.dn || x.ls) = true
 · rw [if_pos hd]; exact aVg (λ h2 k => aLD (q.grown k).svs hi (hA.grown k) hd) λ h2 k => aLE (q.grown k).svs hi (hA.grown k) hd
 · rw [if_neg hd]; obtain ⟨PB, pb, ps⟩ := bHF.call; simp only [Bool.or_eq_true, not_or, Bool.not_eq_true] at hd; cases hk : lI l st ix with
   | none =>
     refine aVf (f := B.f) (λ h2 k => aCD (q.grown k).svs hi (hA.grown k) hd.1 hd.2) λ h2 k => ?_
     obtain ⟨c, o, f, nn⟩ := hA.grown k; obtain ⟨h4, e1, k4⟩ := (ps B.f B.d B.b B.mp B.bs st ix x.M x.L c h2 f hm.ok).1 (by rw [hm.M, aDu]; exact aFq hk)
     exact ⟨_, h4, by rw [pb]; exact e1, rfl, k4⟩
   | some b =>
     obtain ⟨p, e, p1, p2, p3, p4, p5⟩ := aSF hk; refine aVf (f := B.f) (λ h2 k => aCD (q.grown k).svs hi (hA.grown k) hd.1 hd.2) λ h2 k => ?_
     obtain ⟨c, o, f, nn⟩ := hA.grown k; obtain ⟨r1, r2⟩ := hm.r p e p2; obtain ⟨h4, e1, k4⟩ := (ps B.f B.d B.b B.mp B.bs st ix x.M x.L c h2 f hm.ok).2 p (frE e) (by rw [hm.M, aDu]; exact p1) (by
       rw [hm.M, List.getElem?_append_left (by rw [List.length_map]; exact (List.getElem?_eq_some_iff.1 p2).1), List.getElem?_map, p2]; rfl) r2
     refine ⟨_, h4, by rw [pb]; exact e1, ?_, k4⟩
     rw [<- p5]; show DV.tup [.str ((rdS x.L (p * 9 + 1) 8).take e.b.length), _] = _; rw [r1]
end
end Go.Proofs.YthpciaidbgjoeaaGreat
