/- Specs. No condition beyond the theorems' own. -/
import Derived.Test.YthpciaidbgjoeaaGreatV4
set_option linter.unusedVariables false
set_option linter.unusedSimpArgs false
namespace Go.Proofs.YthpciaidbgjoeaaGreat
open Go.DI
def l4 (F : Nat -> Ln) : List (Ln) := [F 0, F 1, F 2, F 3]
theorem aLY {F : Nat -> Ln} {t : Ln} (h : t ∈ l4 F) : ∃ i, i < 4 /\ t = F i := by
 unfold l4 at h; simp only [List.mem_cons, List.not_mem_nil, or_false] at h; rcases h with rfl | rfl | rfl | rfl
 · exact ⟨0, by decide, rfl⟩
 · exact ⟨1, by decide, rfl⟩
 · exact ⟨2, by decide, rfl⟩
 · exact ⟨3, by decide, rfl⟩
theorem aUW {F G : Nat -> Ln} {i : Nat} (hi : i < 4) (h : ∀ j, j < 4 -> j ≠ i -> F j = G j) : qN (l4 F) i = qN (l4 G) i := by
 rcases lt4 hi with rfl | rfl | rfl | rfl <;> simp [qN, l4, h]
theorem bGH {h : H} {b : Nat} {op : Bool} {F : Nat -> Ln} (o : aR h b (r4 λ i => .str (F i))) : gF h (.slc b 0 4 4 op) (dR (l4 F)) :=
 .inr ⟨b, 0, 4, op, rfl, Nat.le_refl 4, o.1, λ j x hj => by rw [Nat.zero_add]; exact o.rd hj⟩
structure LOk (n : Nat) (text : Ln) (L : Nat -> Ln) : Prop where
 ok : ∀ i, i < 4 -> aP (L i) = true /\ (L i).length = eP n 4
 n5 : eP n 4 <= 512
 give : ∀ i, i < 4 -> (gX fO (qN (l4 L) i)).take (eP n 4) = L i
 join : (l4 L).flatten.take n = text
 le : n <= eP n 4 * 4
section
variable {N : Nat -> Nat} {hs h' : H} {A : Re} {g g' : H} {pa pm sv lb : Nat} {S : List cZ} {X : List eX} {L : Nat -> Ln} {dn : Nat -> Bool} {text : Ln} {lost id : Nat}
abbrev ArB (N : Nat -> Nat) (hs : H) (A : Re) (pa pm sv lb : Nat) (S : List cZ) (X : List eX) : H -> Prop := λ g => iX (Vt N) hs 47 46 A g pa pm sv lb S X
def aRR (ls : Nat -> List Fr) (ds lo : Nat -> Bool) (sg : Nat -> Nat) (id : Nat) (L : Nat -> Ln) (dn : Nat -> Bool) : Prop := ∀ i, i < 4 -> sg i < 5 /\ ((dn i = true /\ ((ds (sg i) || lo (sg i)) = true \/ lI (ls (sg i)) id i = none)) \/ (dn i = false /\ (ds (sg i) || lo (sg i)) = false /\ lI (ls (sg i)) id i = some (L i)))
theorem aLL {E F : aQ} (hE : fZ (Vt N) Eb F) (hfr : ∀ a b, aB E 68 a b = S68 F a b) (hp : aB F 101 = oH) {sg : Nat -> Nat} (hR : ∀ i, i < 4 -> aKB hs id i (sg i)) (st : Stg hs 47 46) (hS : S.length = 5) {ls : Nat -> List Fr} {ds lo : Nat -> Bool} (hX : kS X ls ds lo) (hg : aRR ls ds lo sg id L dn) {z : Nat} (hz : ∀ c, rng Ob A c \/ svF S sv lb c -> c < z) :
   RdP E (ArB N hs A pa pm sv lb S X) (rng Ob A) z pa id L dn where
 lt := λ c h => hz c (.inl h)
 st := λ g g' r k => r.other k (λ c hc hr => by have := hz c (.inl hr); omega) (λ c hc hr => by have := hz c (.inr hr); omega)
 fr := λ g i hi r hzg => by
   obtain ⟨s5, hg⟩ := hg i hi; obtain ⟨B, hB⟩ : ∃ B, S[sg i]? = some B := ⟨_, List.getElem?_eq_getElem (by omega)⟩
   obtain ⟨x, x1, x2, x3, x4⟩ := hX (sg i) s5; rw [hfr]; obtain ⟨_, gg, e1, rfl, k1, r1⟩ := aFa hE (hR i hi) r; have l1 := r1.c0 st.c0; obtain ⟨v, gh, e2, hv, k2⟩ := aUe (st := id) (ix := i) r1.q hB x1 x4; show W (aQX F (.ptr pa 0) (.int .i64 (.ofNat id)) (.int .i64 (.ofNat i)) g) _; unfold aQX
   repeat' (first | (with_reducible first | refine sT ?_ | refine sF ?_ | refine g1 ?_ | refine g2 ?_ | refine g3 ?_ | refine g4 ?_) | refine sW e1 ?_ | ((with_reducible apply sV); first | exact l1 | exact dF) | exact W.ret ⟨rfl, rfl⟩ | with_reducible refine W.ret ?_)
   rw [hp]; refine sW e2 ?_; unfold bHm at hv; rw [x2, x3] at hv; rcases hg with ⟨d1, d2⟩ | ⟨d1, d2, d3⟩
   · rcases d2 with d2 | d2
     · rw [if_pos d2] at hv; subst hv
       repeat' (first | (with_reducible first | refine sT ?_ | refine sF ?_ | refine g1 ?_ | refine g2 ?_ | refine g3 ?_ | refine g4 ?_) | ((with_reducible apply sV); exact dF) | exact W.ret ⟨rfl, rfl⟩ | with_reducible refine W.ret ?_)
       exact ⟨⟨7, by rw [d1]; rfl⟩, k1.trans (k2.off _), r1.grown k2⟩
     · by_cases hu : (ds (sg i) || lo (sg i)) = true
       · rw [if_pos hu] at hv; subst hv
         repeat' (first | (with_reducible first | refine sT ?_ | refine sF ?_ | refine g1 ?_ | refine g2 ?_ | refine g3 ?_ | refine g4 ?_) | ((with_reducible apply sV); exact dF) | exact W.ret ⟨rfl, rfl⟩ | with_reducible refine W.ret ?_)
         exact ⟨⟨7, by rw [d1]; rfl⟩, k1.trans (k2.off _), r1.grown k2⟩
       · rw [if_neg hu, d2] at hv; subst hv
         repeat' (first | (with_reducible first | refine sT ?_ | refine sF ?_ | refine g1 ?_ | refine g2 ?_ | refine g3 ?_ | refine g4 ?_) | ((with_reducible apply sV); exact dF) | exact W.ret ⟨rfl, rfl⟩ | with_reducible refine W.ret ?_)
         exact ⟨⟨6, by rw [d1]; rfl⟩, k1.trans (k2.off _), r1.grown k2⟩
   · rw [d2, d3] at hv
     replace hv : v = .tup [.str (L i), .int .i64 (.ofNat 0)] := hv
     subst hv
     repeat' (first | (with_reducible first | refine sT ?_ | refine sF ?_ | refine g1 ?_ | refine g2 ?_ | refine g3 ?_ | refine g4 ?_) | ((with_reducible apply sV); exact dF) | exact W.ret ⟨rfl, rfl⟩ | with_reducible refine W.ret ?_)
     exact ⟨⟨0, by rw [d1]; rfl⟩, k1.trans (k2.off _), r1.grown k2⟩
theorem uM {F : aQ} (r : iX (Vt N) hs 47 46 A g pa pm sv lb S X) (st : Stg hs 47 46) : W (S41 F [.ptr pa 0] g) λ v g' => v = .ptr pm 0 /\ g' = g := by
 have l1 := r.c1 st.c1; show W (aRp F (.ptr pa 0) g) _; unfold aRp
 repeat' (first | (with_reducible first | refine sT ?_ | refine sF ?_ | refine g1 ?_ | refine g2 ?_ | refine g3 ?_ | refine g4 ?_) | ((with_reducible apply sV); first | exact l1 | exact dF) | exact W.ret ⟨rfl, rfl⟩ | with_reducible refine W.ret ?_)
theorem aII {E : aQ} (hE : fZ (Vt N) Eb E) (hid : id < 6) (R : aMJ hs id lost) (r : iX (Vt N) hs 47 46 A g pa pm sv lb S X) :
   ∃ c gg, aB E 65 [.ptr pm 0, .int .i64 (.ofNat id)] g = some (.tup [.agg [.int .i64 (.ofNat id), .int .i64 (.ofNat 2), .int .i64 (.ofNat 0), .int .i64 (.ofNat 1), .int .i64 (.ofNat (N id)), .slc c 0 4 4 true], .bool true], gg) /\ fJ (rng Ob A) g gg /\ iX (Vt N) hs 47 46 A gg pa pm sv lb S X := by
 obtain ⟨c0, h1, h2, hst, k1, _, _⟩ := R; obtain ⟨A', w, gg, f1, f2, f3, f4, f5⟩ := aIX hE r.hr (args' := [.ptr pm 0, .int .i64 (.ofNat id)]) (aE.2 ⟨_, _, gZ r.m, rfl, rfl⟩) hst k1; obtain ⟨tv, y1, rfl⟩ := qF f5; obtain ⟨b0, _, y2, y3, rfl⟩ := aE.1 y1; obtain ⟨b1, _, y4, y5, rfl⟩ := aE.1 y3; cases y5; have yb := kV y4; subst yb; obtain ⟨cs', d0, rfl⟩ := nM y2; obtain ⟨q0, _, j0, d1, rfl⟩ := aE.1 d0; obtain ⟨q1, _, j1, d2, rfl⟩ := aE.1 d1; obtain ⟨q2, _, j2, d3, rfl⟩ := aE.1 d2; obtain ⟨q3, _, j3, d4, rfl⟩ := aE.1 d3; obtain ⟨q4, _, j4, d5, rfl⟩ := aE.1 d4; obtain ⟨q5, _, j5, d6, rfl⟩ := aE.1 d5; cases d6; rw [aBZ hid] at j4; cases j4; have w0 := cL j0; have w1 := cL j1; have w2 := cL j2; have w3 := cL j3; subst w0 w1 w2 w3; obtain ⟨c', hc', rfl⟩ := fV j5; exact ⟨c', gg, f1, f2, r.rd f2 f3⟩
theorem aUC {E F : aQ} (hE : fZ (Vt N) Eb E) (hm : ∀ a b, aB E 41 a b = S41 F a b) (hLo : fK E 57 rP) (hN : N id <= 65536) (hid : id < 6) (R : aMJ hs id lost) (st : Stg hs 47 46) (r : iX (Vt N) hs 47 46 A g pa pm sv lb S X) (L : Nat -> Ln) (dn : Nat -> Bool) :
   W (S34 E [.ptr pa 0, .int .i64 (.ofNat id)] g) λ v g' => ∃ b, v = .tup [.ptr b.x 0, .int .i64 (.ofNat 0)] /\ iX (Vt N) hs 47 46 A g' pa pm sv lb S X /\ tO g' g.size id (N id) pa b L dn (λ _ => false) /\ fJ (rng Ob A) g g' := by
 obtain ⟨_, gx, em, rfl, rfl⟩ := uM (F := F) r st; obtain ⟨c', gg, f1, f2, r1⟩ := aII hE hid R r; have hn := hN; generalize N id = n at hn f1 ⊢; show W (aRx E (.ptr pa 0) (.int .i64 (.ofNat id)) gx) _; unfold aRx
 repeat' (first | (with_reducible first | refine sT ?_ | refine sF ?_ | refine g1 ?_ | refine g2 ?_ | refine g3 ?_ | refine g4 ?_) | rw [hm] | refine sW em ?_ | ((with_reducible apply sV); exact dF) | exact W.ret ⟨rfl, rfl⟩ | with_reducible refine W.ret ?_)
 refine sW f1 ?_
 repeat' (first | (with_reducible first | refine sT ?_ | refine sF ?_ | refine g1 ?_ | refine g2 ?_ | refine g3 ?_ | refine g4 ?_) | ((with_reducible apply sV); exact dF) | exact W.ret ⟨rfl, rfl⟩ | with_reducible refine W.ret ?_)
 refine sA rfl λ ga z1 u1 o1 => ?_
 refine sS o1 rfl rfl rfl λ gb o2 k2 => ?_
 repeat' (first | (with_reducible first | refine sT ?_ | refine sF ?_ | refine g1 ?_ | refine g2 ?_ | refine g3 ?_ | refine g4 ?_) | ((with_reducible apply sV); first | exact o2.all rfl | exact dF) | exact W.ret ⟨rfl, rfl⟩ | with_reducible refine W.ret ?_)
 refine sM (by decide) (by decide) λ gc z3 u3 o3 => ?_
 refine sM (by decide) (by decide) λ gd z4 u4 o4 => ?_
 refine sM (by decide) (by decide) λ ge z5 u5 o5 => ?_
 obtain ⟨BL, bL, sL'⟩ := hLo.call; refine sC bL (sL' n 4 ge hn (by decide) (by decide)) ?_
 have o6 := ((o2.grown u3).grown u4).grown u5; rw [rck (rcI (o6.all (n := 6) rfl) (by simp [gL, nC]))]
 refine sV (x := .agg (bGA id n pa ⟨ge.size, gb.size, gc.size, gd.size, c'⟩)) rfl ?_; refine sX λ gf z7 u7 o7 => ?_
 refine W.ret ?_; have lg : gg.size = gb.size - 1 := by have := k2.size; omega
 have K : aX gg gb := ⟨by have := k2.size; omega, λ c hc => by rw [k2.get c (by omega), u1.get c hc]⟩
 have G := K.trans (((u3.trans u4).trans u5).trans u7); have s2 := k2.size; have sg := f2.size; refine ⟨⟨ge.size, gb.size, gc.size, gd.size, c'⟩, rfl, r1.grown G, ⟨o7, ?_, ?_, ?_, ⟨by show gb.size < gc.size; omega, by show gc.size < gd.size; omega, by show gd.size < ge.size; omega⟩, ?_⟩, ?_⟩
 · exact ((o3.grown u4).grown u5).grown u7
 · exact (o4.grown u5).grown u7
 · exact o5.grown u7
 · show gx.size <= gb.size; omega
 · exact f2.trans (G.off _)
end
section
variable {E : aQ} {P : H -> Prop} {R : Nat -> Prop} {z pa id n : Nat} {g g' : H} {L : Nat -> Ln} {dn : Nat -> Bool} {text : Ln}
theorem aJq {E : aQ} (hJ : fK E 67 rN) (h2 : n <= 65536) (q : LOk n text L) {b : StB} (o : aR g b.x (bGA id n pa b)) (f : aR g b.fb (r4 λ i => .str (L i))) :
   W (aKP E (.ptr b.x 0) g) λ w g' => w = .tup [.str text, .int .i64 (.ofNat 0)] /\ aX g g' := by
 obtain ⟨BJ, bJ, sJ⟩ := hJ.call; have o' : aR g b.x [.ptr pa 0, .int .i64 (.ofNat id), .int .i64 (.ofNat 2), .int .i64 (.ofNat 0), .int .i64 (.ofNat 1), .int .i64 (.ofNat n), .slc b.c 0 4 4 true, .int .i64 (.ofNat (eP n 4)), .slc b.fb 0 4 4 false, .slc b.ab 0 4 4 false, .slc b.cb 0 4 4 false] := o; obtain ⟨h', e1, k1⟩ := sJ _ (l4 L) n g (bGH f) (Nat.le_of_ble_eq_true rfl) (Nat.le_of_ble_eq_true rfl) h2 q.n5 (λ t ht => by
   obtain ⟨i, hi, rfl⟩ := aLY ht; exact q.ok i hi) q.le
 rw [q.join] at e1; unfold aKP
 repeat' (first | (with_reducible first | refine sT ?_ | refine sF ?_ | refine g1 ?_ | refine g2 ?_ | refine g3 ?_ | refine g4 ?_) | refine sC bJ e1 ?_ | ((with_reducible apply sV); exact dF) | exact W.ret ⟨rfl, rfl⟩ | with_reducible refine W.ret ?_)
 exact ⟨rfl, k1⟩
theorem aSc (p : RdP E P R z pa id L dn) (h2 : n <= 65536) (r : P g) (q : LOk n text L) {G M : aQ} (hmi : ∀ a b, aB G 36 a b = S36 M a b) (hask : ∀ a b, aB M 39 a b = S39 E a b) (hG : fK G 66 vJ) (hJ : fK G 67 rN) {b : StB} {as_ : Nat -> Bool} (t : tO g z id n pa b L dn as_) :
   W (S35 G [.ptr b.x 0] g) λ w g' => w = (if 2 <= (iS dn 4).length then .tup [.str [], .int .i64 (.ofNat 9)] else .tup [.str text, .int .i64 (.ofNat 0)]) /\ P g' /\ fJ (stF R b) g g' := by
 obtain ⟨BG, bG, sG⟩ := hG.call; obtain ⟨v, gg, e1, o1, r1, ⟨as1, t1, hal⟩, z1⟩ := aBx p r (λ i hi => (q.ok i hi).2) hask t
 obtain ⟨ne1, ne2, ne3⟩ := t1.ne; have hrg := t1.rg; have hpg : ∀ gz, aX gg gz -> P gz := λ gz k => p.st _ _ r1 (k.off _)
 have hlen : aO v = some (.int .i64 (.ofNat (iS dn 4).length)) := by
   rw [o1.len]; unfold eK; rw [List.length_map]
 have ol : aR gg b.x [.ptr pa 0, .int .i64 (.ofNat id), .int .i64 (.ofNat 2), .int .i64 (.ofNat 0), .int .i64 (.ofNat 1), .int .i64 (.ofNat n), .slc b.c 0 4 4 true, .int .i64 (.ofNat (eP n 4)), .slc b.fb 0 4 4 false, .slc b.ab 0 4 4 false, .slc b.cb 0 4 4 false] := t1.o; show W (aRw G (.ptr b.x 0) g) _; unfold aRw; rw [hmi]; refine sW e1 ?_; have hf : ∀ j, j < 4 -> frg L dn as1 j = if dn j then [] else L j := λ j hj => by
   unfold frg; rw [hal j hj]; cases dn j <;> rfl
 by_cases h2l : 2 <= (iS dn 4).length
 · repeat' (first | (with_reducible first | refine sT ?_ | refine sF ?_ | refine g1 ?_ | refine g2 ?_ | refine g3 ?_ | refine g4 ?_) | ((with_reducible apply sV); first | exact hlen | exact dF) | exact W.ret ⟨rfl, rfl⟩ | with_reducible refine W.ret ?_)
   exact ⟨by rw [if_pos h2l], r1, z1⟩
 · rw [if_neg h2l]; cases hD : iS dn 4 with
   | nil =>
     rw [hD] at hlen; have hlen : aO v = some (.int .i64 (.ofNat 0)) := hlen; have nod : ∀ j, j < 4 -> dn j = false := λ j hj => by
       cases hd : dn j with
       | false => rfl
       | true =>
         have : j ∈ iS dn 4 := aAH.2 ⟨hj, hd⟩; rw [hD] at this; cases this
     repeat' (first | (with_reducible first | refine sT ?_ | refine sF ?_ | refine g1 ?_ | refine g2 ?_ | refine g3 ?_ | refine g4 ?_) | ((with_reducible apply sV); first | exact hlen | exact dF) | exact W.ret ⟨rfl, rfl⟩ | with_reducible refine W.ret ?_)
     show W (aEs G _ _ _ (aFZ G _ _ _ (aK - 1)) _ gg) _; unfold aEs
     repeat' (first | (with_reducible first | refine sT ?_ | refine sF ?_ | refine g1 ?_ | refine g2 ?_ | refine g3 ?_ | refine g4 ?_) | ((with_reducible apply sV); exact dF) | exact W.ret ⟨rfl, rfl⟩ | with_reducible refine W.ret ?_)
     have ft := t1.f; rw [jK (g := λ i => .str (L i)) λ j hj => by rw [hf j hj, nod j hj]; rfl] at ft
     refine W.mono (aJq hJ h2 q t1.o ft) ?_
     rintro w g' ⟨rfl, k⟩
     exact ⟨rfl, hpg _ k, z1.trans (k.off _)⟩
   | cons i D =>
     have hD0 : D = [] := by
       cases D with
       | nil => rfl
       | cons a D => rw [hD] at h2l; simp at h2l
     subst hD0; rw [hD] at hlen o1; have hlen : aO v = some (.int .i64 (.ofNat 1)) := hlen; have him : i ∈ iS dn 4 := by rw [hD]; simp
     obtain ⟨hi, hdi⟩ := aAH.1 him; have nod : ∀ j, j < 4 -> j ≠ i -> dn j = false := λ j hj hne => by
       cases hd : dn j with
       | false => rfl
       | true =>
         have : j ∈ iS dn 4 := aAH.2 ⟨hj, hd⟩; rw [hD] at this; exact absurd (by simpa using this) hne
     obtain ⟨c, c1, c2⟩ := o1.load1 (j := 0) (x := .int .i64 (.ofNat i)) rfl .i64; have hb : qN (l4 (frg L dn as1)) i = qN (l4 L) i := aUW hi λ j hj hne => by rw [hf j hj, nod j hj hne]; rfl
     obtain ⟨gh, e2, k2⟩ := sG _ (l4 (frg L dn as1)) (eP n 4) i gg (bGH t1.f) (Nat.le_of_ble_eq_true rfl) (Nat.le_of_ble_eq_true rfl) q.n5 hi (λ t ht => by
       rw [hb] at ht; obtain ⟨j, hj, rfl⟩ := aLY (aDW ht); exact q.ok j hj)
     rw [hb, q.give i hi] at e2
     repeat' (first | (with_reducible first | refine sT ?_ | refine sF ?_ | refine g1 ?_ | refine g2 ?_ | refine g3 ?_ | refine g4 ?_) | ((with_reducible apply sV); first | exact hlen | exact dF) | exact W.ret ⟨rfl, rfl⟩ | with_reducible refine W.ret ?_)
     show W (aEs G _ _ _ (aFZ G _ _ _ (aK - 1)) _ gg) _; unfold aEs
     repeat' (first | (with_reducible first | refine sT ?_ | refine sF ?_ | refine g1 ?_ | refine g2 ?_ | refine g3 ?_ | refine g4 ?_) | ((with_reducible apply sV); first | exact c1 | exact c2 | exact dF) | exact W.ret ⟨rfl, rfl⟩ | with_reducible refine W.ret ?_)
     refine sC bG e2 ?_; have o2 := t1.o.grown k2; have o2' : aR gh b.x [.ptr pa 0, .int .i64 (.ofNat id), .int .i64 (.ofNat 2), .int .i64 (.ofNat 0), .int .i64 (.ofNat 1), .int .i64 (.ofNat n), .slc b.c 0 4 4 true, .int .i64 (.ofNat (eP n 4)), .slc b.fb 0 4 4 false, .slc b.ab 0 4 4 false, .slc b.cb 0 4 4 false] := o2; rw [rck (rcI (o2'.read (j := 8) rfl) (by simp [gL]))]
     repeat' (first | (with_reducible first | refine sT ?_ | refine sF ?_ | refine g1 ?_ | refine g2 ?_ | refine g3 ?_ | refine g4 ?_) | ((with_reducible apply sV); first | exact aMc hi | exact dF) | exact W.ret ⟨rfl, rfl⟩ | with_reducible refine W.ret ?_)
     refine sS1 (t1.f.grown k2) (by show i < 4; exact hi) rfl λ gi f3 k3 => ?_
     rw [qG hi] at f3; rw [jK (g := λ j => .str (L j)) λ j hj => by
       by_cases e : j = i
       · simp [e]
       · simp only [e, if_false]; rw [hf j hj, nod j hj e]; rfl] at f3
     repeat' (first | (with_reducible first | refine sT ?_ | refine sF ?_ | refine g1 ?_ | refine g2 ?_ | refine g3 ?_ | refine g4 ?_) | ((with_reducible apply sV); exact dF) | exact W.ret ⟨rfl, rfl⟩ | with_reducible refine W.ret ?_)
     show W (aEs G _ _ _ (aFZ G _ _ _ (aK - 2)) _ gi) _; unfold aEs
     repeat' (first | (with_reducible first | refine sT ?_ | refine sF ?_ | refine g1 ?_ | refine g2 ?_ | refine g3 ?_ | refine g4 ?_) | ((with_reducible apply sV); exact dF) | exact W.ret ⟨rfl, rfl⟩ | with_reducible refine W.ret ?_)
     have k3o := k3.off (F := λ c => c = b.fb) rfl
     have r3 : P gi := p.st _ _ (hpg _ k2) (k3o.weak λ c _ h => by rw [h]; exact hrg)
     refine W.mono (aJq hJ h2 q (o2.but (by omega) k3) f3) ?_
     rintro w g' ⟨rfl, k⟩
     exact ⟨rfl, p.st _ _ r3 (k.off _), (z1.trans (k2.off _)).trans ((k3o.weak λ c _ h => .inr (.inl h)).trans (k.off _))⟩
end
end Go.Proofs.YthpciaidbgjoeaaGreat
