/- Specs. No condition beyond the theorems' own. -/
import Derived.Test.YthpciaidbgjoeaaGreatS2
set_option linter.unusedVariables false
set_option linter.unusedSimpArgs false
noncomputable section
namespace Go.Proofs.YthpciaidbgjoeaaGreat
open Go.DI
section
variable {g g' : H} {sv lb : Nat} {S : List cZ} {X : List eX}
theorem aUd (q : SvS g sv lb S X) {E : aQ} (hE : E 33 = some (S33 E)) {i : Nat} {B : cZ} {x : eX} (hi : S[i]? = some B) (hx : X[i]? = some x) :
   W (S14 E [.ptr sv 0, .int .i64 (.ofNat i)] g) λ v g' => v = .bool true /\ fJ (svF S sv lb) g g' /\ SvS g' sv lb S (X.set i { x with ls := true }) := by
 have hA := q.at_ i B _ hi hx; obtain ⟨c, o, f, nn⟩ := hA; have hmem := List.mem_of_getElem? hi; have bA : ∀ args m, aB E 33 args m = S33 E args m := λ args m => aT hE args m
 show W (aRP E (.ptr sv 0) (.int .i64 (.ofNat i)) g) _; unfold aRP aRO; refine sN bA (vS q.svs (qY hi)) ?_
 rintro _ gg ⟨rfl, rfl⟩
 repeat' (first | (with_reducible first | refine sT ?_ | refine sF ?_ | refine g1 ?_ | refine g2 ?_ | refine g3 ?_ | refine g4 ?_) | ((with_reducible apply sV); exact dF) | exact W.ret ⟨rfl, rfl⟩ | with_reducible refine W.ret ?_)
 refine sS1 (j := 3) o (Nat.le_of_ble_eq_true rfl) rfl λ gh o2 k2 => ?_
 repeat' (first | (with_reducible first | refine sT ?_ | refine sF ?_ | refine g1 ?_ | refine g2 ?_ | refine g3 ?_ | refine g4 ?_) | ((with_reducible apply sV); exact dF) | exact W.ret ⟨rfl, rfl⟩ | with_reducible refine W.ret ?_)
 have k3 := k2.off (F := λ y => y = B.p) rfl
 exact ⟨rfl, k3.weak λ c _ hc => .inr (.inr ⟨B, hmem, .inl hc⟩), q.set k3 hi (λ c hc => .inl hc) ⟨c, o2, f.off k3 (λ e => nn.2.2.2.1 e.symm) (λ e => nn.1 e.symm) (λ e => nn.2.1 e.symm) (λ e => nn.2.2.1 e.symm) (λ e => nn.2.2.2.2 e.symm), nn⟩⟩
end
theorem aLJ {V : Vl} {A : Re} {b : Nat} {u : DV} {hu : okU u = true} (hV : V b = some ⟨u, hu⟩) : rl V A (.mp b) = some u := by simp only [rl, hV]
def bBe (w : Nat) : List DV := (List.range w).map λ i => .int .i64 (.ofNat i)
theorem qQ.stubs {V : Vl} {F : bC} : ∀ {l : List (List DV × DV)}, (∀ p ∈ l, ∀ A g args', gQ V A p.1 = some args' -> W (F args' g) λ w g' => aX g g' /\ rl V A p.2 = some w) -> qQ V (aSl l) F
 | [], _ => λ O A h g args args' r ha => WR.none
 | p :: l, hl => λ O A h g args args' r ha => by
   show WR V O A g (bif nC args p.1 then some (p.2, h) else aSl l args h) _; cases hd : nC args p.1 with
   | true =>
     have e1 := pB _ _ hd; subst e1; refine WR.ofW λ u h' e => ?_
     replace e : some (p.2, h) = some (u, h') := e
     cases e; refine W.mono (hl p (List.mem_cons_self ..) A g args' ha) ?_
     rintro w g' ⟨k, hv⟩
     exact ⟨A, (tD r k).2, (tD r k).1, hv⟩
   | false => exact qQ.stubs (λ p hp => hl p (List.mem_cons_of_mem _ hp)) O A h g args args' r ha
theorem aUL (l : List Int) : noA (.agg (lJ l)) = true := by
 show sZ (lJ l) = true; unfold lJ
 induction l with
 | nil => rfl
 | cons a t ih => simp only [List.map_cons, sZ, noA, ih, Bool.and_self]
theorem bHx {V : Vl} {F : bC} (hF : rO F) {c q k : Nat} {a b x y z : Int} (ok : zL c q k a b x y z) {d : DV} (hd : ∀ A, rl V A d = some (.agg (lJ (lL c q k a b x y z)))) {t : Nat} (ht : ∀ A, rl V A (.mp t) = some (.str (nP (lL c q k a b x y z)))) :
   ∀ A g args', gQ V A [d] = some args' -> W (F args' g) λ w g' => aX g g' /\ rl V A (.tup [.mp t, .int .i64 (.ofNat 0)]) = some w := λ A g args' ha => by
 obtain ⟨a', _, e1, e2, rfl⟩ := aE.1 ha; cases e2; rw [hd A] at e1; cases e1; refine W.mono (hF c q k a b x y z g ok) ?_
 rintro _ g' ⟨rfl, k⟩
 exact ⟨k, kL (aE.2 ⟨_, _, ht A, rfl, rfl⟩)⟩
theorem bHV {V : Vl} {F : bC} (hF : aAk F) {c q k : Nat} {a b x y z : Int} (ok : zL c q k a b x y z) {d : DV} (hd : ∀ A, rl V A d = some (.agg (lJ (lL c q k a b x y z)))) {t : Nat} (ht : ∀ A, rl V A (.mp t) = some (.str (nP (lL c q k a b x y z)))) :
   ∀ A g args', gQ V A [.mp t] = some args' -> W (F args' g) λ w g' => aX g g' /\ rl V A (.tup [d, .int .i64 (.ofNat 0)]) = some w := λ A g args' ha => by
 obtain ⟨a', _, e1, e2, rfl⟩ := aE.1 ha; cases e2; rw [ht A] at e1; cases e1; refine W.mono (hF c q k a b x y z g ok) ?_
 rintro _ g' ⟨rfl, k⟩
 exact ⟨k, kL (aE.2 ⟨_, _, hd A, rfl, rfl⟩)⟩
theorem aUK (w : Nat) : sZ (bBe w) = true := by
 unfold bBe; generalize List.range w = l
 induction l with
 | nil => rfl
 | cons a t ih => simp only [List.map_cons, sZ, noA, ih, Bool.and_self]
theorem eqI {k : IntKind} {a b : Int} (h : a = b) : cF (.int k a) (.int k b) = some (.bool true) := by rw [mJ, h]; simp
def hsb : H := ⟨32, .e⟩
def Ob (b : Nat) : Prop := b < 32
def aJc (E : aQ) (w s : Nat) : Option (DV × H) :=
 (aB E 27 [.int .i64 (.ofNat 0), .int .i64 (.ofNat w)] hsb).bind λ x => (aB E 27 [.int .i64 (.ofNat w), .int .i64 (.ofNat s)] x.2).bind λ y => (aB E 26 [x.1, y.1] y.2).bind λ z => z.2.pushK (arB z.1 w) λ h => some (.ptr z.2.size 0, h)
structure iX (V : Vl) (hs : H) (a m : Nat) (A : Re) (g : H) (pa pm sv lb : Nat) (S : List cZ) (X : List eX) : Prop where
 hr : HR V Ob A hs g
 a : A a = some pa
 m : A m = some pm
 s : A 2 = some sv
 q : SvS g sv lb S X
 d : ∀ c, rng Ob A c -> ¬ svF S sv lb c
section
variable {V : Vl} {hs h' : H} {a m : Nat} {A : Re} {g g' : H} {pa pm sv lb : Nat} {S : List cZ} {X X' : List eX}
theorem iX.part (r : iX V hs a m A g pa pm sv lb S X) {A' : Re} (s : xH Ob A g A' g') (r' : HR V Ob A' h' g') : iX V h' a m A' g' pa pm sv lb S X :=
 ⟨r', s.le _ _ r.a, s.le _ _ r.m, s.le _ _ r.s, r.q.off s.off λ c hc hr => r.d c hr hc, λ c hc hf => by
   rcases rY s hc with h | h
   · exact r.d c h hf
   · have := r.q.in_ hf; omega⟩
theorem iX.put (r : iX V hs a m A g pa pm sv lb S X) (k : fJ (svF S sv lb) g g') (q : SvS g' sv lb S X') : iX V hs a m A g' pa pm sv lb S X' :=
 ⟨r.hr.keep k r.d, r.a, r.m, r.s, q, r.d⟩
theorem iX.other (r : iX V hs a m A g pa pm sv lb S X) {F : Nat -> Prop} (k : fJ F g g') (h1 : ∀ c, F c -> ¬ rng Ob A c) (h2 : ∀ c, F c -> ¬ svF S sv lb c) : iX V hs a m A g' pa pm sv lb S X :=
 ⟨r.hr.keep k λ c hr hf => h1 c hf hr, r.a, r.m, r.s, r.q.off k λ c hc hf => h2 c hf hc, r.d⟩
theorem iX.cell (r : iX V hs a m A g pa pm sv lb S X) {j : Nat} {v : DV} (hv : rdCell hs.get a j = some v) : ∃ w, aF g.get (.ptr pa j) = some w /\ rl V A v = some w := hld r.hr r.a hv
theorem iX.c0 (r : iX V hs a m A g pa pm sv lb S X) (hv : rdCell hs.get a 0 = some (.ptr 2 0)) : aF g.get (.ptr pa 0) = some (.ptr sv 0) := by
 obtain ⟨w, e1, e2⟩ := r.cell hv; obtain ⟨c, e3, rfl⟩ := jD e2; rw [r.s] at e3; cases e3; exact e1
theorem iX.c1 (r : iX V hs a m A g pa pm sv lb S X) (hv : rdCell hs.get a 1 = some (.ptr m 0)) : aF g.get (.ptr pa 1) = some (.ptr pm 0) := by
 obtain ⟨w, e1, e2⟩ := r.cell hv; obtain ⟨c, e3, rfl⟩ := jD e2; rw [r.m] at e3; cases e3; exact e1
theorem hrV {sv : Nat} (hV : ∀ b u, V b = some u -> b < 32) (hs : sv < g.size) : HR V Ob (A0 sv) hsb g where
 inj := λ a b c ha hb => by
   unfold A0 at ha hb; split at ha
   · split at hb
     · rename_i e1 e2; rw [e1, e2]
     · cases hb
   · cases ha
 dom := λ b c h => by
   unfold A0 at h; split at h
   · rename_i e; cases h; subst e; exact ⟨(by decide : 2 < 32), hs⟩
   · cases h
 obj0 := λ b c o _ ho => by
   have : hsb.get b = none := Tr.at_e b; rw [this] at ho; cases ho
 opq := λ b hb => ⟨hb, Tr.at_e b⟩
 unk := λ b u h => by
   exact hV b u h
end
theorem aSu {E : aQ} {w s : Nat} {v : DV} {hA : H} (h : aJc E w s = some (v, hA)) : ∃ v1 k1 v2 k2 v3 k3, aB E 27 [.int .i64 (.ofNat 0), .int .i64 (.ofNat w)] hsb = some (v1, k1) /\ aB E 27 [.int .i64 (.ofNat w), .int .i64 (.ofNat s)] k1 = some (v2, k2) /\ aB E 26 [v1, v2] k2 = some (v3, k3) /\ v = .ptr k3.size 0 /\ hA = k3.push (arB v3 w) := by
 unfold aJc at h; obtain ⟨⟨v1, k1⟩, e1, h⟩ := Option.bind_eq_some_iff.1 h; obtain ⟨⟨v2, k2⟩, e2, h⟩ := Option.bind_eq_some_iff.1 h; obtain ⟨⟨v3, k3⟩, e3, h⟩ := Option.bind_eq_some_iff.1 h; rw [H.pushK_eq] at h; cases h; exact ⟨_, _, _, _, _, _, e1, e2, e3, rfl, rfl⟩
theorem aMF {V : Vl} {Es' E : aQ} (hV : ∀ b u, V b = some u -> b < 32) (hE : fZ V Es' E) (hN : fK E 25 wJ) {N w s a m : Nat} {sec : Int} {hA : H} (n1 : 1 <= N) (n8 : N <= 8) (w2 : 2 <= w) (w8 : w <= 8) (sw : s + w <= N) (hsec : sec <= 2000)
   (hr : aJc Es' w s = some (.ptr a 0, hA)) (hm : rdCell hA.get a 1 = some (.ptr m 0)) (h : H) :
   W (S8 E [.int .i64 (.ofNat N), .int .i64 sec, .int .i64 (.ofNat w), .int .i64 (.ofNat s)] h) λ v g => ∃ A pa pm sv lb S, v = .ptr pa 0 /\ S.length = N /\ iX V hA a m A g pa pm sv lb S (List.replicate N (uL (max sec.toNat 9))) /\ aX h g /\ (∀ c, rng Ob A c -> h.size <= c) /\ ∀ c, svF S sv lb c -> h.size <= c := by
 obtain ⟨v1, k1, v2, k2, v3, k3, f1, f2, f3, ea, rfl⟩ := aSu hr; cases ea; obtain ⟨BN, bN, sN'⟩ := hN.call; show W (bDQ E (.int .i64 (.ofNat N)) (.int .i64 sec) (.int .i64 (.ofNat w)) (.int .i64 (.ofNat s)) h) _; unfold bDQ
 repeat' (first | (with_reducible first | refine sT ?_ | refine sF ?_ | refine g1 ?_ | refine g2 ?_ | refine g3 ?_ | refine g4 ?_) | ((with_reducible apply sV); exact dF) | exact W.ret ⟨rfl, rfl⟩ | with_reducible refine W.ret ?_)
 refine sN bN (sN' N sec h n1 n8 hsec) ?_
 rintro _ ga ⟨sv, lb, S, rfl, hS, hle, a1, ⟨b1, b2, b3⟩, a3, a4, a5⟩
 have hsv : sv < ga.size := a1.1.1; have hat : ∀ (i : Nat) (B : cZ) (x : eX), S[i]? = some B -> (List.replicate N (uL (max sec.toNat 9)))[i]? = some x -> lX ga B x := λ i B x hi hx => by
   rw [List.getElem?_replicate] at hx; split at hx
   · cases hx; exact b1 B (List.mem_of_getElem? hi)
   · cases hx
 have q : SvS ga sv lb S (List.replicate N (uL (max sec.toNat 9))) := ⟨a1, by rw [List.length_replicate, hS], hat, b2, λ B hB x hx => ⟨b3 B hB x hx, a3 B hB x hx⟩, a4⟩
 refine sR hE (hrV hV hsv) (args' := [.int .i64 (.ofNat 0), .int .i64 (.ofNat w)]) rfl f1 λ A1 u1 gb s1 r1 y1 => ?_
 refine sR hE r1 (args' := [.int .i64 (.ofNat w), .int .i64 (.ofNat s)]) rfl f2 λ A2 u2 gc s2 r2 y2 => ?_
 refine sR hE r2 (aE.2 ⟨_, _, kU s2.le _ _ y1, aE.2 ⟨_, _, y2, rfl, rfl⟩, rfl⟩) f3 λ A3 u3 gd s3 r3 y3 => ?_
 have hm3 : v3 = .ptr m 0 := by
   have : rdCell (k3.push (arB v3 w)).get k3.size 1 = some v3 := by
     unfold arB rdCell; rw [H.get_push, if_pos rfl]
     rfl
   rw [this] at hm; cases hm; rfl
 subst hm3; obtain ⟨pm, d3, rfl⟩ := jD y3; have hA3 : A3 2 = some sv := s3.le _ _ (s2.le _ _ (s1.le _ _ (by unfold A0; rw [if_pos rfl])))
 repeat' (first | (with_reducible first | refine sT ?_ | refine sF ?_ | refine g1 ?_ | refine g2 ?_ | refine g3 ?_ | refine g4 ?_) | ((with_reducible apply sV); exact dF) | exact W.ret ⟨rfl, rfl⟩ | with_reducible refine W.ret ?_)
 refine sXp ?_; refine W.ret ?_; have ho : OR V A3 (arB (.ptr m 0) w) (some (.blk ⟨19, 19, false, true, Tr.ofL (.ptr sv 0 :: .ptr pm 0 :: .int .i64 (.ofNat w) :: List.replicate 16 (.int .i64 (.ofNat 0)))⟩)) :=
   ⟨rfl, rfl, rfl, rfl, nZ (aE.2 ⟨_, _, gZ hA3, aE.2 ⟨_, _, gZ d3, rfl, rfl⟩, rfl⟩)⟩
 obtain ⟨r4, s4, e4⟩ := r3.push ho; have st : xH Ob (A0 sv) ga (A3.ins k3.size gd.size) (gd.push (.blk ⟨19, 19, false, true, Tr.ofL (.ptr sv 0 :: .ptr pm 0 :: .int .i64 (.ofNat w) :: List.replicate 16 (.int .i64 (.ofNat 0)))⟩)) := s1.trans (s2.trans (s3.trans s4)); have nr : ∀ c, ¬ rng Ob (A0 sv) c := λ c ⟨b, hb, ho⟩ => by
   unfold A0 at hb; split at hb
   · rename_i e; exact ho (by rw [e]; exact (by decide : 2 < 32))
   · cases hb
 have za := a5.size; have hge : ∀ c, svF S sv lb c -> h.size <= c := λ c hc => by
   rcases hc with rfl | rfl | ⟨B, hB, hc⟩
   · exact hle
   · omega
   · have := b3 B hB c hc; omega
 refine ⟨_, gd.size, pm, sv, lb, S, rfl, hS, ⟨r4, e4, s4.le _ _ d3, s4.le _ _ hA3, q.off st.off λ c _ hr => nr c hr, λ c hc hf => ?_⟩, ⟨Nat.le_trans za st.size, λ c hc => ?_⟩, λ c hc => ?_, hge⟩
 · rcases rY st hc with h | h
   · exact nr c h
   · have := q.in_ hf; omega
 · exact (st.fr c (by omega) λ b hb => by
     unfold A0 at hb; split at hb
     · rename_i e; rw [e]; exact (by decide : 2 < 32)
     · cases hb).trans (a5.get c hc)
 · rcases rY st hc with h | h
   · exact absurd h (nr c)
   · omega
end Go.Proofs.YthpciaidbgjoeaaGreat
end
