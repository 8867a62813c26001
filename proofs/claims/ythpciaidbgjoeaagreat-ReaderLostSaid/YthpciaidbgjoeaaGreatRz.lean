/- Specs. No condition beyond the theorems' own. -/
import Derived.Test.YthpciaidbgjoeaaGreatRy
set_option linter.unusedVariables false
set_option linter.unusedSimpArgs false
namespace Go.Proofs.YthpciaidbgjoeaaGreat
open Go.DI
def bCI (B : bQ) : Prop := ∀ (s : Ln) (u : Nat) (h : H), aW s = true -> s.length <= 4000 -> 2 <= u -> u <= 8 -> jL s u <= 512 ->
 ∃ (v : DV) (h' : H), B [.str s, .int .i64 (.ofNat u)] h = some (.tup [v, .int .i64 (.ofNat 0)], h') /\ cL h.size h' v (iN (oT s u)) /\ dH h.size h h'
theorem aLo {E : bH} (hW : fU E 56 pC) (hL : fU E 57 pE) (hC : fU E 58 aQg) (hP : fU E 59 aPe) (hA : fU E 60 wC) (hT : fU E 61 uX) : bCI (S30 E) := by
 obtain ⟨B1, b1, s1⟩ := hW.call; obtain ⟨B2, b2, s2⟩ := hL.call; obtain ⟨B3, b3, s3⟩ := hC.call; obtain ⟨B4, b4, s4⟩ := hP.call; intro s u h hs hl h2 h8 hn'; have e0 : S30 E [.str s, .int .i64 (.ofNat u)] h = aPX E (.str s) (.int .i64 (.ofNat u)) h := rfl; rw [e0]; unfold aPX; rw [b1, s1, aY, gE, aA, oK h2 h8]; have sl := s2 s.length u h (by omega) h2 h8
 have d2 : decide (65536 < s.length) = false := by simp; omega
 have hn : ¬ 512 < eN s.length u := by unfold jL at hn'; omega
 obtain ⟨v, h', c1, c2, c3⟩ := s3 (max (jL s u) 1) s h (by omega) (by omega) (by omega)
 have p1 := s4 (jL s u) [] h' (by omega) (by simp)
 have hz : jS [] (jL s u) = List.replicate (jL s u) 0 := by unfold jS; simp
 rw [hz] at p1; have hle := aFe (s := s) h2; obtain ⟨d3, d4⟩ := xP h2 hs; obtain ⟨v', h'', a1, a2, a3⟩ := aLp hA hT (n0 := h.size) h2 h8 hn' (u - 1 - (mH s u).length) (aT - (u - 1 - (mH s u).length + 1)) (mH s u) v h' (by omega) (λ t ht => d4 t (by unfold mR; simp [ht])) c3.size c2
 rw [show aT - (u - 1 - (mH s u).length + 1) + (u - 1 - (mH s u).length + 1) = aT from by unfold aT; omega] at a1
 refine ⟨v', h'', ?_, a2, c3.trans a3⟩; show bK (.bool false) _ _ = _; simp only [dF, aA, b2, sl, aY, fH, d2, jT, decide_eq_false hn, eL]; rw [bB, bB, aJ, aA, b3]; rw [show eN s.length u = jL s u from rfl, c1, aY, kS, aA, kR, aA, b4, p1, aY, kS, aA, kR, aA]
 exact a1
theorem aDG {B : bH} {T : Tr (bH -> bQ)} {f : Nat} {F : bQ} (hB : B f = some F) (n : Nat) : SE B T (n + 1) f = some F := by
 show (Option.rec (motive := λ _ => Option bQ) (Option.rec (motive := λ _ => Option bQ) none (λ s => some (s (SE B T n))) (T.at_ f)) some (B f) : Option bQ) = _
 rw [hB]
structure lH (n : Nat) (hs : H) (A : Re) (g : H) (pa pm sv lb : Nat) (S : List dY) (X : List iS) : Prop where
 hr : HR (Vn n (qH n)) O3 A hs g
 a : A 18 = some pa
 m : A 17 = some pm
 s : A 2 = some sv
 q : SvS g sv lb S X
 d : ∀ c, rng O3 A c -> ¬ svF S sv lb c
section
variable {n : Nat} {hs h' : H} {A : Re} {g g' : H} {pa pm sv lb : Nat} {S : List dY} {X X' : List iS}
theorem lH.grown (r : lH n hs A g pa pm sv lb S X) (k : bF g g') : lH n hs A g' pa pm sv lb S X := ⟨(aAv r.hr k).1, r.a, r.m, r.s, r.q.grown k, r.d⟩
theorem lH.part (r : lH n hs A g pa pm sv lb S X) {A' : Re} (s : zT O3 A g A' g') (r' : HR (Vn n (qH n)) O3 A' h' g') : lH n h' A' g' pa pm sv lb S X :=
 ⟨r', s.le _ _ r.a, s.le _ _ r.m, s.le _ _ r.s, r.q.off s.off λ c hc hr => r.d c hr hc, λ c hc hf => by
   rcases yN s hc with h | h
   · exact r.d c h hf
   · have := r.q.in_ hf; omega⟩
theorem lH.rd (r : lH n hs A g pa pm sv lb S X) (k : nG (rng O3 A) g g') (r' : HR (Vn n (qH n)) O3 A hs g') : lH n hs A g' pa pm sv lb S X :=
 ⟨r', r.a, r.m, r.s, r.q.off k λ c hc hr => r.d c hr hc, r.d⟩
theorem lH.put (r : lH n hs A g pa pm sv lb S X) (k : nG (svF S sv lb) g g') (q : SvS g' sv lb S X') : lH n hs A g' pa pm sv lb S X' :=
 ⟨r.hr.keep k r.d, r.a, r.m, r.s, q, r.d⟩
def arF (A : Re) (S : List dY) (sv lb c : Nat) : Prop := rng O3 A c \/ svF S sv lb c
theorem lH.lt (r : lH n hs A g pa pm sv lb S X) {c : Nat} (hc : arF A S sv lb c) : c < g.size := by
 rcases hc with h | h
 · exact aCv r.hr h
 · exact r.q.in_ h
theorem lH.cell (r : lH n hs A g pa pm sv lb S X) {j : Nat} {v : DV} (hv : rdCell hs.get 18 j = some v) : ∃ w, aO g.get (.ptr pa j) = some w /\ rl (Vn n (qH n)) A v = some w := hld r.hr r.a hv
theorem aSo (r : lH n hs A g pa pm sv lb S X) {w : DV} (h : rl (Vn n (qH n)) A (.ptr 2 0) = some w) : w = .ptr sv 0 := by
 obtain ⟨c, e1, rfl⟩ := jK h; rw [r.s] at e1; cases e1; rfl
end
structure RdH (hs : H) : Prop where
 srv : ∀ i, i < 4 -> ∃ h', aC Es 62 [.ptr 18 0, .int .i64 (.ofNat 0), .int .i64 (.ofNat i)] hs = some (.tup [.int .i64 (.ofNat i), .bool true], h') /\ aIE hs h' hs.size = true
 sv : rdCell hs.get 18 0 = some (.ptr 2 0)
 mg : rdCell hs.get 18 1 = some (.ptr 17 0)
 wd : rdCell hs.get 18 2 = some (.int .i64 (.ofNat 4))
theorem aSp {V : Vl} {A : Re} {pa : Nat} (h : A 18 = some pa) (x y : DV) (hx : noA x = true) (hy : noA y = true) : gW V A [.ptr 18 0, x, y] = some [.ptr pa 0, x, y] :=
 aL.2 ⟨_, _, jQ h, aL.2 ⟨_, _, iJ V A x hx, aL.2 ⟨_, _, iJ V A y hy, rfl, rfl⟩, rfl⟩, rfl⟩
theorem aHW {n : Nat} (h1 : 1 <= n) (h2 : n <= 65536) {hs : H} (R : RdH hs) {A : Re} {g : H} {pa pm sv lb : Nat} {S : List dY} {X : List iS} (r : lH n hs A g pa pm sv lb S X) (m i : Nat) (hi : i < 4) :
   W (aC (EL (m + 60)) 62 [.ptr pa 0, .int .i64 (.ofNat 0), .int .i64 (.ofNat i)] g) λ v g' => v = .tup [.int .i64 (.ofNat i), .bool true] /\ nG (rng O3 A) g g' /\ lH n hs A g' pa pm sv lb S X := by
 obtain ⟨h', e1, e2⟩ := R.srv i hi; obtain ⟨A', w, g', f1, f2, f3, f4, f5⟩ := aIm (aCZ n h1 h2 m) r.hr (aSp r.a _ _ rfl rfl) e1 e2; have : w = .tup [.int .i64 (.ofNat i), .bool true] := by
   rw [iJ _ A' _ (by rfl)] at f5; cases f5; rfl
 subst this; exact ⟨_, g', f1, rfl, f2, r.rd f2 f3⟩
theorem aRu {n : Nat} (h1 : 1 <= n) (h2 : n <= 65536) {hs : H} (R : RdH hs) {A : Re} {g : H} {pa pm sv lb : Nat} {S : List dY} {X : List iS} (r : lH n hs A g pa pm sv lb S X) (m : Nat) {i N : Nat} (hi : i < 4) (hS : S.length = 4) (hx : X[i]? = some (qB N)) (hN : 9 <= N) {body : Ln} (ok : aW body = true) (hl : body.length <= 512) :
   W (S31 (EL (m + 60)) [.ptr pa 0, .int .i64 (.ofNat 0), .int .i64 (.ofNat i), .str body] g) λ v g' => v = .int .i64 (.ofNat 0) /\ nG (arF A S sv lb) g g' /\ ∃ x, tG x 0 i body /\ x.dn = false /\ x.ls = false /\ lH n hs A g' pa pm sv lb S (X.set i x) := by
 obtain ⟨B, hB⟩ : ∃ B, S[i]? = some B := ⟨_, List.getElem?_eq_getElem (by omega)⟩
 show W (aPV (EL (m + 60)) (.ptr pa 0) (.int .i64 (.ofNat 0)) (.int .i64 (.ofNat i)) (.str body) g) _; unfold aPV
 repeat' (first | with_reducible refine sT ?_ | with_reducible refine sF ?_ | with_reducible refine g1 ?_ | with_reducible refine g2 ?_ | with_reducible refine g3 ?_ | with_reducible refine g4 ?_ | ((with_reducible apply sV); first | exact aB.read (by assumption) (by rfl) | exact aB.readN (by assumption) (Nat.le_of_ble_eq_true rfl) | exact fP (by omega) | exact fQ (by omega) | exact gtT (by omega) | exact gtF (by omega) | exact fR (by omega) | exact fS (by omega) | exact geT (by omega) | exact geF (by omega) | exact fM (by omega) | exact fT (by omega) | exact fN (by omega) | exact fO (by omega) | exact aF (by omega) | exact cP (by omega) | exact aG (by omega) (by omega) | exact aH (by omega) _ | exact aJ _ _ _ _ | exact aK _ _ _ _ | exact aE _ _ _ | exact rfl) | exact W.ret ⟨rfl, rfl⟩ | with_reducible refine W.ret ?_)
 obtain ⟨_, gg, e1, rfl, k1, r1⟩ := aHW h1 h2 R r m i hi; refine sW e1 ?_; obtain ⟨w, l1, l2⟩ := r1.cell R.sv; have := aSo r1 l2; subst this
 repeat' (first | with_reducible refine sT ?_ | with_reducible refine sF ?_ | with_reducible refine g1 ?_ | with_reducible refine g2 ?_ | with_reducible refine g3 ?_ | with_reducible refine g4 ?_ | ((with_reducible apply sV); first | exact l1 | exact aB.read (by assumption) (by rfl) | exact aB.readN (by assumption) (Nat.le_of_ble_eq_true rfl) | exact fP (by omega) | exact fQ (by omega) | exact gtT (by omega) | exact gtF (by omega) | exact fR (by omega) | exact fS (by omega) | exact geT (by omega) | exact geF (by omega) | exact fM (by omega) | exact fT (by omega) | exact fN (by omega) | exact fO (by omega) | exact aF (by omega) | exact cP (by omega) | exact aG (by omega) (by omega) | exact aH (by omega) _ | exact aJ _ _ _ _ | exact aK _ _ _ _ | exact aE _ _ _ | exact rfl) | exact W.ret ⟨rfl, rfl⟩ | with_reducible refine W.ret ?_)
 have hp : aC (EL (m + 60)) 63 = vZ := by funext a b; exact aU (aDG (by kernel_rfl) (m + 59)) a b
 obtain ⟨_, gh, e2, rfl, k2, x, a1, a2, a3, a4⟩ := aYd (st := 0) (ix := i) r1.q hB hx hN (by decide) (by omega) ok hl
 rw [hp]; refine sW e2 ?_
 repeat' (first | with_reducible refine sT ?_ | with_reducible refine sF ?_ | with_reducible refine g1 ?_ | with_reducible refine g2 ?_ | with_reducible refine g3 ?_ | with_reducible refine g4 ?_ | ((with_reducible apply sV); first | exact aB.read (by assumption) (by rfl) | exact aB.readN (by assumption) (Nat.le_of_ble_eq_true rfl) | exact fP (by omega) | exact fQ (by omega) | exact gtT (by omega) | exact gtF (by omega) | exact fR (by omega) | exact fS (by omega) | exact geT (by omega) | exact geF (by omega) | exact fM (by omega) | exact fT (by omega) | exact fN (by omega) | exact fO (by omega) | exact aF (by omega) | exact cP (by omega) | exact aG (by omega) (by omega) | exact aH (by omega) _ | exact aJ _ _ _ _ | exact aK _ _ _ _ | exact aE _ _ _ | exact rfl) | exact W.ret ⟨rfl, rfl⟩ | with_reducible refine W.ret ?_)
 exact ⟨rfl, (k1.weak λ c _ hc => .inl hc).trans (k2.weak λ c _ hc => .inr hc), x, a1, a2, a3, r1.put k2 a4⟩
end Go.Proofs.YthpciaidbgjoeaaGreat
