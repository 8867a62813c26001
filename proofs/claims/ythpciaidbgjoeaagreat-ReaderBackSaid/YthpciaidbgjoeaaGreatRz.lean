/- Specs. No condition beyond the theorems' own. -/
import Derived.Test.YthpciaidbgjoeaaGreatRy
set_option linter.unusedVariables false
set_option linter.unusedSimpArgs false
namespace Go.Proofs.YthpciaidbgjoeaaGreat
open Go.DI
def bDn (B : bU) : Prop := ∀ (s : Ln) (u : Nat) (h : H), aW s = true -> s.length <= 4000 -> 2 <= u -> u <= 8 -> jO s u <= 512 ->
 ∃ (v : DV) (h' : H), B [.str s, .int .i64 (.ofNat u)] h = some (.tup [v, .int .i64 (.ofNat 0)], h') /\ cI h.size h' v (iT (lK s u)) /\ dJ h.size h h'
theorem aLW {E : bF} (hW : fT E 56 pM) (hL : fT E 57 kT) (hC : fT E 58 aQS) (hP : fT E 59 aPO) (hA : fT E 60 wS) (hT : fT E 61 vL) : bDn (S30 E) := by
 obtain ⟨B1, b1, s1⟩ := hW.call; obtain ⟨B2, b2, s2⟩ := hL.call; obtain ⟨B3, b3, s3⟩ := hC.call; obtain ⟨B4, b4, s4⟩ := hP.call; intro s u h hs hl h2 h8 hn'; have e0 : S30 E [.str s, .int .i64 (.ofNat u)] h = aQI E (.str s) (.int .i64 (.ofNat u)) h := rfl; rw [e0]; unfold aQI; rw [b1, s1, aZ, gH, aA, oU h2 h8]; have sl := s2 s.length u h (by omega) h2 h8
 have d2 : decide (65536 < s.length) = false := by simp; omega
 have hn : ¬ 512 < cR s.length u := by unfold jO at hn'; omega
 obtain ⟨v, h', c1, c2, c3⟩ := s3 (max (jO s u) 1) s h (by omega) (by omega) (by omega)
 have p1 := s4 (jO s u) [] h' (by omega) (by simp)
 have hz : jW [] (jO s u) = List.replicate (jO s u) 0 := by unfold jW; simp
 rw [hz] at p1; have hle := aFv (s := s) h2; obtain ⟨d3, d4⟩ := yD h2 hs; obtain ⟨v', h'', a1, a2, a3⟩ := aLX hA hT (n0 := h.size) h2 h8 hn' (u - 1 - (mP s u).length) (aT - (u - 1 - (mP s u).length + 1)) (mP s u) v h' (by omega) (λ t ht => d4 t (by unfold mY; simp [ht])) c3.size c2
 rw [show aT - (u - 1 - (mP s u).length + 1) + (u - 1 - (mP s u).length + 1) = aT from by unfold aT; omega] at a1
 refine ⟨v', h'', ?_, a2, c3.trans a3⟩; show bK (.bool false) _ _ = _; simp only [cQ, aA, b2, sl, aZ, fS, d2, jX, decide_eq_false hn, eW]; rw [bC, bC, aI, aA, b3]; rw [show cR s.length u = jO s u from rfl, c1, aZ, kV, aA, kU, aA, b4, p1, aZ, kV, aA, kU, aA]
 exact a1
theorem aBM {B : bF} {T : Tr (bF -> bU)} {f : Nat} {F : bU} (hB : B f = some F) (n : Nat) : SE B T (n + 1) f = some F := by
 show (Option.rec (motive := λ _ => Option bU) (Option.rec (motive := λ _ => Option bU) none (λ s => some (s (SE B T n))) (T.at_ f)) some (B f) : Option bU) = _
 rw [hB]
structure iC (n : Nat) (hs : H) (A : Re) (g : H) (pa pm sv lb : Nat) (S : List dH) (X : List fM) : Prop where
 hr : HR (Vn n (oL n)) O3 A hs g
 a : A 18 = some pa
 m : A 17 = some pm
 s : A 2 = some sv
 q : SvS g sv lb S X
 d : ∀ c, rng O3 A c -> ¬ svF S sv lb c
section
variable {n : Nat} {hs h' : H} {A : Re} {g g' : H} {pa pm sv lb : Nat} {S : List dH} {X X' : List fM}
theorem iC.grown (r : iC n hs A g pa pm sv lb S X) (k : bM g g') : iC n hs A g' pa pm sv lb S X := ⟨(aAI r.hr k).1, r.a, r.m, r.s, r.q.grown k, r.d⟩
theorem iC.part (r : iC n hs A g pa pm sv lb S X) {A' : Re} (s : Stp O3 A g A' g') (r' : HR (Vn n (oL n)) O3 A' h' g') : iC n h' A' g' pa pm sv lb S X :=
 ⟨r', s.le _ _ r.a, s.le _ _ r.m, s.le _ _ r.s, r.q.off s.off λ c hc hr => r.d c hr hc, λ c hc hf => by
   rcases yZ s hc with h | h
   · exact r.d c h hf
   · have := r.q.in_ hf; omega⟩
theorem iC.rd (r : iC n hs A g pa pm sv lb S X) (k : nL (rng O3 A) g g') (r' : HR (Vn n (oL n)) O3 A hs g') : iC n hs A g' pa pm sv lb S X :=
 ⟨r', r.a, r.m, r.s, r.q.off k λ c hc hr => r.d c hr hc, r.d⟩
theorem iC.put (r : iC n hs A g pa pm sv lb S X) (k : nL (svF S sv lb) g g') (q : SvS g' sv lb S X') : iC n hs A g' pa pm sv lb S X' :=
 ⟨r.hr.keep k r.d, r.a, r.m, r.s, q, r.d⟩
def arF (A : Re) (S : List dH) (sv lb c : Nat) : Prop := rng O3 A c \/ svF S sv lb c
theorem iC.lt (r : iC n hs A g pa pm sv lb S X) {c : Nat} (hc : arF A S sv lb c) : c < g.size := by
 rcases hc with h | h
 · exact aCN r.hr h
 · exact r.q.in_ h
theorem iC.cell (r : iC n hs A g pa pm sv lb S X) {j : Nat} {v : DV} (hv : rdCell hs.get 18 j = some v) : ∃ w, aO g.get (.ptr pa j) = some w /\ rl (Vn n (oL n)) A v = some w := hld r.hr r.a hv
theorem aTe (r : iC n hs A g pa pm sv lb S X) {w : DV} (h : rl (Vn n (oL n)) A (.ptr 2 0) = some w) : w = .ptr sv 0 := by
 obtain ⟨c, e1, rfl⟩ := jN h; rw [r.s] at e1; cases e1; rfl
end
structure RdH (hs : H) : Prop where
 srv : ∀ i, i < 4 -> ∃ h', aC Es 62 [.ptr 18 0, .int .i64 (.ofNat 0), .int .i64 (.ofNat i)] hs = some (.tup [.int .i64 (.ofNat i), .bool true], h') /\ aJb hs h' hs.size = true
 sv : rdCell hs.get 18 0 = some (.ptr 2 0)
 mg : rdCell hs.get 18 1 = some (.ptr 17 0)
 wd : rdCell hs.get 18 2 = some (.int .i64 (.ofNat 4))
theorem aTf {V : Vl} {A : Re} {pa : Nat} (h : A 18 = some pa) (x y : DV) (hx : noA x = true) (hy : noA y = true) : gY V A [.ptr 18 0, x, y] = some [.ptr pa 0, x, y] :=
 aL.2 ⟨_, _, jU h, aL.2 ⟨_, _, iN V A x hx, aL.2 ⟨_, _, iN V A y hy, rfl, rfl⟩, rfl⟩, rfl⟩
theorem aIr {n : Nat} (h1 : 1 <= n) (h2 : n <= 65536) {hs : H} (R : RdH hs) {A : Re} {g : H} {pa pm sv lb : Nat} {S : List dH} {X : List fM} (r : iC n hs A g pa pm sv lb S X) (m i : Nat) (hi : i < 4) :
   W (aC (EL (m + 60)) 62 [.ptr pa 0, .int .i64 (.ofNat 0), .int .i64 (.ofNat i)] g) λ v g' => v = .tup [.int .i64 (.ofNat i), .bool true] /\ nL (rng O3 A) g g' /\ iC n hs A g' pa pm sv lb S X := by
 obtain ⟨h', e1, e2⟩ := R.srv i hi; obtain ⟨A', w, g', f1, f2, f3, f4, f5⟩ := aIH (tI n h1 h2 m) r.hr (aTf r.a _ _ rfl rfl) e1 e2; have : w = .tup [.int .i64 (.ofNat i), .bool true] := by
   rw [iN _ A' _ (by rfl)] at f5; cases f5; rfl
 subst this; exact ⟨_, g', f1, rfl, f2, r.rd f2 f3⟩
theorem aSi {n : Nat} (h1 : 1 <= n) (h2 : n <= 65536) {hs : H} (R : RdH hs) {A : Re} {g : H} {pa pm sv lb : Nat} {S : List dH} {X : List fM} (r : iC n hs A g pa pm sv lb S X) (m : Nat) {i N : Nat} (hi : i < 4) (hS : S.length = 4) (hx : X[i]? = some (lU N)) (hN : 9 <= N) {body : Ln} (ok : aW body = true) (hl : body.length <= 512) :
   W (S31 (EL (m + 60)) [.ptr pa 0, .int .i64 (.ofNat 0), .int .i64 (.ofNat i), .str body] g) λ v g' => v = .int .i64 (.ofNat 0) /\ nL (arF A S sv lb) g g' /\ ∃ x, tR x 0 i body /\ x.dn = false /\ x.ls = false /\ iC n hs A g' pa pm sv lb S (X.set i x) := by
 obtain ⟨B, hB⟩ : ∃ B, S[i]? = some B := ⟨_, List.getElem?_eq_getElem (by omega)⟩
 show W (aQG (EL (m + 60)) (.ptr pa 0) (.int .i64 (.ofNat 0)) (.int .i64 (.ofNat i)) (.str body) g) _; unfold aQG
 repeat' (first | with_reducible refine sT ?_ | with_reducible refine sF ?_ | with_reducible refine g1 ?_ | with_reducible refine g2 ?_ | with_reducible refine g3 ?_ | with_reducible refine g4 ?_ | ((with_reducible apply sV); first | exact aB.read (by assumption) (by rfl) | exact aB.readN (by assumption) (Nat.le_of_ble_eq_true rfl) | exact eG (by omega) | exact eH (by omega) | exact gtT (by omega) | exact gtF (by omega) | exact eI (by omega) | exact eJ (by omega) | exact geT (by omega) | exact geF (by omega) | exact dZ (by omega) | exact eK (by omega) | exact eE (by omega) | exact eF (by omega) | exact aD (by omega) | exact bT (by omega) | exact aE (by omega) (by omega) | exact aG (by omega) _ | exact aI _ _ _ _ | exact aJ _ _ _ _ | exact aF _ _ _ | exact rfl) | exact W.ret ⟨rfl, rfl⟩ | with_reducible refine W.ret ?_)
 obtain ⟨_, gg, e1, rfl, k1, r1⟩ := aIr h1 h2 R r m i hi; refine sW e1 ?_; obtain ⟨w, l1, l2⟩ := r1.cell R.sv; have := aTe r1 l2; subst this
 repeat' (first | with_reducible refine sT ?_ | with_reducible refine sF ?_ | with_reducible refine g1 ?_ | with_reducible refine g2 ?_ | with_reducible refine g3 ?_ | with_reducible refine g4 ?_ | ((with_reducible apply sV); first | exact l1 | exact aB.read (by assumption) (by rfl) | exact aB.readN (by assumption) (Nat.le_of_ble_eq_true rfl) | exact eG (by omega) | exact eH (by omega) | exact gtT (by omega) | exact gtF (by omega) | exact eI (by omega) | exact eJ (by omega) | exact geT (by omega) | exact geF (by omega) | exact dZ (by omega) | exact eK (by omega) | exact eE (by omega) | exact eF (by omega) | exact aD (by omega) | exact bT (by omega) | exact aE (by omega) (by omega) | exact aG (by omega) _ | exact aI _ _ _ _ | exact aJ _ _ _ _ | exact aF _ _ _ | exact rfl) | exact W.ret ⟨rfl, rfl⟩ | with_reducible refine W.ret ?_)
 have hp : aC (EL (m + 60)) 63 = wP := by funext a b; exact aU (aBM (by kernel_rfl) (m + 59)) a b
 obtain ⟨_, gh, e2, rfl, k2, x, a1, a2, a3, a4⟩ := aYQ (st := 0) (ix := i) r1.q hB hx hN (by decide) (by omega) ok hl
 rw [hp]; refine sW e2 ?_
 repeat' (first | with_reducible refine sT ?_ | with_reducible refine sF ?_ | with_reducible refine g1 ?_ | with_reducible refine g2 ?_ | with_reducible refine g3 ?_ | with_reducible refine g4 ?_ | ((with_reducible apply sV); first | exact aB.read (by assumption) (by rfl) | exact aB.readN (by assumption) (Nat.le_of_ble_eq_true rfl) | exact eG (by omega) | exact eH (by omega) | exact gtT (by omega) | exact gtF (by omega) | exact eI (by omega) | exact eJ (by omega) | exact geT (by omega) | exact geF (by omega) | exact dZ (by omega) | exact eK (by omega) | exact eE (by omega) | exact eF (by omega) | exact aD (by omega) | exact bT (by omega) | exact aE (by omega) (by omega) | exact aG (by omega) _ | exact aI _ _ _ _ | exact aJ _ _ _ _ | exact aF _ _ _ | exact rfl) | exact W.ret ⟨rfl, rfl⟩ | with_reducible refine W.ret ?_)
 exact ⟨rfl, (k1.weak λ c _ hc => .inl hc).trans (k2.weak λ c _ hc => .inr hc), x, a1, a2, a3, r1.put k2 a4⟩
end Go.Proofs.YthpciaidbgjoeaaGreat
