/- Specs. No condition beyond the theorems' own. -/
import Derived.Test.YthpciaidbgjoeaaGreatS0
set_option linter.unusedVariables false
set_option linter.unusedSimpArgs false
namespace Go.Proofs.YthpciaidbgjoeaaGreat
open Go.DI
theorem zS (k : Nat) : fT (EL (k + 1)) 56 pM := ⟨_, cN (s := S56) (by kernel_rfl) (by kernel_rfl) k, aRa⟩
theorem tK (k : Nat) : fT (EL (k + 2)) 57 kT := ⟨_, cN (s := S57) (by kernel_rfl) (by kernel_rfl) (k + 1), aRE (zS k)⟩
theorem bEx (k : Nat) : fT (EL (k + 1)) 92 aCt := ⟨_, cN (s := S92) (by kernel_rfl) (by kernel_rfl) k, aVk⟩
theorem aLY (k : Nat) : fT (EL (k + 2)) 60 wS := ⟨_, cN (s := S60) (by kernel_rfl) (by kernel_rfl) (k + 1), aVi (bEx k)⟩
theorem aOo (k : Nat) : fT (EL (k + 1)) 61 vL := ⟨_, cN (s := S61) (by kernel_rfl) (by kernel_rfl) k, aRh⟩
theorem aDv (k : Nat) : EL (k + 1) 91 = some kX := aBM (by kernel_rfl) k
theorem bEw (k : Nat) : fT (EL (k + 2)) 58 aQS := ⟨_, cN (s := S58) (by kernel_rfl) (by kernel_rfl) (k + 1), λ n s h hn hn2 hs => bAp (E := EL (k + 1)) (aDv k) hn hn2 hs h⟩
theorem bEs (k : Nat) : fT (EL (k + 2)) 59 aPO := ⟨_, cN (s := S59) (by kernel_rfl) (by kernel_rfl) (k + 1), λ n s h hn hs => aTs (E := EL (k + 1)) (aDv k) _ _ _ (aGc hn hs h)⟩
theorem bEv (k : Nat) : fT (EL (k + 4)) 30 bDn := ⟨_, cN (s := S30) (by kernel_rfl) (by kernel_rfl) (k + 3), aLW (zS (k + 2)) (tK (k + 1)) (bEw (k + 1)) (bEs (k + 1)) (aLY (k + 1)) (aOo (k + 2))⟩
theorem aOt (k : Nat) : fT (EL (k + 3)) 66 vQ := ⟨_, cN (s := S66) (by kernel_rfl) (by kernel_rfl) (k + 2), aRP (zS (k + 1)) (aLY k) (aOo (k + 1))⟩
theorem aOr (k : Nat) : fT (EL (k + 3)) 67 oS := ⟨_, cN (s := S67) (by kernel_rfl) (by kernel_rfl) (k + 2), aIN (zS (k + 1)) (tK k)⟩
theorem aUj (k : Nat) : fT (EL (k + 3)) 37 aAV := ⟨_, cN (s := S37) (by kernel_rfl) (by kernel_rfl) (k + 2), aLr (zS (k + 1)) (aLY k)⟩
theorem sL1 {h : H} {x z : DV} {kk : DV -> H -> Option (DV × H)} {Q : DV -> H -> Prop} (hx : x.one = true) (r : W (kk (.slc h.size 0 1 1 false) (h.push (.blk ⟨1, 1, false, true, Tr.ofL [x]⟩))) Q) : W (eX 1 1 [z] [(0, 1, x)] h kk) Q := by
 have hf : fZ (iW [z] 1) [(0, 1, x)] = some [x] := by
   have hc : x.cells = [x] := by cases x <;> first | rfl | cases hx
   simp [iW, fZ, hc, pY]
   rfl
 simp only [eX, hf, Option.bind_some, H.pushK_eq]; exact r
section
variable {n : Nat} {hs h' : H} {A : Re} {g g' : H} {pa pm sv lb : Nat} {S : List dH} {X X' : List fM}
theorem aOy (h1 : 1 <= n) (h2 : n <= 65536) {k : Nat} {x x' v : DV} (hf : aRt 1 k x (.ptr 18 0) hs = some (v, h')) (hx : ∀ A, rl (Vn n (oL n)) A x = some x') (r : iC n hs A g pa pm sv lb S X) (m : Nat) :
   W (aC (EL (m + 60)) 29 [.ptr pa 0, .int .i64 (.ofNat 1), .int .i64 (.ofNat k), .slc g.size 0 1 1 false] (g.push (.blk ⟨1, 1, false, true, Tr.ofL [x']⟩))) λ w g' => ∃ A', rl (Vn n (oL n)) A' v = some w /\ Stp O3 A g A' g' /\ iC n h' A' g' pa pm sv lb S X := by
 unfold aRt at hf; rw [H.pushK_eq] at hf; obtain ⟨r1, s1, e1⟩ := r.hr.push (o := oneB x) (q := .blk ⟨1, 1, false, true, Tr.ofL [x']⟩) ⟨rfl, rfl, rfl, rfl, oI (aL.2 ⟨_, _, hx _, rfl, rfl⟩)⟩; obtain ⟨A', w, g', f1, f2, f3, f4⟩ := aDP (tI n h1 h2 m) r1 (args' := [.ptr pa 0, .int .i64 (.ofNat 1), .int .i64 (.ofNat k), .slc g.size 0 1 1 false])
   (aL.2 ⟨_, _, jU (s1.le _ _ r.a), aL.2 ⟨_, _, rfl, aL.2 ⟨_, _, rfl, aL.2 ⟨_, _, fW e1, rfl, rfl⟩, rfl⟩, rfl⟩, rfl⟩) hf
 exact ⟨w, g', f1, A', f4, s1.trans f2, r.part (s1.trans f2) f3⟩
theorem aDW {E : bF} (r : iC n hs A g pa pm sv lb S X) (hw : rdCell hs.get 18 2 = some (.int .i64 (.ofNat 4))) : W (S28 E [.ptr pa 0] g) λ v g' => v = .int .i64 (.ofNat 1536) /\ g' = g := by
 obtain ⟨w, l1, l2⟩ := r.cell hw; have := dI l2; subst this; show W (aQJ E (.ptr pa 0) g) _; unfold aQJ
 repeat' (first | with_reducible refine sT ?_ | with_reducible refine sF ?_ | with_reducible refine g1 ?_ | with_reducible refine g2 ?_ | with_reducible refine g3 ?_ | with_reducible refine g4 ?_ | ((with_reducible apply sV); first | exact l1 | exact aB.read (by assumption) (by rfl) | exact aB.readN (by assumption) (Nat.le_of_ble_eq_true rfl) | exact eG (by omega) | exact eH (by omega) | exact gtT (by omega) | exact gtF (by omega) | exact eI (by omega) | exact eJ (by omega) | exact geT (by omega) | exact geF (by omega) | exact dZ (by omega) | exact eK (by omega) | exact eE (by omega) | exact eF (by omega) | exact aD (by omega) | exact bT (by omega) | exact aE (by omega) (by omega) | exact aG (by omega) _ | exact aI _ _ _ _ | exact aJ _ _ _ _ | exact aF _ _ _ | exact rfl) | exact W.ret ⟨rfl, rfl⟩ | with_reducible refine W.ret ?_)
theorem bCr {k : IntKind} {a b : Nat} : cU (.int k (.ofNat a)) (.int k (.negSucc b)) = some (.bool false) := by rw [mH]; simp
theorem bEr {k : IntKind} {a b : Nat} : cU (.int k (.negSucc b)) (.int k (.ofNat a)) = some (.bool false) := by rw [mH]; simp
theorem aCT {n0 : Nat} {h h' : H} {v : DV} {L : List DV} {F : Nat -> Prop} (o : cI n0 h v L) (k : nL F h h') (hF : ∀ c, F c -> c < n0) : cI n0 h' v L := by
 rcases o with o | ⟨b, hb, e, o⟩
 · exact .inl o
 · exact .inr ⟨b, hb, e, kR o k λ h => by have := hF b h; omega⟩
def aBQ (X : List fM) (L : List (Ln)) (i : Nat) : Prop := ∀ j, j < i -> ∃ x body, X[j]? = some x /\ L[j]? = some body /\ tR x 0 j body /\ x.dn = false /\ x.ls = false
theorem aDU (h1 : 1 <= n) (h2 : n <= 65536) {L : List (Ln)} (hL : L.length = 4) (hok : ∀ t ∈ L, aW t = true /\ t.length <= 512) (hS : S.length = 4) {N n0 : Nat} (hN : 9 <= N) {v : DV} (m : Nat) (hF : ∀ c, arF A S sv lb c -> c < n0) :
   ∀ (k i f : Nat) (X : List fM) (g : H), i + k = 4 -> iC n hB A g pa pm sv lb S X -> aBQ X L i -> (∀ j, i <= j -> j < 4 -> X[j]? = some (lU N)) -> cI n0 g v (iT L) ->
   W (aEI (EL (m + 61)) (.ptr pa 0) (.int .i64 (.ofNat 1)) (.int .i64 (.negSucc 0)) (.int .i64 (.ofNat 0)) v (.int .i64 (.ofNat 4)) (f + (k + 1)) (.int .i64 (.ofNat (i + 1))) (.int .i64 (.ofNat 0)) (.int .i64 (.ofNat i)) g) λ w g' => w = .tup [.int .i64 (.ofNat 0), .int .i64 (.ofNat 0)] /\ ∃ A' X', iC n hC A' g' pa pm sv lb S X' /\ aBQ X' L 4 := by
 intro k
 induction k with
 | zero =>
   intro i f X g hk r hH hX o; have hi : i = 4 := by omega
   subst hi; show W (aYx (EL (m + 61)) _ _ _ _ _ _ (aEI (EL (m + 61)) _ _ _ _ _ _ f) _ _ _ g) _; unfold aYx bBj
   repeat' (first | with_reducible refine sT ?_ | with_reducible refine sF ?_ | with_reducible refine g1 ?_ | with_reducible refine g2 ?_ | with_reducible refine g3 ?_ | with_reducible refine g4 ?_ | ((with_reducible apply sV); first | exact bCr | exact aB.read (by assumption) (by rfl) | exact aB.readN (by assumption) (Nat.le_of_ble_eq_true rfl) | exact eG (by omega) | exact eH (by omega) | exact gtT (by omega) | exact gtF (by omega) | exact eI (by omega) | exact eJ (by omega) | exact geT (by omega) | exact geF (by omega) | exact dZ (by omega) | exact eK (by omega) | exact eE (by omega) | exact eF (by omega) | exact aD (by omega) | exact bT (by omega) | exact aE (by omega) (by omega) | exact aG (by omega) _ | exact aI _ _ _ _ | exact aJ _ _ _ _ | exact aF _ _ _ | exact rfl) | exact W.ret ⟨rfl, rfl⟩ | with_reducible refine W.ret ?_)
   refine sL1 rfl ?_; obtain ⟨w, g', e1, A', e2, e3, e4⟩ := aOy h1 h2 fC (λ A => rfl) r (m + 1)
   have := aAD e2; obtain ⟨l, q1, rfl⟩ := this; obtain ⟨a, _, q2, q3, rfl⟩ := aL.1 q1; obtain ⟨b, _, q4, q5, rfl⟩ := aL.1 q3; cases q5; have y1 := dI q2; subst y1; refine sW e1 ?_
   repeat' (first | with_reducible refine sT ?_ | with_reducible refine sF ?_ | with_reducible refine g1 ?_ | with_reducible refine g2 ?_ | with_reducible refine g3 ?_ | with_reducible refine g4 ?_ | ((with_reducible apply sV); first | exact aB.read (by assumption) (by rfl) | exact aB.readN (by assumption) (Nat.le_of_ble_eq_true rfl) | exact eG (by omega) | exact eH (by omega) | exact gtT (by omega) | exact gtF (by omega) | exact eI (by omega) | exact eJ (by omega) | exact geT (by omega) | exact geF (by omega) | exact dZ (by omega) | exact eK (by omega) | exact eE (by omega) | exact eF (by omega) | exact aD (by omega) | exact bT (by omega) | exact aE (by omega) (by omega) | exact aG (by omega) _ | exact aI _ _ _ _ | exact aJ _ _ _ _ | exact aF _ _ _ | exact rfl) | exact W.ret ⟨rfl, rfl⟩ | with_reducible refine W.ret ?_)
   exact ⟨rfl, A', X, e4, hH⟩
 | succ k ih =>
   intro i f X g hk r hH hX o; have hi : i < 4 := by omega
   obtain ⟨body, hb⟩ : ∃ body, L[i]? = some body := ⟨_, List.getElem?_eq_getElem (by omega)⟩
   obtain ⟨ok, hl⟩ := hok body (List.mem_of_getElem? hb); obtain ⟨b, c1, c2⟩ := o.load1 (j := i) (x := .str body) (by unfold iT; rw [List.getElem?_map, hb]; rfl) .i64
   have hset : aC (EL (m + 61)) 31 = S31 (EL (m + 60)) := by funext a b; exact aU (cN (s := S31) (by kernel_rfl) (by kernel_rfl) (m + 60)) a b
   obtain ⟨_, gh, e1, rfl, k1, x, a1, a2, a3, a4⟩ := aSi h1 h2 rdB r m hi hS (hX i (Nat.le_refl _) hi) hN ok hl; show W (aYx (EL (m + 61)) _ _ _ _ _ _ (aEI (EL (m + 61)) _ _ _ _ _ _ (f + (k + 1))) _ _ _ g) _; unfold aYx bBh bBi
   repeat' (first | with_reducible refine sT ?_ | with_reducible refine sF ?_ | with_reducible refine g1 ?_ | with_reducible refine g2 ?_ | with_reducible refine g3 ?_ | with_reducible refine g4 ?_ | ((with_reducible apply sV); first | exact c1 | exact c2 | exact bCr | exact aB.read (by assumption) (by rfl) | exact aB.readN (by assumption) (Nat.le_of_ble_eq_true rfl) | exact eG (by omega) | exact eH (by omega) | exact gtT (by omega) | exact gtF (by omega) | exact eI (by omega) | exact eJ (by omega) | exact geT (by omega) | exact geF (by omega) | exact dZ (by omega) | exact eK (by omega) | exact eE (by omega) | exact eF (by omega) | exact aD (by omega) | exact bT (by omega) | exact aE (by omega) (by omega) | exact aG (by omega) _ | exact aI _ _ _ _ | exact aJ _ _ _ _ | exact aF _ _ _ | exact rfl) | exact W.ret ⟨rfl, rfl⟩ | with_reducible refine W.ret ?_)
   rw [hset]; refine sW e1 ?_
   repeat' (first | with_reducible refine sT ?_ | with_reducible refine sF ?_ | with_reducible refine g1 ?_ | with_reducible refine g2 ?_ | with_reducible refine g3 ?_ | with_reducible refine g4 ?_ | ((with_reducible apply sV); first | exact aB.read (by assumption) (by rfl) | exact aB.readN (by assumption) (Nat.le_of_ble_eq_true rfl) | exact eG (by omega) | exact eH (by omega) | exact gtT (by omega) | exact gtF (by omega) | exact eI (by omega) | exact eJ (by omega) | exact geT (by omega) | exact geF (by omega) | exact dZ (by omega) | exact eK (by omega) | exact eE (by omega) | exact eF (by omega) | exact aD (by omega) | exact bT (by omega) | exact aE (by omega) (by omega) | exact aG (by omega) _ | exact aI _ _ _ _ | exact aJ _ _ _ _ | exact aF _ _ _ | exact rfl) | exact W.ret ⟨rfl, rfl⟩ | with_reducible refine W.ret ?_)
   have hXl : X.length = 4 := by rw [r.q.len]; exact hS
   refine ih (i + 1) f (X.set i x) gh (by omega) a4 (λ j hj => ?_) (λ j hj hj4 => ?_) (aCT o k1 hF)
   · by_cases e : j = i
     · subst e; exact ⟨x, body, by rw [List.getElem?_set, if_pos rfl, if_pos (by omega)], hb, a1, a2, a3⟩
     · obtain ⟨y, b2, y1, y2⟩ := hH j (by omega)
       exact ⟨y, b2, by rw [List.getElem?_set, if_neg (λ h => e h.symm)]; exact y1, y2⟩
   · rw [List.getElem?_set, if_neg (by omega)]
     exact hX j (by omega) hj4
theorem aKk {text : Ln} (ok : aW text = true) (h1 : 1 <= text.length) (h2 : text.length <= 1536) (hS : S.length = 4) {N : Nat} (hN : 9 <= N) (r : iC text.length hA A g pa pm sv lb S X) (hX : ∀ j, j < 4 -> X[j]? = some (lU N)) (m : Nat) :
   W (S9 (EL (m + 61)) [.ptr pa 0, .int .i64 (.ofNat 1), .str text, .int .i64 (.negSucc 0)] g) λ w g' => w = .tup [.int .i64 (.ofNat 0), .int .i64 (.ofNat 0)] /\ ∃ A' X', iC text.length hC A' g' pa pm sv lb S X' /\ aBQ X' (lK text 4) 4 := by
 have hm : aC (EL (m + 61)) 28 = S28 (EL (m + 60)) := by funext a b; exact aU (cN (s := S28) (by kernel_rfl) (by kernel_rfl) (m + 60)) a b
 have hne : cU (.str text) (.str []) = some (.bool false) := by
   cases text with
   | nil => simp at h1
   | cons a t => rfl
 show W (aSu (EL (m + 61)) (.ptr pa 0) (.int .i64 (.ofNat 1)) (.str text) (.int .i64 (.negSucc 0)) g) _; unfold aSu; obtain ⟨_, _, em, rfl, rfl⟩ := aDW (E := EL (m + 60)) r wdA
 repeat' (first | with_reducible refine sT ?_ | with_reducible refine sF ?_ | with_reducible refine g1 ?_ | with_reducible refine g2 ?_ | with_reducible refine g3 ?_ | with_reducible refine g4 ?_ | rw [hm] | refine sW em ?_ | ((with_reducible apply sV); first | exact hne | exact bEr | exact cQ _ | exact aB.read (by assumption) (by rfl) | exact aB.readN (by assumption) (Nat.le_of_ble_eq_true rfl) | exact eG (by omega) | exact eH (by omega) | exact gtT (by omega) | exact gtF (by omega) | exact eI (by omega) | exact eJ (by omega) | exact geT (by omega) | exact geF (by omega) | exact dZ (by omega) | exact eK (by omega) | exact eE (by omega) | exact eF (by omega) | exact aD (by omega) | exact bT (by omega) | exact aE (by omega) (by omega) | exact aG (by omega) _ | exact aI _ _ _ _ | exact aJ _ _ _ _ | exact aF _ _ _ | exact rfl) | exact W.ret ⟨rfl, rfl⟩ | with_reducible refine W.ret ?_)
 refine sL1 (x := .int .i64 (.ofNat text.length)) rfl ?_; obtain ⟨w, g1', e1, A', e2, e3, e4⟩ := aOy (n := text.length) h1 (by omega) fB (λ A => rfl) r (m + 1)
 obtain ⟨l, q1, rfl⟩ := aAD e2; obtain ⟨a, _, q2, q3, rfl⟩ := aL.1 q1; obtain ⟨b, _, q4, q5, rfl⟩ := aL.1 q3; cases q5; have y1 := dI q2; subst y1; obtain ⟨c, hc, rfl⟩ := gW q4; obtain ⟨w0, l0, v0⟩ := hld e4.hr hc fB0; have y2 := dI v0; subst y2; obtain ⟨w4, l4, v4⟩ := e4.cell rdB.wd; have y3 := dI v4; subst y3; refine sW e1 ?_
 repeat' (first | with_reducible refine sT ?_ | with_reducible refine sF ?_ | with_reducible refine g1 ?_ | with_reducible refine g2 ?_ | with_reducible refine g3 ?_ | with_reducible refine g4 ?_ | ((with_reducible apply sV); first | exact aJf (Nat.le_of_ble_eq_true rfl) | exact l0 | exact l4 | exact aB.read (by assumption) (by rfl) | exact aB.readN (by assumption) (Nat.le_of_ble_eq_true rfl) | exact eG (by omega) | exact eH (by omega) | exact gtT (by omega) | exact gtF (by omega) | exact eI (by omega) | exact eJ (by omega) | exact geT (by omega) | exact geF (by omega) | exact dZ (by omega) | exact eK (by omega) | exact eE (by omega) | exact eF (by omega) | exact aD (by omega) | exact bT (by omega) | exact aE (by omega) (by omega) | exact aG (by omega) _ | exact aI _ _ _ _ | exact aJ _ _ _ _ | exact aF _ _ _ | exact rfl) | exact W.ret ⟨rfl, rfl⟩ | with_reducible refine W.ret ?_)
 obtain ⟨BE, bE, sE⟩ := (bEv (m + 57)).call; have hN4 : jO text 4 <= 512 := by unfold jO cR; omega
 obtain ⟨v, g2', f1, f2, f3⟩ := sE text 4 g1' ok (by omega) (by decide) (by decide) hN4
 obtain ⟨L1, L2⟩ := aGJ (s := text) (w := 4) (by decide) hN4 ok
 refine sC bE f1 ?_; have hlen : bH v = some (.int .i64 (.ofNat 4)) := by
   rw [f2.len]; unfold iT; rw [List.length_map, L1]
 repeat' (first | with_reducible refine sT ?_ | with_reducible refine sF ?_ | with_reducible refine g1 ?_ | with_reducible refine g2 ?_ | with_reducible refine g3 ?_ | with_reducible refine g4 ?_ | ((with_reducible apply sV); first | exact hlen | exact aB.read (by assumption) (by rfl) | exact aB.readN (by assumption) (Nat.le_of_ble_eq_true rfl) | exact eG (by omega) | exact eH (by omega) | exact gtT (by omega) | exact gtF (by omega) | exact eI (by omega) | exact eJ (by omega) | exact geT (by omega) | exact geF (by omega) | exact dZ (by omega) | exact eK (by omega) | exact eE (by omega) | exact eF (by omega) | exact aD (by omega) | exact bT (by omega) | exact aE (by omega) (by omega) | exact aG (by omega) _ | exact aI _ _ _ _ | exact aJ _ _ _ _ | exact aF _ _ _ | exact rfl) | exact W.ret ⟨rfl, rfl⟩ | with_reducible refine W.ret ?_)
 have e5 := e4.grown f3.grown; have hr := aDU h1 (by omega) (L := lK text 4) L1 (λ t ht => ⟨(L2 t ht).1, by rw [(L2 t ht).2]; exact hN4⟩) hS hN (n0 := g1'.size) m (λ c hc => e4.lt hc) 4 0 (aT - 5) X g2' rfl e5 (λ j hj => absurd hj (Nat.not_lt_zero _)) (λ j _ hj => hX j hj) f2
 rw [show aT - 5 + (4 + 1) = aT from by unfold aT; omega] at hr
 exact hr
end
end Go.Proofs.YthpciaidbgjoeaaGreat
