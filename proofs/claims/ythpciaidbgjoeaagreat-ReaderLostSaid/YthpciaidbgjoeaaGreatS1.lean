/- Specs. No condition beyond the theorems' own. -/
import Derived.Test.YthpciaidbgjoeaaGreatS0
set_option linter.unusedVariables false
set_option linter.unusedSimpArgs false
namespace Go.Proofs.YthpciaidbgjoeaaGreat
open Go.DI
theorem zE (k : Nat) : fU (EL (k + 1)) 56 pC := ⟨_, cO (s := S56) (by kernel_rfl) (by kernel_rfl) k, aQn⟩
theorem aBS (k : Nat) : fU (EL (k + 2)) 57 pE := ⟨_, cO (s := S57) (by kernel_rfl) (by kernel_rfl) (k + 1), aQQ (zE k)⟩
theorem bDU (k : Nat) : fU (EL (k + 1)) 92 aBZ := ⟨_, cO (s := S92) (by kernel_rfl) (by kernel_rfl) k, aUt⟩
theorem aLq (k : Nat) : fU (EL (k + 2)) 60 wC := ⟨_, cO (s := S60) (by kernel_rfl) (by kernel_rfl) (k + 1), aUr (bDU k)⟩
theorem aNI (k : Nat) : fU (EL (k + 1)) 61 uX := ⟨_, cO (s := S61) (by kernel_rfl) (by kernel_rfl) k, aQw⟩
theorem aDd (k : Nat) : EL (k + 1) 91 = some kU := aDG (by kernel_rfl) k
theorem bDT (k : Nat) : fU (EL (k + 2)) 58 aQg := ⟨_, cO (s := S58) (by kernel_rfl) (by kernel_rfl) (k + 1), λ n s h hn hn2 hs => aZH (E := EL (k + 1)) (aDd k) hn hn2 hs h⟩
theorem bDP (k : Nat) : fU (EL (k + 2)) 59 aPe := ⟨_, cO (s := S59) (by kernel_rfl) (by kernel_rfl) (k + 1), λ n s h hn hs => aSB (E := EL (k + 1)) (aDd k) _ _ _ (aFJ hn hs h)⟩
theorem bDS (k : Nat) : fU (EL (k + 4)) 30 bCI := ⟨_, cO (s := S30) (by kernel_rfl) (by kernel_rfl) (k + 3), aLo (zE (k + 2)) (aBS (k + 1)) (bDT (k + 1)) (bDP (k + 1)) (aLq (k + 1)) (aNI (k + 2))⟩
theorem aYU (k : Nat) : fU (EL (k + 3)) 66 zZ := ⟨_, cO (s := S66) (by kernel_rfl) (by kernel_rfl) (k + 2), aRb (zE (k + 1)) (aLq k) (aNI (k + 1))⟩
theorem aYS (k : Nat) : fU (EL (k + 3)) 67 rH := ⟨_, cO (s := S67) (by kernel_rfl) (by kernel_rfl) (k + 2), aIr (zE (k + 1)) (aBS k)⟩
theorem aTv (k : Nat) : fU (EL (k + 3)) 37 aAH := ⟨_, cO (s := S37) (by kernel_rfl) (by kernel_rfl) (k + 2), aKK (zE (k + 1)) (aLq k)⟩
theorem sL1 {h : H} {x z : DV} {kk : DV -> H -> Option (DV × H)} {Q : DV -> H -> Prop} (hx : x.one = true) (r : W (kk (.slc h.size 0 1 1 false) (h.push (.blk ⟨1, 1, false, true, Tr.ofL [x]⟩))) Q) : W (eM 1 1 [z] [(0, 1, x)] h kk) Q := by
 have hf : fW (iR [z] 1) [(0, 1, x)] = some [x] := by
   have hc : x.cells = [x] := by cases x <;> first | rfl | cases hx
   simp [iR, fW, hc, pP]
   rfl
 simp only [eM, hf, Option.bind_some, H.pushK_eq]; exact r
section
variable {n : Nat} {hs h' : H} {A : Re} {g g' : H} {pa pm sv lb : Nat} {S : List dY} {X X' : List iS}
theorem aNQ (h1 : 1 <= n) (h2 : n <= 65536) {k : Nat} {x x' v : DV} (hf : aQG 1 k x (.ptr 18 0) hs = some (v, h')) (hx : ∀ A, rl (Vn n (qH n)) A x = some x') (r : lH n hs A g pa pm sv lb S X) (m : Nat) :
   W (aC (EL (m + 60)) 29 [.ptr pa 0, .int .i64 (.ofNat 1), .int .i64 (.ofNat k), .slc g.size 0 1 1 false] (g.push (.blk ⟨1, 1, false, true, Tr.ofL [x']⟩))) λ w g' => ∃ A', rl (Vn n (qH n)) A' v = some w /\ zT O3 A g A' g' /\ lH n h' A' g' pa pm sv lb S X := by
 unfold aQG at hf; rw [H.pushK_eq] at hf; obtain ⟨r1, s1, e1⟩ := r.hr.push (o := oneB x) (q := .blk ⟨1, 1, false, true, Tr.ofL [x']⟩) ⟨rfl, rfl, rfl, rfl, nW (aL.2 ⟨_, _, hx _, rfl, rfl⟩)⟩; obtain ⟨A', w, g', f1, f2, f3, f4⟩ := aDx (aCZ n h1 h2 m) r1 (args' := [.ptr pa 0, .int .i64 (.ofNat 1), .int .i64 (.ofNat k), .slc g.size 0 1 1 false])
   (aL.2 ⟨_, _, jQ (s1.le _ _ r.a), aL.2 ⟨_, _, rfl, aL.2 ⟨_, _, rfl, aL.2 ⟨_, _, fL e1, rfl, rfl⟩, rfl⟩, rfl⟩, rfl⟩) hf
 exact ⟨w, g', f1, A', f4, s1.trans f2, r.part (s1.trans f2) f3⟩
theorem aLE {E : bH} (r : lH n hs A g pa pm sv lb S X) (hw : rdCell hs.get 18 2 = some (.int .i64 (.ofNat 4))) : W (S28 E [.ptr pa 0] g) λ v g' => v = .int .i64 (.ofNat 1536) /\ g' = g := by
 obtain ⟨w, l1, l2⟩ := r.cell hw; have := dG l2; subst this; show W (aPY E (.ptr pa 0) g) _; unfold aPY
 repeat' (first | with_reducible refine sT ?_ | with_reducible refine sF ?_ | with_reducible refine g1 ?_ | with_reducible refine g2 ?_ | with_reducible refine g3 ?_ | with_reducible refine g4 ?_ | ((with_reducible apply sV); first | exact l1 | exact aB.read (by assumption) (by rfl) | exact aB.readN (by assumption) (Nat.le_of_ble_eq_true rfl) | exact fP (by omega) | exact fQ (by omega) | exact gtT (by omega) | exact gtF (by omega) | exact fR (by omega) | exact fS (by omega) | exact geT (by omega) | exact geF (by omega) | exact fM (by omega) | exact fT (by omega) | exact fN (by omega) | exact fO (by omega) | exact aF (by omega) | exact cP (by omega) | exact aG (by omega) (by omega) | exact aH (by omega) _ | exact aJ _ _ _ _ | exact aK _ _ _ _ | exact aE _ _ _ | exact rfl) | exact W.ret ⟨rfl, rfl⟩ | with_reducible refine W.ret ?_)
theorem bBK {k : IntKind} {a b : Nat} : cR (.int k (.ofNat a)) (.int k (.negSucc b)) = some (.bool false) := by rw [oG]; simp
theorem bDO {k : IntKind} {a b : Nat} : cR (.int k (.negSucc b)) (.int k (.ofNat a)) = some (.bool false) := by rw [oG]; simp
theorem aIu {n0 : Nat} {h h' : H} {v : DV} {L : List DV} {F : Nat -> Prop} (o : cL n0 h v L) (k : nG F h h') (hF : ∀ c, F c -> c < n0) : cL n0 h' v L := by
 rcases o with o | ⟨b, hb, e, o⟩
 · exact .inl o
 · exact .inr ⟨b, hb, e, kO o k λ h => by have := hF b h; omega⟩
def aFH (X : List iS) (L : List (Ln)) (i : Nat) : Prop := ∀ j, j < i -> ∃ x body, X[j]? = some x /\ L[j]? = some body /\ tG x 0 j body /\ x.dn = false /\ x.ls = false
theorem aDC (h1 : 1 <= n) (h2 : n <= 65536) {L : List (Ln)} (hL : L.length = 4) (hok : ∀ t ∈ L, aW t = true /\ t.length <= 512) (hS : S.length = 4) {N n0 : Nat} (hN : 9 <= N) {v : DV} (m : Nat) (hF : ∀ c, arF A S sv lb c -> c < n0) :
   ∀ (k i f : Nat) (X : List iS) (g : H), i + k = 4 -> lH n hB A g pa pm sv lb S X -> aFH X L i -> (∀ j, i <= j -> j < 4 -> X[j]? = some (qB N)) -> cL n0 g v (iN L) ->
   W (aEr (EL (m + 61)) (.ptr pa 0) (.int .i64 (.ofNat 1)) (.int .i64 (.negSucc 0)) (.int .i64 (.ofNat 0)) v (.int .i64 (.ofNat 4)) (f + (k + 1)) (.int .i64 (.ofNat (i + 1))) (.int .i64 (.ofNat 0)) (.int .i64 (.ofNat i)) g) λ w g' => w = .tup [.int .i64 (.ofNat 0), .int .i64 (.ofNat 0)] /\ ∃ A' X', lH n hC A' g' pa pm sv lb S X' /\ aFH X' L 4 := by
 intro k
 induction k with
 | zero =>
   intro i f X g hk r hH hX o; have hi : i = 4 := by omega
   subst hi; show W (aXJ (EL (m + 61)) _ _ _ _ _ _ (aEr (EL (m + 61)) _ _ _ _ _ _ f) _ _ _ g) _; unfold aXJ bAB
   repeat' (first | with_reducible refine sT ?_ | with_reducible refine sF ?_ | with_reducible refine g1 ?_ | with_reducible refine g2 ?_ | with_reducible refine g3 ?_ | with_reducible refine g4 ?_ | ((with_reducible apply sV); first | exact bBK | exact aB.read (by assumption) (by rfl) | exact aB.readN (by assumption) (Nat.le_of_ble_eq_true rfl) | exact fP (by omega) | exact fQ (by omega) | exact gtT (by omega) | exact gtF (by omega) | exact fR (by omega) | exact fS (by omega) | exact geT (by omega) | exact geF (by omega) | exact fM (by omega) | exact fT (by omega) | exact fN (by omega) | exact fO (by omega) | exact aF (by omega) | exact cP (by omega) | exact aG (by omega) (by omega) | exact aH (by omega) _ | exact aJ _ _ _ _ | exact aK _ _ _ _ | exact aE _ _ _ | exact rfl) | exact W.ret ⟨rfl, rfl⟩ | with_reducible refine W.ret ?_)
   refine sL1 rfl ?_; obtain ⟨w, g', e1, A', e2, e3, e4⟩ := aNQ h1 h2 fC (λ A => rfl) r (m + 1)
   have := aAp e2; obtain ⟨l, q1, rfl⟩ := this; obtain ⟨a, _, q2, q3, rfl⟩ := aL.1 q1; obtain ⟨b, _, q4, q5, rfl⟩ := aL.1 q3; cases q5; have y1 := dG q2; subst y1; refine sW e1 ?_
   repeat' (first | with_reducible refine sT ?_ | with_reducible refine sF ?_ | with_reducible refine g1 ?_ | with_reducible refine g2 ?_ | with_reducible refine g3 ?_ | with_reducible refine g4 ?_ | ((with_reducible apply sV); first | exact aB.read (by assumption) (by rfl) | exact aB.readN (by assumption) (Nat.le_of_ble_eq_true rfl) | exact fP (by omega) | exact fQ (by omega) | exact gtT (by omega) | exact gtF (by omega) | exact fR (by omega) | exact fS (by omega) | exact geT (by omega) | exact geF (by omega) | exact fM (by omega) | exact fT (by omega) | exact fN (by omega) | exact fO (by omega) | exact aF (by omega) | exact cP (by omega) | exact aG (by omega) (by omega) | exact aH (by omega) _ | exact aJ _ _ _ _ | exact aK _ _ _ _ | exact aE _ _ _ | exact rfl) | exact W.ret ⟨rfl, rfl⟩ | with_reducible refine W.ret ?_)
   exact ⟨rfl, A', X, e4, hH⟩
 | succ k ih =>
   intro i f X g hk r hH hX o; have hi : i < 4 := by omega
   obtain ⟨body, hb⟩ : ∃ body, L[i]? = some body := ⟨_, List.getElem?_eq_getElem (by omega)⟩
   obtain ⟨ok, hl⟩ := hok body (List.mem_of_getElem? hb); obtain ⟨b, c1, c2⟩ := o.load1 (j := i) (x := .str body) (by unfold iN; rw [List.getElem?_map, hb]; rfl) .i64
   have hset : aC (EL (m + 61)) 31 = S31 (EL (m + 60)) := by funext a b; exact aU (cO (s := S31) (by kernel_rfl) (by kernel_rfl) (m + 60)) a b
   obtain ⟨_, gh, e1, rfl, k1, x, a1, a2, a3, a4⟩ := aRu h1 h2 rdB r m hi hS (hX i (Nat.le_refl _) hi) hN ok hl; show W (aXJ (EL (m + 61)) _ _ _ _ _ _ (aEr (EL (m + 61)) _ _ _ _ _ _ (f + (k + 1))) _ _ _ g) _; unfold aXJ bAz bAA
   repeat' (first | with_reducible refine sT ?_ | with_reducible refine sF ?_ | with_reducible refine g1 ?_ | with_reducible refine g2 ?_ | with_reducible refine g3 ?_ | with_reducible refine g4 ?_ | ((with_reducible apply sV); first | exact c1 | exact c2 | exact bBK | exact aB.read (by assumption) (by rfl) | exact aB.readN (by assumption) (Nat.le_of_ble_eq_true rfl) | exact fP (by omega) | exact fQ (by omega) | exact gtT (by omega) | exact gtF (by omega) | exact fR (by omega) | exact fS (by omega) | exact geT (by omega) | exact geF (by omega) | exact fM (by omega) | exact fT (by omega) | exact fN (by omega) | exact fO (by omega) | exact aF (by omega) | exact cP (by omega) | exact aG (by omega) (by omega) | exact aH (by omega) _ | exact aJ _ _ _ _ | exact aK _ _ _ _ | exact aE _ _ _ | exact rfl) | exact W.ret ⟨rfl, rfl⟩ | with_reducible refine W.ret ?_)
   rw [hset]; refine sW e1 ?_
   repeat' (first | with_reducible refine sT ?_ | with_reducible refine sF ?_ | with_reducible refine g1 ?_ | with_reducible refine g2 ?_ | with_reducible refine g3 ?_ | with_reducible refine g4 ?_ | ((with_reducible apply sV); first | exact aB.read (by assumption) (by rfl) | exact aB.readN (by assumption) (Nat.le_of_ble_eq_true rfl) | exact fP (by omega) | exact fQ (by omega) | exact gtT (by omega) | exact gtF (by omega) | exact fR (by omega) | exact fS (by omega) | exact geT (by omega) | exact geF (by omega) | exact fM (by omega) | exact fT (by omega) | exact fN (by omega) | exact fO (by omega) | exact aF (by omega) | exact cP (by omega) | exact aG (by omega) (by omega) | exact aH (by omega) _ | exact aJ _ _ _ _ | exact aK _ _ _ _ | exact aE _ _ _ | exact rfl) | exact W.ret ⟨rfl, rfl⟩ | with_reducible refine W.ret ?_)
   have hXl : X.length = 4 := by rw [r.q.len]; exact hS
   refine ih (i + 1) f (X.set i x) gh (by omega) a4 (λ j hj => ?_) (λ j hj hj4 => ?_) (aIu o k1 hF)
   · by_cases e : j = i
     · subst e; exact ⟨x, body, by rw [List.getElem?_set, if_pos rfl, if_pos (by omega)], hb, a1, a2, a3⟩
     · obtain ⟨y, b2, y1, y2⟩ := hH j (by omega)
       exact ⟨y, b2, by rw [List.getElem?_set, if_neg (λ h => e h.symm)]; exact y1, y2⟩
   · rw [List.getElem?_set, if_neg (by omega)]
     exact hX j (by omega) hj4
theorem aJJ {text : Ln} (ok : aW text = true) (h1 : 1 <= text.length) (h2 : text.length <= 1536) (hS : S.length = 4) {N : Nat} (hN : 9 <= N) (r : lH text.length hA A g pa pm sv lb S X) (hX : ∀ j, j < 4 -> X[j]? = some (qB N)) (m : Nat) :
   W (S9 (EL (m + 61)) [.ptr pa 0, .int .i64 (.ofNat 1), .str text, .int .i64 (.negSucc 0)] g) λ w g' => w = .tup [.int .i64 (.ofNat 0), .int .i64 (.ofNat 0)] /\ ∃ A' X', lH text.length hC A' g' pa pm sv lb S X' /\ aFH X' (oT text 4) 4 := by
 have hm : aC (EL (m + 61)) 28 = S28 (EL (m + 60)) := by funext a b; exact aU (cO (s := S28) (by kernel_rfl) (by kernel_rfl) (m + 60)) a b
 have hne : cR (.str text) (.str []) = some (.bool false) := by
   cases text with
   | nil => simp at h1
   | cons a t => rfl
 show W (bAC (EL (m + 61)) (.ptr pa 0) (.int .i64 (.ofNat 1)) (.str text) (.int .i64 (.negSucc 0)) g) _; unfold bAC; obtain ⟨_, _, em, rfl, rfl⟩ := aLE (E := EL (m + 60)) r wdA
 repeat' (first | with_reducible refine sT ?_ | with_reducible refine sF ?_ | with_reducible refine g1 ?_ | with_reducible refine g2 ?_ | with_reducible refine g3 ?_ | with_reducible refine g4 ?_ | rw [hm] | refine sW em ?_ | ((with_reducible apply sV); first | exact hne | exact bDO | exact dF _ | exact aB.read (by assumption) (by rfl) | exact aB.readN (by assumption) (Nat.le_of_ble_eq_true rfl) | exact fP (by omega) | exact fQ (by omega) | exact gtT (by omega) | exact gtF (by omega) | exact fR (by omega) | exact fS (by omega) | exact geT (by omega) | exact geF (by omega) | exact fM (by omega) | exact fT (by omega) | exact fN (by omega) | exact fO (by omega) | exact aF (by omega) | exact cP (by omega) | exact aG (by omega) (by omega) | exact aH (by omega) _ | exact aJ _ _ _ _ | exact aK _ _ _ _ | exact aE _ _ _ | exact rfl) | exact W.ret ⟨rfl, rfl⟩ | with_reducible refine W.ret ?_)
 refine sL1 (x := .int .i64 (.ofNat text.length)) rfl ?_; obtain ⟨w, g1', e1, A', e2, e3, e4⟩ := aNQ (n := text.length) h1 (by omega) fB (λ A => rfl) r (m + 1)
 obtain ⟨l, q1, rfl⟩ := aAp e2; obtain ⟨a, _, q2, q3, rfl⟩ := aL.1 q1; obtain ⟨b, _, q4, q5, rfl⟩ := aL.1 q3; cases q5; have y1 := dG q2; subst y1; obtain ⟨c, hc, rfl⟩ := gU q4; obtain ⟨w0, l0, v0⟩ := hld e4.hr hc fB0; have y2 := dG v0; subst y2; obtain ⟨w4, l4, v4⟩ := e4.cell rdB.wd; have y3 := dG v4; subst y3; refine sW e1 ?_
 repeat' (first | with_reducible refine sT ?_ | with_reducible refine sF ?_ | with_reducible refine g1 ?_ | with_reducible refine g2 ?_ | with_reducible refine g3 ?_ | with_reducible refine g4 ?_ | ((with_reducible apply sV); first | exact aSV (Nat.le_of_ble_eq_true rfl) | exact l0 | exact l4 | exact aB.read (by assumption) (by rfl) | exact aB.readN (by assumption) (Nat.le_of_ble_eq_true rfl) | exact fP (by omega) | exact fQ (by omega) | exact gtT (by omega) | exact gtF (by omega) | exact fR (by omega) | exact fS (by omega) | exact geT (by omega) | exact geF (by omega) | exact fM (by omega) | exact fT (by omega) | exact fN (by omega) | exact fO (by omega) | exact aF (by omega) | exact cP (by omega) | exact aG (by omega) (by omega) | exact aH (by omega) _ | exact aJ _ _ _ _ | exact aK _ _ _ _ | exact aE _ _ _ | exact rfl) | exact W.ret ⟨rfl, rfl⟩ | with_reducible refine W.ret ?_)
 obtain ⟨BE, bE, sE⟩ := (bDS (m + 57)).call; have hN4 : jL text 4 <= 512 := by unfold jL eN; omega
 obtain ⟨v, g2', f1, f2, f3⟩ := sE text 4 g1' ok (by omega) (by decide) (by decide) hN4
 obtain ⟨L1, L2⟩ := aGs (s := text) (w := 4) (by decide) hN4 ok
 refine sC bE f1 ?_; have hlen : bO v = some (.int .i64 (.ofNat 4)) := by
   rw [f2.len]; unfold iN; rw [List.length_map, L1]
 repeat' (first | with_reducible refine sT ?_ | with_reducible refine sF ?_ | with_reducible refine g1 ?_ | with_reducible refine g2 ?_ | with_reducible refine g3 ?_ | with_reducible refine g4 ?_ | ((with_reducible apply sV); first | exact hlen | exact aB.read (by assumption) (by rfl) | exact aB.readN (by assumption) (Nat.le_of_ble_eq_true rfl) | exact fP (by omega) | exact fQ (by omega) | exact gtT (by omega) | exact gtF (by omega) | exact fR (by omega) | exact fS (by omega) | exact geT (by omega) | exact geF (by omega) | exact fM (by omega) | exact fT (by omega) | exact fN (by omega) | exact fO (by omega) | exact aF (by omega) | exact cP (by omega) | exact aG (by omega) (by omega) | exact aH (by omega) _ | exact aJ _ _ _ _ | exact aK _ _ _ _ | exact aE _ _ _ | exact rfl) | exact W.ret ⟨rfl, rfl⟩ | with_reducible refine W.ret ?_)
 have e5 := e4.grown f3.grown; have hr := aDC h1 (by omega) (L := oT text 4) L1 (λ t ht => ⟨(L2 t ht).1, by rw [(L2 t ht).2]; exact hN4⟩) hS hN (n0 := g1'.size) m (λ c hc => e4.lt hc) 4 0 (aT - 5) X g2' rfl e5 (λ j hj => absurd hj (Nat.not_lt_zero _)) (λ j _ hj => hX j hj) f2
 rw [show aT - 5 + (4 + 1) = aT from by unfold aT; omega] at hr
 exact hr
end
end Go.Proofs.YthpciaidbgjoeaaGreat
