/- Paths and names: what they compute. No condition. -/
import Derived.Test.YtmafhiogonejfaaGreatDoorT
import Derived.Test.YtmafhiogonejfaaGreatDoorShelf
import Derived.KernelRfl
set_option linter.unusedVariables false
set_option linter.unusedSimpArgs false
namespace Go.Proofs.YtmafhiogonejfaaGreatDoor
open Go.DI
def bL (E : bJ) (f : Nat) (S : cF -> Prop) : Prop := ∃ B, E f = some B /\ S B
theorem bL.call {E : bJ} {f : Nat} {S : cF -> Prop} (h : bL E f S) : ∃ B, (∀ args m, aE E f args m = B args m) /\ S B := by
 obtain ⟨B, e, s⟩ := h; exact ⟨B, λ args m => cN e args m, s⟩
def eJ (s : Ln) : Bool := (s != []) && (decide (s.length <= 28) && ((s != [46]) && ((s != [46, 46]) && ((!s.contains 47) && (!s.contains 0)))))
def cR : Ln -> List (Ln)
 | [] => [[]]
 | c :: s => if c = 47 then [] :: cR s else match cR s with
   | [] => [[c]]
   | p :: r => (c :: p) :: r
theorem sR : ∀ s, cR s ≠ []
 | [] => by simp [cR]
 | c :: s => by
   unfold cR; split
   · simp
   · split <;> simp
theorem rR : ∀ {s : Ln}, 47 ∉ s -> cR s = [s]
 | [], _ => rfl
 | c :: s, h => by
   simp only [List.mem_cons, not_or] at h; rw [cR, if_neg (λ e => h.1 e.symm), rR h.2]
theorem rQ : ∀ {a b : Ln}, 47 ∉ a -> cR (a ++ 47 :: b) = a :: cR b
 | [], b, _ => by rw [List.nil_append, cR, if_pos rfl]
 | c :: a, b, h => by
   simp only [List.mem_cons, not_or] at h; rw [List.cons_append, cR, if_neg (λ e => h.1 e.symm), rQ h.2]
def iA (name s : Ln) : List (Ln) := match cR s with
 | [] => [name]
 | p :: r => (name ++ p) :: r
theorem wD (s : Ln) : iA [] s = cR s := by
 unfold iA; cases h : cR s with
 | nil => exact absurd h (sR s)
 | cons p r => rfl
theorem aFf (name : Ln) : iA name [] = [name] := by simp [iA, cR]
theorem aCh (name s : Ln) : iA name (47 :: s) = name :: cR s := by simp [iA, cR]
theorem aDZ {c : Nat} (hc : c ≠ 47) (name s : Ln) : iA name (c :: s) = iA (name ++ [c]) s := by
 unfold iA; rw [cR, if_neg hc]; cases h : cR s with
 | nil => exact absurd h (sR s)
 | cons p r => simp
theorem aFD (s : Ln) : aEc 47 s + 1 = (cR s).length := by
 induction s with
 | nil => rfl
 | cons c s ih =>
   rw [aEc, cR]; by_cases h : c = 47
   · subst h; rw [if_pos rfl]; simp only [Nat.beq_refl, cond_true, List.length_cons, ih]
   · rw [if_neg h, aAg h, cond_false, ih]; cases hp : cR s with
     | nil => exact absurd hp (sR s)
     | cons p r => rfl
theorem aIt {c : Nat} : ∀ {s : Ln}, c ∉ s -> rA c s = -1
 | [], _ => rfl
 | b :: s, h => by
   simp only [List.mem_cons, not_or] at h; rw [rA, aAg (λ e => h.1 e.symm), cond_false, aIt h.2]; rfl
theorem aCs {c : Nat} : ∀ {a b : Ln}, c ∉ a -> rA c (a ++ c :: b) = .ofNat a.length
 | [], b, _ => by simp [rA]
 | x :: a, b, h => by
   simp only [List.mem_cons, not_or] at h; rw [List.cons_append, rA, aAg (λ e => h.1 e.symm), cond_false, aCs h.2]; rfl
theorem aNT (c : Nat) (s : Ln) : decide (rA c s < 0) = !s.contains c := by
 by_cases h : c ∈ s
 · obtain ⟨a, b, rfl, ha⟩ := List.eq_append_cons_of_mem h; rw [aCs ha]; simp
 · rw [aIt h]; simp [h]
def eB : List (Ln) -> List (Ln) -> Option (List (Ln))
 | out, [] => some out
 | out, p :: ps => if p = [] \/ p = [46] then eB out ps else if p = [46, 46] then eB (out.take (out.length - 1)) ps else if eJ p then eB (out ++ [p]) ps else none
def nW (p : Ln) : Bool := p == [] || (p.head? != some 47 || decide (255 < p.length))
def jL (p : Ln) : Option (List (Ln)) := if nW p then none else eB [] (cR (p.drop 1))
def eO (p : Ln) : Nat := match jL p with
 | some _ => 0
 | none => 15
def aT (p : Ln) : List (Ln) := (jL p).getD []
def lS (s : Ln) : List (Ln) -> Option (Ln)
 | [] => some s
 | n :: l => if eJ n = false \/ 255 <= s.length + n.length then none else lS (s ++ 47 :: n) l
def aND (l : List (Ln)) : Option (Ln) := (lS [] l).map λ s => if s = [] then [47] else s
def aNE (l : List (Ln)) : Nat := match aND l with
 | some _ => 0
 | none => 15
def aFt (l : List (Ln)) : Ln := (aND l).getD []
def dK (l : List (Ln)) : Ln := (l.map (47 :: ·)).flatten
theorem aDJ : ∀ {l : List (Ln)} {s : Ln}, (∀ n ∈ l, eJ n = true) -> (s ++ dK l).length <= 255 -> lS s l = some (s ++ dK l)
 | [], s, _, _ => by simp [lS, dK]
 | n :: l, s, hn, hl => by
   have e : s ++ dK (n :: l) = (s ++ 47 :: n) ++ dK l := by simp [dK]
   rw [lS, if_neg, aDJ (λ m hm => hn m (by simp [hm])) (by rw [<- e]; exact hl), e]
   simp only [not_or, Bool.not_eq_false]; refine ⟨hn n (by simp), ?_⟩
   simp only [dK, List.map_cons, List.flatten_cons, List.length_append, List.length_cons] at hl; omega
theorem yF {n : Ln} (h : eJ n = true) : n ≠ [] /\ n ≠ [46] /\ n ≠ [46, 46] /\ n.length <= 28 /\ 47 ∉ n := by
 simp only [eJ, Bool.and_eq_true, bne_iff_ne, decide_eq_true_eq, Bool.not_eq_true', List.contains_eq_mem, decide_eq_false_iff_not] at h; exact ⟨h.1, h.2.2.1, h.2.2.2.1, h.2.1, h.2.2.2.2.1⟩
theorem aDq : ∀ {l out : List (Ln)}, (∀ n ∈ l, eJ n = true) -> eB out l = some (out ++ l)
 | [], out, _ => by simp [eB]
 | n :: l, out, h => by
   have hn := h n (by simp)
   obtain ⟨h1, h2, h3, _⟩ := yF hn; rw [eB, if_neg (by simp [h1, h2]), if_neg h3, if_pos hn, aDq λ m hm => h m (by simp [hm])]
   simp
theorem aAN : ∀ {l out r : List (Ln)}, (∀ n ∈ out, eJ n = true) -> eB out l = some r -> (∀ n ∈ r, eJ n = true) /\ (dK r).length <= (dK out).length + (dK l).length
 | [], out, r, ho, h => by
   simp only [eB, Option.some.injEq] at h; subst h; exact ⟨ho, by simp⟩
 | n :: l, out, r, ho, h => by
   have e : (dK (n :: l)).length = 1 + n.length + (dK l).length := by simp [dK]; omega
   have ap : ∀ a b : List (Ln), (dK (a ++ b)).length = (dK a).length + (dK b).length := λ a b => by simp [dK]
   rw [eB] at h; split at h
   · obtain ⟨h1, h2⟩ := aAN ho h; exact ⟨h1, by omega⟩
   · split at h
     · obtain ⟨h1, h2⟩ := aAN (λ m hm => ho m (List.mem_of_mem_take hm)) h
       have := ap (out.take (out.length - 1)) (out.drop (out.length - 1)); rw [List.take_append_drop] at this; exact ⟨h1, by omega⟩
     · split at h
       · rename_i hn; obtain ⟨h1, h2⟩ := aAN (λ m hm => by
           rcases List.mem_append.1 hm with hm | hm
           · exact ho m hm
           · simp at hm; subst hm; exact hn) h
         rw [ap] at h2; have : (dK [n]).length = 1 + n.length := by simp [dK]; omega
         exact ⟨h1, by omega⟩
       · cases h
theorem pM : ∀ s : Ln, dK (cR s) = 47 :: s
 | [] => rfl
 | c :: s => by
   rw [cR]; by_cases h : c = 47
   · subst h; rw [if_pos rfl]; show dK ([] :: cR s) = _; have : dK ([] :: cR s) = 47 :: dK (cR s) := by simp [dK]
     rw [this, pM s]
   · rw [if_neg h]; have ih := pM s; cases hp : cR s with
     | nil => exact absurd hp (sR s)
     | cons p r =>
       rw [hp] at ih; simp only [dK, List.map_cons, List.flatten_cons, List.cons_append, List.cons.injEq, true_and] at ih ⊢; rw [ih]
theorem aDz : ∀ {n : Ln} {l : List (Ln)}, 47 ∉ n -> (∀ m ∈ l, 47 ∉ m) -> cR (n ++ dK l) = n :: l
 | n, [], hn, _ => by simp [dK, rR hn]
 | n, m :: l, hn, hl => by
   have e : n ++ dK (m :: l) = n ++ 47 :: (m ++ dK l) := by simp [dK]
   rw [e, rQ hn, aDz (hl m (by simp)) λ k hk => hl k (by simp [hk])]
theorem aVQ {p : Ln} {l : List (Ln)} (h : jL p = some l) : (∀ n ∈ l, eJ n = true) /\ (dK l).length <= 255 := by
 unfold jL at h; split at h
 · cases h
 · rename_i hb; obtain ⟨h1, h2⟩ := aAN (out := []) (λ n hn => by cases hn) h
   refine ⟨h1, ?_⟩; rw [pM] at h2; have : p.length <= 255 := by
     simp only [nW, Bool.or_eq_true, decide_eq_true_eq, not_or] at hb; omega
   simp only [dK, List.map_nil, List.flatten_nil, List.length_nil, List.length_cons, List.length_drop] at h2 ⊢; have hp : 0 < p.length := by
     rcases Nat.eq_zero_or_pos p.length with h0 | h0
     · exfalso; apply hb
       have := List.eq_nil_of_length_eq_zero h0; subst this; rfl
     · exact h0
   omega
def wE (l : List (Ln)) : Ln := if l = [] then [47] else dK l
theorem aWy {l : List (Ln)} : dK l = [] ↔ l = [] := by
 cases l with
 | nil => simp [dK]
 | cons n l => simp [dK]
theorem aNC {l : List (Ln)} (hn : ∀ n ∈ l, eJ n = true) (hl : (dK l).length <= 255) : aND l = some (wE l) := by
 unfold aND; rw [aDJ hn (by simpa using hl)]
 simp only [Option.map_some, List.nil_append, wE, aWy]
theorem sA {l : List (Ln)} (hn : ∀ n ∈ l, eJ n = true) (hl : (dK l).length <= 255) : jL (wE l) = some l := by
 unfold jL wE; cases l with
 | nil => rfl
 | cons n l =>
   have e0 : (if n :: l = [] then [47] else dK (n :: l)) = dK (n :: l) := if_neg (by simp)
   rw [e0]; have e : dK (n :: l) = 47 :: (n ++ dK l) := by simp [dK]
   have hb : nW (dK (n :: l)) = false := by
     rw [e] at hl ⊢; have : ¬ 255 < (47 :: (n ++ dK l)).length := by omega
     unfold nW; rw [decide_eq_false this]; rfl
   rw [hb, if_neg (by simp), e, List.drop_succ_cons, List.drop_zero, aDz (yF (hn n (by simp))).2.2.2.2 λ m hm => (yF (hn m (by simp [hm]))).2.2.2.2, aDq hn]
   rfl
theorem aIn {F G : bJ} (h65 : F 173 = some (aKv G)) (s : Ln) {c : Nat} (hc : c < 256) (h : H) : aZN F [.str s, .int .u8 (.ofNat c)] h = some (.int .i64 (rA c s), h) := by
 show aKM F (.str s) (.int .u8 (.ofNat c)) h = _; unfold aKM; rw [cN h65]; have : aKv G [.str s, .int .u8 (.ofNat c)] h = some (.int .i64 (rA c s), h) := by
   show aDh G (.str s) (.int .u8 (.ofNat c)) h = _; unfold aDh; simp only [aJb, dS hc, cond_true, pN, aA]
 rw [this, aB]
def jZ (B : cF) : Prop := ∀ (s : Ln) (h : H), s.length < 140737488355328 -> B [.str s] h = some (.bool (eJ s), h)
theorem aRk {E F G : bJ} (h50 : E 164 = some (aZN F)) (h65 : F 173 = some (aKv G)) : jZ (aZY E) := by
 intro s h _; show aLa E (.str s) h = _; unfold aLa; have i1 := aIn h65 s (c := 47) (by omega) h
 have i2 := aIn h65 s (c := 0) (by omega) h
 have f1 : decide (rA 47 s < Int.ofNat 0) = !s.contains 47 := aNT 47 s; have f2 : decide (rA 0 s < Int.ofNat 0) = !s.contains 0 := aNT 0 s; have d1 : decide (Int.ofNat s.length <= Int.ofNat 28) = decide (s.length <= 28) := aJS _ _; unfold eJ; rw [lF, aA]; cases (s != []) with
 | false => rfl
 | true =>
   simp only [gT, aY, aA, aBW, d1, bZ]; cases decide (s.length <= 28) with
   | false => rfl
   | true =>
     simp only [gT, lF, aA, bZ]; cases (s != [46]) with
     | false => rfl
     | true =>
       simp only [gT, lF, aA, bZ]; cases (s != [46, 46]) with
       | false => rfl
       | true =>
         simp only [gT, cN h50, i1, aB, eY, f1, aA, bZ]; cases (!s.contains 47) with
         | false => rfl
         | true =>
           simp only [gT, cN h50, i2, aB, eY, f2, aA, bZ]
           rfl
theorem aWb {E : bJ} (s : Ln) (h : H) (hs : s.contains 47 = false) (hz : s.contains 0 = false) : aGi E (.str s) h = some (.bool (eJ s), h) := by
 unfold aGi eJ; have d1 : decide (Int.ofNat s.length <= Int.ofNat 28) = decide (s.length <= 28) := aJS _ _; rw [hs, hz, lF, aA]; cases (s != []) with
 | false => rfl
 | true =>
   simp only [gT, aY, aA, aBW, d1, bZ]; cases decide (s.length <= 28) with
   | false => rfl
   | true =>
     simp only [gT, lF, aA, bZ]; cases (s != [46]) with
     | false => rfl
     | true =>
       simp only [gT, lF, aA, bZ]; cases (s != [46, 46]) with
       | false => rfl
       | true => rfl
theorem aJy {E : bJ} {a : Ln} (la : a.length < 140737488355328) {h : H} : ∀ (s p : Ln) (m : Nat), a = p ++ s -> p.contains 47 = false -> p.contains 0 = false ->
   aCQ E (.str a) (m + (s.length + 1)) (ii p.length) h = some (.bool (eJ a), h) := by
 intro s
 induction s with
 | nil =>
   intro p m ea h1 h2; show aGz E _ (aCQ E _ m) _ h = _; unfold aGz; have d : decide (p.length < a.length) = false := by rw [ea]; simp
   rw [aY, aA, aP, aA, d, aC]; rw [List.append_nil] at ea; subst ea; exact aWb a h h1 h2
 | cons x s ih =>
   intro p m ea h1 h2; show aGz E _ (aCQ E _ (m + (s.length + 1))) _ h = _; unfold aGz; have d : decide (p.length < a.length) = true := by rw [ea]; simp
   have hlt : p.length < a.length := by rw [ea]; simp
   have ix : gY (.str a) (ii p.length) = some (.int .u8 (.ofNat x)) := mG (b := x) (by rw [ea]; simp) _
   have bad : (x = 0 \/ x = 47) -> eJ a = false := λ hx => by
     rw [ea]; unfold eJ; rcases hx with rfl | rfl <;> simp
   simp only [aY, aA, aP, d, ix, cB]; rw [aD]; by_cases h0 : x = 0
   · simp only [decide_eq_true h0, fL, eD, bZ, aA]; rw [aD, bad (.inl h0)]
   · simp only [decide_eq_false h0, dQ, ix, aA, cB, bT]; by_cases h3 : x = 47
     · rw [decide_eq_true h3, aD, bad (.inr h3)]
     · rw [decide_eq_false h3, aC, eZ (by omega), aA]
       have := ih (p ++ [x]) m (by rw [ea]; simp) (by simp at h1 ⊢; exact ⟨h1, λ e => h3 e.symm⟩) (by simp at h2 ⊢; exact ⟨h2, λ e => h0 e.symm⟩)
       rw [List.length_append] at this; exact this
theorem aQl {E : bJ} : jZ (aZL E) := by
 intro s h hs; have := aJy (E := E) (h := h) hs s [] (aQ - (s.length + 1)) rfl rfl rfl; rw [show aQ - (s.length + 1) + (s.length + 1) = aQ from by unfold aQ; omega] at this
 exact this
theorem aFp {R : Type} {h : H} {n bytes : Nat} {z : DV} (hn : n < 140737488355328) (hb : bytes * n < 140737488355328) (k : DV -> H -> Option R) : vG 1 bytes z (ii n) (ii n) h k = k (.slc h.size 0 n n false) (h.push (.blk ⟨n, 1, false, true, Tr.full z 48⟩)) := by
 simp only [vG]; rw [Nat.ble_eq_true_of_le (Nat.le_refl _), dS hb, dS hn]; simp only [Bool.and_self, cond_true, H.pushK_eq]
theorem aCg (s : Ln) : (cR s).length <= s.length + 1 := by
 rw [<- aFD]; have : ∀ s : Ln, aEc 47 s <= s.length := by
   intro s
   induction s with
   | nil => exact Nat.le_refl _
   | cons c s ih =>
     rw [aEc, List.length_cons]; cases Nat.beq c 47
     · rw [cond_false]; omega
     · rw [cond_true]; omega
 have := this s; omega
theorem aWv {E F G : bJ} (h77 : E 194 = some (aWY F)) (h65 : F 173 = some (aKv G)) (s : Ln) (h : H) : aZI E [.str s, .str [47]] h = some (.int .i64 (rA 47 s), h) := by
 show aKH E (.str s) (.str [47]) h = _; unfold aKH; rw [cN h77]; have : aWY F [.str s, .str [47]] h = some (.int .i64 (rA 47 s), h) := by
   show aKG F (.str s) (.str [47]) h = _; unfold aKG; have d1 : decide (([47] : Ln).length = 0) = false := rfl; have d2 : decide (([47] : Ln).length = 1) = true := rfl; have d4 : gY (.str [47]) (ii 0) = some (.int .u8 (.ofNat 47)) := mG rfl _; have i1 : aKv G [.str s, .int .u8 (.ofNat 47)] h = some (.int .i64 (rA 47 s), h) := by
     show aDh G (.str s) (.int .u8 (.ofNat 47)) h = _; unfold aDh; simp only [aJb, dS (show 47 < 256 by omega), cond_true, pN, aA]
   simp only [aY, aA, cB, d1, d2, dQ, gI, bT, d4, cN h65, i1, aB]; by_cases hs : ([47] : Ln) == s
   · have : s = [47] := (beq_iff_eq.1 hs).symm; subst this
     rfl
   · have hs' : (([47] : Ln) == s) = false := by simpa using hs
     rw [hs', aC, aD]
 rw [this, aB]
theorem aHx {E B : bJ} (hI : ∀ (s : Ln) (h : H), aE E 183 [.str s, .str [47]] h = some (.int .i64 (rA 47 s), h)) {b n : Nat} (s0 : Ln) (hn : n = (cR s0).length) (hs0 : s0.length <= 1000000) :
   ∀ (k m : Nat) (s : Ln) (dn : List (Ln)) (h : H), (cR s).length = k + 1 -> cR s0 = dn ++ cR s -> s.length <= 1000000 -> bW h b (cU dn ++ List.replicate (n - dn.length) (.str [])) ->
   ∃ h', aCP E (.str [47]) (ii 0) (ii (n - 1)) (.slc b 0 n n false) (m + (k + 1)) (.str s) (ii dn.length) h = some (.slc b 0 n n false, h') /\ bW h' b (cU (cR s0)) /\ zD b h h' := by
 have hn2 : n <= 1000001 := by rw [hn]; have := aCg s0; omega
 intro k
 induction k with
 | zero =>
   intro m s dn h hk hp hs hb; show ∃ h', aGy E _ _ _ _ (aCP E _ _ _ _ m) _ _ h = _ /\ _; unfold aGy; have hdn : n = dn.length + 1 := by rw [hn, hp, List.length_append, hk]
   have d : decide (dn.length < n - 1) = false := by simp; omega
   have h47 : 47 ∉ s := by
     intro h47; obtain ⟨x, y, rfl, hx⟩ := List.eq_append_cons_of_mem h47; rw [rQ hx] at hk; simp only [List.length_cons] at hk; exact sR y (List.eq_nil_of_length_eq_zero (by omega))
   rw [rR h47] at hp; have hlen : (cU dn ++ List.replicate (n - dn.length) (DV.str [])).length = n := by simp [cU]; omega
   obtain ⟨h1, f1, f2, f3⟩ := hb.set (v := .str s) (j := dn.length) rfl (by rw [hlen]; omega)
   have e : (cU dn ++ List.replicate (n - dn.length) (DV.str [])).set dn.length (.str s) = cU (cR s0) := by
     rw [hp, strsV_append, List.set_append_right _ _ (by simp [cU]), show n - dn.length = 1 from by omega]
     simp [cU]
   rw [e] at f2; refine ⟨h1, ?_, f2, f3⟩; rw [aP, aA, d, aC]; unfold aGh; rw [aBX (by omega), aA, f1, aB, eZ (by omega), aA, <- hdn]
   have hsl : dU 1 (.slc b 0 n n false) none (some (ii n)) = some (.slc b 0 n n false) := by
     simp only [dU, dL, dHi, dLo]; rw [Nat.ble_eq_true_of_le (Nat.le_refl n), cond_true, Nat.ble_eq_true_of_le (Nat.zero_le _), cond_true, dS (show 0 < n by omega), cond_true]
     simp [bD]
   rw [hsl, aA]
 | succ k ih =>
   intro m s dn h hk hp hs hb; show ∃ h', aGy E _ _ _ _ (aCP E _ _ _ _ (m + (k + 1))) _ _ h = _ /\ _; unfold aGy; have hdn : n = dn.length + (k + 2) := by rw [hn, hp, List.length_append, hk]
   have d : decide (dn.length < n - 1) = true := by simp; omega
   have h47 : 47 ∈ s := by
     apply Classical.byContradiction; intro h47; rw [rR h47] at hk; simp at hk
   obtain ⟨x, y, rfl, hx⟩ := List.eq_append_cons_of_mem h47; rw [rQ hx] at hk hp; have hlen : (cU dn ++ List.replicate (n - dn.length) (DV.str [])).length = n := by simp [cU]; omega
   obtain ⟨h1, f1, f2, f3⟩ := hb.set (v := .str x) (j := dn.length) rfl (by rw [hlen]; omega)
   have e : (cU dn ++ List.replicate (n - dn.length) (DV.str [])).set dn.length (.str x) = cU (dn ++ [x]) ++ List.replicate (n - (dn ++ [x]).length) (.str []) := by
     rw [strsV_append, List.set_append_right _ _ (by simp [cU]), show n - dn.length = (n - (dn ++ [x]).length) + 1 from by simp; omega]
     simp [cU, List.replicate_succ]
   rw [e] at f2; simp only [List.length_append, List.length_cons] at hs; obtain ⟨h', g1, g2, g3⟩ := ih m y (dn ++ [x]) h1 (by simpa using hk) (by rw [hp]; simp) (by omega) f2
   refine ⟨h', ?_, g2, f3.trans g3⟩; have dn0 : decide (Int.ofNat x.length < Int.ofNat 0) = false := by simp
   rw [aP, aA, d, aD, hI, aB, aCs hx, eY, aA, dn0, aC, bO (by omega), aA, Nat.add_zero, vN (by simp), aA, List.take_left, aBX (by omega), aA, f1, aB, aY, aA, bO (by simp; omega), aA,
     tP (by simp), aA, eZ (by omega), aA]
   have e2 : (x ++ 47 :: y).drop (x.length + ([47] : Ln).length) = y := by
     rw [List.length_singleton, <- List.drop_drop, List.drop_left]; rfl
   rw [e2]; rw [List.length_append] at g1; exact g1
def aAt (B : cF) : Prop := ∀ (s : Ln) (h : H), s.length <= 1000000 -> ∃ v h', B [.str s, .str [47]] h = some (v, h') /\ dE h' v (cU (cR s)) /\ aH h h'
theorem aMF {E F G K M : bJ} (h49 : E 172 = some (aZK F)) (h63 : F 182 = some (aZJ G)) (h64 : F 183 = some (aZI G)) (h77 : G 194 = some (aWY K)) (h65 : K 173 = some (aKv M)) : aAt (aZP E) := by
 intro s h hs; have hcnt := aFD s; have hle := aCg s; have hm : (cR s).length < 140737488355328 := by omega
 obtain ⟨h', g1, g2, g3⟩ := aHx (E := F) (B := F) (b := h.size) (n := (cR s).length) (λ s h => by rw [cN h64, aWv h77 h65]) s rfl hs ((cR s).length - 1) (aQ - (cR s).length) s [] (h.push (.blk ⟨(cR s).length, 1, false, true, Tr.full (.str []) 48⟩)) (by omega) rfl hs (by
   simp only [cU, List.map_nil, List.length_nil, Nat.sub_zero, List.nil_append]; exact bW.made hm)
 rw [show aQ - (cR s).length + ((cR s).length - 1 + 1) = aQ from by unfold aQ; omega] at g1
 have hrow := g2.row false; rw [bH] at hrow; refine ⟨.slc h.size 0 (cR s).length (cR s).length false, h', ?_, hrow, zD.grown (aH.push h _) (Nat.le_refl _) g3⟩; show aKQ E (.str s) (.str [47]) h = _; unfold aKQ; rw [cN h49]; have : aZK F [.str s, .str [47], ii 0, .int .i64 (.negSucc 0)] h = some (.slc h.size 0 (cR s).length (cR s).length false, h') := by
   show aKK F (.str s) (.str [47]) (ii 0) (.int .i64 (.negSucc 0)) h = _; unfold aKK; have e1 : cG (.int .i64 (.negSucc 0)) (ii 0) = some (.bool false) := by rw [hH]; rfl
   have e2 : dA (.int .i64 (.negSucc 0)) (ii 0) = some (.bool true) := by rw [eY]; rfl
   have e3 : cG (.str [47]) (.str []) = some (.bool false) := by rw [gI]; rfl
   rw [e1, aA, aC, e3, aA, aC, e2, aA, aD, cN h63]; have c1 : aZJ G [.str s, .str [47]] h = some (ii ((aEc 47 s)), h) := by
     show aKI G (.str s) (.str [47]) h = _; unfold aKI; have d1 : decide (([47] : Ln).length = 0) = false := rfl; have d2 : decide (([47] : Ln).length = 1) = true := rfl; have d4 : gY (.str [47]) (ii 0) = some (.int .u8 (.ofNat 47)) := mG rfl _; rw [aY, aA, cB, aA, d1, aC, aA, cB, aA, d2, aD, d4, aA]; simp only [aPG, dS (show 47 < 256 by omega), cond_true, bD, aA]
   rw [c1, aB, eZ (by omega), aA, hcnt]
   unfold aKJ; rw [aY, aA, eZ (by omega), aA, oF, aA, show min (cR s).length (s.length + 1) = (cR s).length from by omega, aFp hm (by omega), fY (by omega) (by omega), aA]
   exact g1
 rw [this, aB]
def aWA (r : Option (List (Ln))) : Nat := match r with
 | some _ => 0
 | none => 15
theorem aMB {n : Nat} (hn : n < 9223372036854775808) : ∃ z, fM (ii n) (ii 1) = some (.int .i64 z) /\ aBT (.int .i64 z) (ii 0) = some (ii (n - 1)) := by
 cases n with
 | zero =>
   refine ⟨-1, by rw [aBS]; rfl, by simp only [aBT, nN]; rfl⟩
 | succ n => exact ⟨_, fY (by omega) hn, by rw [aEE]; simp⟩
theorem aEP (l : List (Ln)) (s : Ln) : cU (l ++ [s]) = cU l ++ [.str s] := strsV_append l [s]
theorem aHv {E : bJ} (hN : bL E 146 jZ) {n0 : Nat} {h0 : H} {w : DV} {ps : List (Ln)} (hw : dE h0 w (cU ps)) (hps : ∀ s ∈ ps, s.length < 140737488355328) (hpl : ps.length <= 1000000) (hn0 : n0 = h0.size) :
   ∀ (rest pre out : List (Ln)) (m : Nat) (v : DV) (h : H), ps = pre ++ rest -> out.length <= pre.length -> cK n0 h0 h -> fV n0 h v (cU out) ->
   ∃ v' h', nD E w (ii ps.length) (m + (rest.length + 1)) v (ii pre.length) h = some (.tup [v', ii ((aWA (eB out rest)))], h') /\ dE h' v' (cU ((eB out rest).getD [])) /\ cK n0 h0 h' := by
 obtain ⟨B, hB, sB⟩ := hN.call; intro rest
 induction rest with
 | nil =>
   intro pre out m v h e ho hk hg; show ∃ v' h', aGJ E _ _ (nD E _ _ m) _ _ h = _ /\ _; unfold aGJ; have d : decide (pre.length < ps.length) = false := by rw [e]; simp
   rw [aP, aA, d, aC]; exact ⟨v, h, rfl, hg.row, hk⟩
 | cons p rest ih =>
   intro pre out m v h e ho hk hg; show ∃ v' h', aGJ E _ _ (nD E _ _ (m + (rest.length + 1))) _ _ h = _ /\ _; unfold aGJ; have d : decide (pre.length < ps.length) = true := by rw [e]; simp
   have hlt : pre.length < ps.length := by rw [e]; simp
   have hkg : aH h0 h := by rw [hn0] at hk; exact hk.grown
   have hnh : n0 <= h.size := by rw [hn0]; exact hk.size
   obtain ⟨b, o, f1, f2⟩ := (hw.grown hkg).at (j := pre.length) (kC (s := p) (by rw [e]; simp)) .i64
   have hp := hps p (by rw [e]; simp)
   have hadd : bN (ii pre.length) (ii 1) = some (ii (pre.length + 1)) := eZ (by omega)
   have step : ∀ (out' : List (Ln)) (v' : DV) (h' : H), out'.length <= pre.length + 1 -> cK n0 h0 h' -> fV n0 h' v' (cU out') ->
       ∃ u hh, aAE E (nD E w (ii ps.length) (m + (rest.length + 1))) v' (ii pre.length) h' = some (.tup [u, ii ((aWA (eB out' rest)))], hh) /\ dE hh u (cU ((eB out' rest).getD [])) /\ cK n0 h0 hh := by
     intro out' v' h' hl hk' hg'; unfold aAE; rw [hadd, aA]; have := ih (pre ++ [p]) out' m v' h' (by rw [e]; simp) (by simpa using hl) hk' hg'
     rw [List.length_append] at this; exact this
   simp only [aP, aA, d, f1, f2, gI]; rw [aD]; by_cases h1 : p = []
   · have e1 : (p == []) = true := by simp [h1]
     have ew : eB out (p :: rest) = eB out rest := by rw [eB, if_pos (.inl h1)]
     rw [e1, aD, ew]; unfold aGl; rw [aD]; exact step out v h (by omega) hk hg
   · have e1 : (p == []) = false := by simp [h1]
     rw [e1, aC]; unfold aGl; by_cases h2 : p = [46]
     · have e2 : (p == [46]) = true := by simp [h2]
       have ew : eB out (p :: rest) = eB out rest := by rw [eB, if_pos (.inr h2)]
       rw [e2, aD, ew]; exact step out v h (by omega) hk hg
     · have e2 : (p == [46]) = false := by simp [h2]
       rw [e2, aC, gI, aA]; by_cases h3 : p = [46, 46]
       · have e3 : (p == [46, 46]) = true := by simp [h3]
         have ew : eB out (p :: rest) = eB (out.take (out.length - 1)) rest := by rw [eB, if_neg (by simp [h1, h2]), if_pos h3]
         rw [e3, aD, ew]; obtain ⟨z, z1, z2⟩ := aMB (n := out.length) (by omega)
         obtain ⟨v', c1, c2⟩ := hg.cut (m := out.length - 1) (by rw [bH]; omega) .i64
         rw [qD] at c2; rw [hg.row.len, bH, aA, z1, aA, z2, aA, c1, aA]; exact step _ v' h (by simp; omega) hk c2
       · have e3 : (p == [46, 46]) = false := by simp [h3]
         rw [e3, aC]; unfold aLj; rw [hB, sB p h hp, aB, gJ, aA]; by_cases h4 : eJ p = true
         · have ew : eB out (p :: rest) = eB (out ++ [p]) rest := by rw [eB, if_neg (by simp [h1, h2]), if_neg h3, if_pos h4]
           rw [h4, ew]; show ∃ v' h', bK (.bool false) _ _ = _ /\ _; rw [aC]; obtain ⟨v', h', g1, g2, g3⟩ := hg.push1 (x := .str p) (z := .str []) (bytes := 16) hnh rfl (by rw [bH]; unfold aR; omega) (by rw [bH]; unfold aR; omega)
           rw [g1]; rw [<- aEP] at g2; exact step _ v' h' (by simp; omega) (hk.trans g3) g2
         · have h4' : eJ p = false := by simpa using h4
           have ew : eB out (p :: rest) = none := by rw [eB, if_neg (by simp [h1, h2]), if_neg h3, if_neg h4]
           rw [h4', ew]; show ∃ v' h', bK (.bool true) _ _ = _ /\ _; rw [aD]; exact ⟨.nils, h, rfl, dE.nil h, hk⟩
def jE (B : cF) : Prop := ∀ (p : Ln) (h : H), p.length < 140737488355328 -> ∃ v h', B [.str p] h = some (.tup [v, ii ((eO p))], h') /\ dE h' v (cU (aT p)) /\ aH h h'
theorem aDA {R : Type} {p : Ln} {h : H} (bad good : H -> Option R) :
   (vK (cG (.str p) (.str [])) λ x1 =>
   bR x1 false (λ kk => kk (.str p) h) h λ x2 h3 =>
   bR x1 false (λ kk => vK (gY x2 (ii 0)) λ v => kk v h3) h3 λ x4 h5 =>
   bR x1 false (λ kk => vK (dC x4 (.int .u8 (.ofNat 47))) λ v => kk v h5) h5 λ x6 h7 =>
   vK (bE x1 (.bool true) x6) λ x8 =>
   bR x8 false (λ kk => kk (.str p) h7) h7 λ x9 h10 =>
   bR x8 false (λ kk => vK (cJ x9) λ v => kk v h10) h10 λ x11 h12 =>
   bR x8 false (λ kk => vK (eI x11 (ii 255)) λ v => kk v h12) h12 λ x13 h14 =>
   vK (bE x8 (.bool true) x13) λ x15 =>
   bK x15 (bad h14) (good h14)) = if nW p then bad h else good h := by
 cases p with
 | nil => rfl
 | cons c s =>
   have e0 : ((c :: s : Ln) == []) = false := rfl; have ix : gY (.str (c :: s)) (ii 0) = some (.int .u8 (.ofNat c)) := mG rfl _; simp only [gI, e0, aA, dQ, ix, bC, bT]; unfold nW; rw [e0, Bool.false_or]; by_cases hc : c = 47
   · subst hc; have e2 : (!decide ((47 : Nat) = 47)) = false := rfl; have e3 : ((47 :: s : Ln).head? != some 47) = false := rfl; simp only [decide_true, Bool.not_true, dQ, aY, aA, cW, bT, e3, Bool.false_or]; by_cases hl : 255 < (47 :: s).length
     · rw [decide_eq_true hl, aD, if_pos rfl]
     · rw [decide_eq_false hl, aC, if_neg (by simp)]
   · have e2 : (!decide (c = 47)) = true := by simp [hc]
     have e3 : ((c :: s : Ln).head? != some 47) = true := by simp [hc]
     simp only [e2, fL, eD, aA, bZ, e3, Bool.true_or]; rw [aD]; simp
theorem aNp {E : bJ} (hS : bL E 161 aAt) (hN : bL E 146 jZ) : jE (bAf E) := by
 intro p h hlen; obtain ⟨B, hB, sB⟩ := hS.call; show ∃ v h', aLk E (.str p) h = _ /\ _; unfold aLk; rw [aDA (p := p) (h := h) (λ h14 => some ((.tup [.nils, (ii 15)]), h14)) (λ h14 => vK (iE (.str p) (some (ii 1)) none) λ x16 =>
   wK (aE E 161 [x16, (.str [47])] h14) λ x17 h18 =>
   vK (cA x17) λ x19 =>
   nD E x17 x19 aQ .nils (ii 0) h18)]
 by_cases hb : nW p = true
 · have e : jL p = none := by unfold jL; rw [if_pos hb]
   rw [if_pos hb]; refine ⟨.nils, h, ?_, ?_, aH.refl _⟩
   · unfold eO; rw [e]
   · unfold aT; rw [e]; exact dE.nil h
 · have e : jL p = eB [] (cR (p.drop 1)) := by unfold jL; rw [if_neg hb]
   rw [if_neg hb]; have hp : 1 <= p.length /\ p.length <= 255 := by
     simp only [nW, Bool.or_eq_true, decide_eq_true_eq, not_or] at hb; refine ⟨?_, by omega⟩
     rcases Nat.eq_zero_or_pos p.length with h0 | h0
     · have := List.eq_nil_of_length_eq_zero h0; subst this; simp at hb
     · exact h0
   obtain ⟨w, h1, f1, f2, f3⟩ := sB (p.drop 1) h (by simp; omega)
   have hpc : ∀ s ∈ cR (p.drop 1), s.length < 140737488355328 := λ s hs => by
     have hfl := pM (p.drop 1); have h2 : (47 :: s).length <= (dK (cR (p.drop 1))).length := by
       unfold dK; exact (List.sublist_flatten_of_mem (List.mem_map.2 ⟨s, hs, rfl⟩)).length_le
     rw [hfl] at h2; simp only [List.length_cons, List.length_drop] at h2; omega
   have hle := aCg (p.drop 1); rw [List.length_drop] at hle; obtain ⟨v, h2, g1, g2, g3⟩ := aHv (E := E) hN (n0 := h1.size) f2 hpc (by omega) rfl (cR (p.drop 1)) [] [] (aQ - ((cR (p.drop 1)).length + 1)) .nils h1 rfl (Nat.le_refl _) (cK.refl _ _) (fV.nil _ _)
   rw [show aQ - ((cR (p.drop 1)).length + 1) + ((cR (p.drop 1)).length + 1) = aQ from by unfold aQ; omega] at g1
   refine ⟨v, h2, ?_, ?_, f3.trans g3.grown⟩
   · rw [tP hp.1, aA, hB, f1, aB, f2.len, bH, aA]; unfold eO; rw [e]; exact g1
   · unfold aT; rw [e]; exact g2
theorem aHk {E : bJ} (hN : bL E 170 jZ) {n0 : Nat} {p : Ln} (hpl : p.length <= 255) :
   ∀ (s pre name : Ln) (out : List (Ln)) (m : Nat) (v : DV) (h : H), p = pre ++ s -> out.length + name.length <= pre.length -> n0 <= h.size -> fV n0 h v (cU out) ->
   ∃ v' h', nC E (.str p) (m + (s.length + 2)) v (.str name) (.int .i64 (.ofNat pre.length)) h = some (.tup [v', .int .i64 (.ofNat (aWA (eB out (iA name s))))], h') /\ dE h' v' (cU ((eB out (iA name s)).getD [])) /\ cK n0 h h' := by
 obtain ⟨B, hB, sB⟩ := hN.call; have flush : ∀ (name : Ln) (rest : List (Ln)) (out : List (Ln)) (i : DV -> DV -> DV -> H -> aV) (k : Nat) (v : DV) (h : H), out.length + name.length <= 255 -> k <= 255 -> n0 <= h.size -> fV n0 h v (cU out) ->
     (∀ (out' : List (Ln)) (v' : DV) (h' : H), out'.length <= out.length + (if name = [] then 0 else 1) -> n0 <= h'.size -> fV n0 h' v' (cU out') -> ∃ u hh, i v' (.str []) (.int .i64 (.ofNat (k + 1))) h' = some (.tup [u, .int .i64 (.ofNat (aWA (eB out' rest)))], hh) /\ dE hh u (cU ((eB out' rest).getD [])) /\ cK n0 h' hh) ->
     ∃ u hh, (vK (cG (.str name) (.str [])) λ x17 =>
       bR x17 false (λ kk => kk (.str name) h) h λ x18 h19 =>
       bR x17 false (λ kk => vK (cG x18 (.str [46])) λ v => kk v h19) h19 λ x20 h21 =>
       vK (bE x17 (.bool true) x20) λ x22 =>
       bK x22
       (vC E i v (.int .i64 (.ofNat k)) h21)
       (vK (cG (.str name) (.str [46, 46])) λ x23 =>
       bK x23
       (vK (cA v) λ x24 =>
       vK (fM x24 (.int .i64 (.ofNat 1))) λ x25 =>
       vK (aBT x25 (.int .i64 (.ofNat 0))) λ x26 =>
       vK (dU 1 v none (some x26)) λ x27 =>
       wK (cE 1 16 .nils x27 h21) λ x28 h29 =>
       vC E i x28 (.int .i64 (.ofNat k)) h29)
       (wK (aE E 170 [.str name] h21) λ x30 h31 =>
       vK (oE x30) λ x32 =>
       bK x32
       (some ((.tup [.nils, (.int .i64 (.ofNat 15))]), h31))
       (fG 1 1 [(.str [])] [(0, 1, .str name)] h31 λ x33 h34 =>
       wK (cE 1 16 v x33 h34) λ x35 h36 =>
       vC E i x35 (.int .i64 (.ofNat k)) h36)))) = some (.tup [u, .int .i64 (.ofNat (aWA (eB out (name :: rest))))], hh) /\ dE hh u (cU ((eB out (name :: rest)).getD [])) /\ cK n0 h hh := by
   intro name rest out i k v h hol hk hn hg hi; have four : ∀ (out' : List (Ln)) (v' : DV) (h' : H), out'.length <= out.length + (if name = [] then 0 else 1) -> n0 <= h'.size -> fV n0 h' v' (cU out') -> cK n0 h h' -> ∃ u hh, vC E i v' (.int .i64 (.ofNat k)) h' = some (.tup [u, .int .i64 (.ofNat (aWA (eB out' rest)))], hh) /\ dE hh u (cU ((eB out' rest).getD [])) /\ cK n0 h hh := by
     intro out' v' h' hl hn' hg' hkk; unfold vC aDi; rw [eZ (by omega), aA]
     obtain ⟨u, hh, a, b, c⟩ := hi out' v' h' hl hn' hg'; exact ⟨u, hh, a, b, hkk.trans c⟩
   rw [gI, aA]; by_cases h1 : name = []
   · have e1 : (name == []) = true := by simp [h1]
     have ew : eB out (name :: rest) = eB out rest := by rw [eB, if_pos (.inl h1)]
     simp only [e1, fL, eD, bZ, aA]; rw [aD, ew]; exact four out v h (by omega) hn hg (cK.refl _ _)
   · have e1 : (name == []) = false := by simp [h1]
     simp only [e1, dQ, gI, bT, aA]; by_cases h2 : name = [46]
     · have e2 : (name == [46]) = true := by simp [h2]
       have ew : eB out (name :: rest) = eB out rest := by rw [eB, if_pos (.inr h2)]
       rw [e2, aD, ew]; exact four out v h (by omega) hn hg (cK.refl _ _)
     · have e2 : (name == [46]) = false := by simp [h2]
       rw [e2, aC]; by_cases h3 : name = [46, 46]
       · have e3 : (name == [46, 46]) = true := by simp [h3]
         have ew : eB out (name :: rest) = eB (out.take (out.length - 1)) rest := by rw [eB, if_neg (by simp [h1, h2]), if_pos h3]
         rw [e3, aD, ew]; obtain ⟨z, z1, z2⟩ := aMB (n := out.length) (by omega)
         obtain ⟨v', c1, c2⟩ := hg.cut (m := out.length - 1) (by rw [bH]; omega) .i64
         rw [qD] at c2; obtain ⟨v2, h2', a1, a2, a3⟩ := (fV.nil n0 h).appendRow (bytes := 16) hn c2.row (aVP _) (by simp [cU]; unfold aR; omega) (by simp [cU]; unfold aR; omega)
         rw [hg.row.len, bH, aA, z1, aA, z2, aA, c1, aA, a1, aB]; exact four _ v2 h2' (by simp; omega) (Nat.le_trans hn a3.size) (by simpa using a2) a3
       · have e3 : (name == [46, 46]) = false := by simp [h3]
         rw [e3, aC, hB, sB name h (by omega), aB, gJ, aA]
         by_cases h4 : eJ name = true
         · have ew : eB out (name :: rest) = eB (out ++ [name]) rest := by rw [eB, if_neg (by simp [h1, h2]), if_neg h3, if_pos h4]
           rw [h4, ew]; show ∃ v' h', bK (.bool false) _ _ = _ /\ _; rw [aC]; obtain ⟨v', h', g1, g2, g3⟩ := hg.push1 (x := .str name) (z := .str []) (bytes := 16) hn rfl (by rw [bH]; unfold aR; omega) (by rw [bH]; unfold aR; omega)
           rw [g1]; rw [<- aEP] at g2; exact four _ v' h' (by simp [h1]) (Nat.le_trans hn g3.size) g2 g3
         · have h4' : eJ name = false := by simpa using h4
           have ew : eB out (name :: rest) = none := by rw [eB, if_neg (by simp [h1, h2]), if_neg h3, if_neg h4]
           rw [h4', ew]; show ∃ v' h', bK (.bool true) _ _ = _ /\ _; rw [aD]; exact ⟨.nils, h, rfl, dE.nil h, cK.refl _ _⟩
 intro s
 induction s with
 | nil =>
   intro pre name out m v h e hl hn hg; rw [aFf]; show ∃ v' h', aAH E _ (nC E _ (m + 1)) _ _ _ h = _ /\ _; unfold aAH; have hpre : pre.length = p.length := by rw [e]; simp
   have d1 : decide (pre.length <= p.length) = true := by rw [hpre]; simp
   have d2 : decide (pre.length < p.length) = false := by rw [hpre]; simp
   simp only [aY, aA, xV, d1, aP, d2, wJ, eD, bT]; rw [aD, aC]; refine flush name [] out (nC E (.str p) (m + 1)) pre.length v h (by omega) (by omega) hn hg λ out' v' h' _ hn' hg' => ?_
   show ∃ u hh, aAH E _ (nC E _ m) _ _ _ h' = _ /\ _; unfold aAH; have d3 : decide (pre.length + 1 <= p.length) = false := by rw [hpre]; simp
   simp only [aY, aA, xV, d3]; rw [aC]; exact ⟨v', h', rfl, hg'.row, cK.refl _ _⟩
 | cons c s ih =>
   intro pre name out m v h e hl hn hg; show ∃ v' h', aAH E _ (nC E _ (m + (s.length + 2))) _ _ _ h = _ /\ _; unfold aAH; have hplen : p.length = pre.length + (s.length + 1) := by rw [e]; simp
   have d1 : decide (pre.length <= p.length) = true := by simp; omega
   have d2 : decide (pre.length < p.length) = true := by simp; omega
   have ix : gY (.str p) (.int .i64 (.ofNat pre.length)) = some (.int .u8 (.ofNat c)) := mG (by rw [e]; simp) _
   simp only [aY, aA, xV, d1, aP, d2, gT, ix, bC, bZ]; rw [aD]; by_cases hc : c = 47
   · subst hc; have e2 : (!decide ((47 : Nat) = 47)) = false := rfl; rw [e2, aC, aCh]; refine flush name (cR s) out (nC E (.str p) (m + (s.length + 2))) pre.length v h (by omega) (by omega) hn hg λ out' v' h' hl' hn' hg' => ?_
     have := ih (pre ++ [47]) [] out' m v' h' (by rw [e]; simp) (by
       simp only [List.length_nil, List.length_append, List.length_singleton, Nat.add_zero]; split at hl' <;> omega) hn' hg'
     rw [List.length_append, wD] at this; exact this
   · have e2 : (!decide (c = 47)) = true := by simp [hc]
     have sl : iE (.str p) (some (.int .i64 (.ofNat pre.length))) (some (.int .i64 (.ofNat (pre.length + 1)))) = some (.str [c]) := by
       rw [aEB (by omega) (by omega)]
       congr 2
       rw [e, List.drop_take, List.drop_left]; simp
     rw [e2, aD, eZ (by omega), aA, sl, aA, fD (by simp; unfold fQ; omega), aA, aDZ hc]
     unfold aDi; rw [eZ (by omega), aA]
     have := ih (pre ++ [c]) (name ++ [c]) out m v h (by rw [e]; simp) (by simp; omega) hn hg
     rw [List.length_append] at this; exact this
theorem aMU {E : bJ} (hN : bL E 170 jZ) : jE (aZS E) := by
 intro p h hlen; show ∃ v h', aKT E (.str p) h = _ /\ _; unfold aKT; rw [aDA (p := p) (h := h) (λ h14 => some ((.tup [.nils, (ii 15)]), h14)) (λ h14 => nC E (.str p) aQ .nils (.str []) (ii 1) h14)]
 by_cases hb : nW p = true
 · have e : jL p = none := by unfold jL; rw [if_pos hb]
   rw [if_pos hb]; refine ⟨.nils, h, ?_, ?_, aH.refl _⟩
   · unfold eO; rw [e]
   · unfold aT; rw [e]; exact dE.nil h
 · have e : jL p = eB [] (cR (p.drop 1)) := by unfold jL; rw [if_neg hb]
   rw [if_neg hb]; obtain ⟨c, s, rfl⟩ : ∃ c s, p = c :: s := by
     cases p with
     | nil => exact absurd rfl hb
     | cons c s => exact ⟨c, s, rfl⟩
   have hpl : (c :: s).length <= 255 := by
     simp only [nW, Bool.or_eq_true, decide_eq_true_eq, not_or] at hb; omega
   have hsl : s.length <= 254 := by simp at hpl; omega
   obtain ⟨v, h2, g1, g2, g3⟩ := aHk (E := E) hN (n0 := h.size) hpl s [c] [] [] (aQ - (s.length + 2)) .nils h rfl (by simp) (Nat.le_refl _) (fV.nil _ _)
   rw [show aQ - (s.length + 2) + (s.length + 2) = aQ from by unfold aQ; omega] at g1
   rw [wD] at g1 g2; refine ⟨v, h2, ?_, ?_, g3.grown⟩
   · unfold eO; rw [e]; exact g1
   · unfold aT; rw [e]; exact g2
def bCa (r : Option (Ln)) : DV := match r with
 | some s => .tup [.str (if s = [] then [47] else s), ii 0]
 | none => .tup [.str [], ii 15]
theorem bBZ (l : List (Ln)) : bCa (lS [] l) = .tup [.str (aFt l), ii ((aNE l))] := by
 unfold bCa aFt aNE aND; cases lS [] l <;> rfl
def xJ (B : cF) : Prop := ∀ (v : DV) (l : List (Ln)) (h : H), dE h v (cU l) -> (∀ s ∈ l, s.length < 140737488355328) -> l.length < 1000000000 -> B [v] h = some (.tup [.str (aFt l), ii ((aNE l))], h)
theorem aFA (a : List (Ln)) (n : Ln) : dK (a ++ [n]) = dK a ++ 47 :: n := by simp [dK]
theorem aJA {E : bJ} (hN : bL E 170 jZ) {v : DV} {l : List (Ln)} {h : H} (hv : dE h v (cU l)) (hlt : ∀ s ∈ l, s.length < 140737488355328) (hl : l.length < 1000000000) :
   ∀ (rest pre : List (Ln)) (m : Nat), l = pre ++ rest -> (dK pre).length <= 255 ->
   aCU E v (m + (rest.length + 1)) (.str (dK pre)) (ii pre.length) h = some (bCa (lS (dK pre) rest), h) := by
 obtain ⟨B, hB, sB⟩ := hN.call; intro rest
 induction rest with
 | nil =>
   intro pre m e hf; show aGD E _ (aCU E _ m) _ _ h = _; unfold aGD; have d : decide (pre.length < l.length) = false := by rw [e]; simp
   rw [hv.len, bH, aA, aP, aA, d, aC]; unfold aKR; rw [gI, aA]; unfold bCa lS; by_cases h0 : dK pre = []
   · rw [h0]; rfl
   · have : (dK pre == []) = false := by simp [h0]
     rw [this, aC]; simp only [h0, if_false]
 | cons n rest ih =>
   intro pre m e hf; show aGD E _ (aCU E _ (m + (rest.length + 1))) _ _ h = _; unfold aGD; have d : decide (pre.length < l.length) = true := by rw [e]; simp
   have hltp : pre.length < l.length := by rw [e]; simp
   have hn := hlt n (by rw [e]; simp)
   obtain ⟨b, o, f1, f2⟩ := hv.at (j := pre.length) (kC (s := n) (by rw [e]; simp)) .i64
   simp only [hv.len, bH, aP, aA, d, f1, f2, hB, sB n h hn, aB, gJ]; rw [aD, lS]; by_cases h1 : eJ n = true
   · simp only [h1, Bool.not_true, dQ, aY, f1, f2, bO (show (dK pre).length + n.length < 9223372036854775808 by omega), fZ, aA, bT]
     by_cases h2 : 255 <= (dK pre).length + n.length
     · rw [decide_eq_true h2, aD, if_pos (.inr h2)]; rfl
     · rw [decide_eq_false h2, aC, fD (by simp; unfold fQ; omega), aA, fD (by simp; unfold fQ; omega), aA, eZ (by omega), aA, if_neg (by simp; omega)]
       have := ih (pre ++ [n]) m (by rw [e]; simp) (by rw [aFA]; simp; omega)
       rw [aFA, List.length_append] at this; exact this
   · have h1' : eJ n = false := by simpa using h1
     simp only [h1', Bool.not_false, fL, eD, bZ, aA]; rw [aD, if_pos (.inl trivial)]; rfl
theorem aQr {E : bJ} (hN : bL E 170 jZ) : xJ (aZQ E) := by
 intro v l h hv hlt hl; rw [<- bBZ]; have := aJA hN hv hlt hl l [] (aQ - (l.length + 1)) rfl (by simp [dK])
 rw [show aQ - (l.length + 1) + (l.length + 1) = aQ from by unfold aQ; omega] at this
 exact this
theorem iJ (p : Ln) : (∀ n ∈ aT p, eJ n = true) /\ (dK (aT p)).length <= 255 /\ (aT p).length <= 255 /\ ∀ n ∈ aT p, n.length < 140737488355328 := by
 have key : (∀ n ∈ aT p, eJ n = true) /\ (dK (aT p)).length <= 255 := by
   unfold aT; cases h : jL p with
   | none => exact ⟨λ n hn => by simp at hn, by simp [dK]⟩
   | some l => exact aVQ h
 refine ⟨key.1, key.2, ?_, λ n hn => by have := (yF (key.1 n hn)).2.2.2.1; omega⟩
 have : ∀ l : List (Ln), l.length <= (dK l).length := by
   intro l
   induction l with
   | nil => simp
   | cons n l ih => simp only [dK, List.map_cons, List.flatten_cons, List.length_append, List.length_cons] at ih ⊢; omega
 have := this (aT p); omega
theorem aET {p : Ln} (h : eO p ≠ 0) : aT p = [] /\ eO p = 15 := by
 unfold eO aT at *; cases hp : jL p with
 | none => exact ⟨rfl, rfl⟩
 | some l => rw [hp] at h; exact absurd rfl h
def aZr (p : Ln) : Nat := if eO p = 0 then aNE (aT p) else eO p
def aCx (p : Ln) : Ln := if eO p = 0 then aFt (aT p) else []
def aDp (B : cF) : Prop := ∀ (p : Ln) (h : H), p.length < 140737488355328 -> ∃ h', B [.str p] h = some (.tup [.str (aCx p), ii ((aZr p))], h') /\ aH h h'
theorem aNi {E : bJ} (hS : bL E 154 jE) (hJ : bL E 156 xJ) : aDp (bAk E) := by
 intro p h hp; obtain ⟨B, hB, sB⟩ := hS.call; obtain ⟨C, hC, sC⟩ := hJ.call; obtain ⟨v, h', f1, f2, f3⟩ := sB p h hp; obtain ⟨o1, o2, o3, o4⟩ := iJ p; refine ⟨h', ?_, f3⟩; show aLp E (.str p) h = _; unfold aLp; simp only [hB, f1, aB, aL, aK, aA, bC, hC]; unfold aCx aZr; by_cases h0 : eO p = 0
 · rw [decide_eq_true h0, if_pos h0, if_pos h0]; show bK (.bool false) _ _ = _; rw [aC, sC v _ h' f2 o4 (by omega)]
   simp only [aB, aL, aK, aA]
 · rw [decide_eq_false h0, if_neg h0, if_neg h0]; show bK (.bool true) _ _ = _; rw [aD]
def aEa (p : Ln) : Ln := if aT p = [] then [] else aFt ((aT p).take ((aT p).length - 1))
def dT (p : Ln) : Ln := (aT p).getD ((aT p).length - 1) []
def aJO (p : Ln) : Nat := if aT p = [] then 15 else 0
def aAB (B : cF) : Prop := ∀ (p : Ln) (h : H), p.length < 140737488355328 -> ∃ h', B [.str p] h = some (.tup [.str (aEa p), .str (dT p), ii ((aJO p))], h') /\ aH h h'
theorem aQJ {v : DV} {p : Ln} {h' : H} (f2 : dE h' v (cU (aT p))) {C : cF} (sC : xJ C) (hne : aT p ≠ []) :
   ∃ w b o, fM (ii (aT p).length) (ii 1) = some (ii ((aT p).length - 1)) /\ dU 1 v none (some (ii ((aT p).length - 1))) = some w /\ C [w] h' = some (.tup [.str (aEa p), ii ((aNE ((aT p).take ((aT p).length - 1))))], h') /\
     cD 1 v (ii ((aT p).length - 1)) = some (.ptr b o) /\ aF h'.get (.ptr b o) = some (.str (dT p)) := by
 obtain ⟨o1, o2, o3, o4⟩ := iJ p; have hpos : 0 < (aT p).length := List.length_pos_iff.2 hne; obtain ⟨w, g1, g2⟩ := f2.cutTo (m := (aT p).length - 1) (by rw [bH]; omega) .i64
 rw [qD] at g2; obtain ⟨b, o, k1, k2⟩ := f2.at (j := (aT p).length - 1) (kC (s := dT p) (by
   unfold dT; rw [List.getD_eq_getElem?_getD, List.getElem?_eq_getElem (by omega)]; rfl)) .i64
 refine ⟨w, b, o, fY (by omega) (by omega), g1, ?_, k1, k2⟩
 rw [sC w _ h' g2 (λ s hs => o4 s (List.mem_of_mem_take hs)) (by simp; omega)]
 unfold aEa; rw [if_neg hne]
theorem aJx {E : bJ} (hS : bL E 154 jE) (hJ : bL E 156 xJ) : aAB (aZW E) := by
 intro p h hp; obtain ⟨B, hB, sB⟩ := hS.call; obtain ⟨C, hC, sC⟩ := hJ.call; obtain ⟨v, h', f1, f2, f3⟩ := sB p h hp; refine ⟨h', ?_, f3⟩; show aKX E (.str p) h = _; unfold aKX; simp only [hB, f1, aB, aL, aK, aA, bC]; by_cases hne : aT p = []
 · have e1 : aEa p = [] := by unfold aEa; rw [if_pos hne]
   have e2 : dT p = [] := by unfold dT; rw [hne]; rfl
   have e3 : aJO p = 15 := by unfold aJO; rw [if_pos hne]
   rw [e1, e2, e3]; have hl : cA v = some (ii 0) := by rw [f2.len, bH, hne]; rfl
   by_cases h0 : eO p = 0
   · simp only [decide_eq_true h0, Bool.not_true, dQ, hl, aA, cB, decide_true, bT]; rw [aD]
   · simp only [decide_eq_false h0, Bool.not_false, fL, eD, aA, bZ]; rw [aD]
 · have e3 : aJO p = 0 := by unfold aJO; rw [if_neg hne]
   have h0 : eO p = 0 := Classical.byContradiction λ h0 => hne (aET h0).1
   have d0 : decide ((aT p).length = 0) = false := by
     have := List.length_pos_iff.2 hne; simp only [decide_eq_false_iff_not]; omega
   obtain ⟨w, b, o, a1, a2, a3, a4, a5⟩ := aQJ f2 sC hne; rw [e3]; simp only [decide_eq_true h0, Bool.not_true, dQ, f2.len, bH, aA, cB, d0, bT]; rw [aC, a1, aA, a2, aA, hC, a3, aB, aL, aA, aK, aA, aA, a4, aA, a5, aA]
theorem aDD (x y : Ln) : (x != y) = !decide (x = y) := by
 by_cases h : x = y
 · simp [h]
 · simp [h]
theorem aOu {x y : Ln} {s t : List (Ln)} : decide ((y :: t).take (s.length + 1) = x :: s) = (decide (x = y) && decide (t.take s.length = s)) := by
 rw [List.take_succ_cons]; by_cases h : x = y
 · subst h; simp
 · have : ¬ y = x := λ e => h e.symm
   simp [h, this]
theorem aHB {E : bJ} {v w : DV} {h : H} {a b : List (Ln)} (hv : dE h v (cU a)) (hw : dE h w (cU b)) (hl : a.length < 1000000000) : ∀ (s p t q : List (Ln)) (m : Nat), a = p ++ s -> b = q ++ t -> p.length = q.length -> s.length <= t.length ->
   aCV E v w (ii a.length) (m + (s.length + 1)) (ii p.length) h = some (.bool (decide (t.take s.length = s)), h) := by
 intro s
 induction s with
 | nil =>
   intro p t q m ea eb hpq hst; show aGE E _ _ _ (aCV E _ _ _ m) _ h = _; unfold aGE; have d : decide (p.length < a.length) = false := by rw [ea]; simp
   rw [aP, aA, d, aC]; simp; rfl
 | cons x s ih =>
   intro p t q m ea eb hpq hst; cases t with
   | nil => simp at hst
   | cons y t =>
     show aGE E _ _ _ (aCV E _ _ _ (m + (s.length + 1))) _ h = _; unfold aGE; have d : decide (p.length < a.length) = true := by rw [ea]; simp
     have hlt : p.length < a.length := by rw [ea]; simp
     obtain ⟨b1, o1, f1, f2⟩ := hv.at (j := p.length) (kC (s := x) (by rw [ea]; simp)) .i64
     obtain ⟨b2, o2, g1, g2⟩ := hw.at (j := p.length) (kC (s := y) (by rw [eb, hpq]; simp)) .i64
     rw [aP, aA, d, aD, f1, aA, f2, aA, g1, aA, g2, aA, lF, aA, List.length_cons, aOu, aDD]; cases hxy : decide (x = y) with
     | false => rfl
     | true =>
       show bK (.bool false) _ _ = _; rw [aC, eZ (by omega), aA, Bool.true_and]
       have := ih (p ++ [x]) t (q ++ [y]) m (by rw [ea]; simp) (by rw [eb]; simp) (by simp [hpq]) (by simpa using hst)
       rw [List.length_append] at this; exact this
def aRZ (B : cF) : Prop := ∀ (v w : DV) (a b : List (Ln)) (h : H), dE h v (cU a) -> dE h w (cU b) -> a.length < 1000000000 -> B [v, w] h = some (.bool (decide (a = b)), h)
theorem aNV {E : bJ} : aRZ (bAa E) := by
 intro v w a b h hv hw hl; show aLc E v w h = _; unfold aLc; rw [hv.len, hw.len, bH, bH, aA, aA, bC, aA]; by_cases h0 : a.length = b.length
 · rw [decide_eq_true h0]; show bK (.bool false) _ _ = _; rw [aC, aA]; have := aHB (E := E) hv hw hl a [] b [] (aQ - (a.length + 1)) rfl rfl rfl (by omega)
   rw [show aQ - (a.length + 1) + (a.length + 1) = aQ from by unfold aQ; omega, List.take_of_length_le (by omega)] at this
   refine Eq.trans this ?_
   congr 3
   simp [eq_comm]
 · rw [decide_eq_false h0]; show bK (.bool true) _ _ = _; rw [aD]; have : ¬ a = b := λ e => h0 (by rw [e])
   simp [this]
def nQ (p q : Ln) : Bool := decide (eO p = 0) && (decide (eO q = 0) && (decide ((aT p).length < (aT q).length) && decide ((aT q).take (aT p).length = aT p)))
def nP (B : cF) : Prop := ∀ (p q : Ln) (h : H), p.length < 140737488355328 -> q.length < 140737488355328 -> ∃ h', B [.str p, .str q] h = some (.bool (nQ p q), h') /\ aH h h'
theorem aJL {E : bJ} (hS : bL E 137 jE) (hQ : bL E 144 aRZ) : nP (S98 E) := by
 intro p q h hp hq; obtain ⟨B, hB, sB⟩ := hS.call; obtain ⟨C, hC, sC⟩ := hQ.call; obtain ⟨v, h1, f1, f2, f3⟩ := sB p h hp; obtain ⟨w, h2, g1, g2, g3⟩ := sB q h1 hq; obtain ⟨_, _, o3, _⟩ := iJ p; have f2' := f2.grown g3; refine ⟨h2, ?_, f3.trans g3⟩; show aUe E (.str p) (.str q) h = _; unfold aUe; simp only [hB, f1, g1, aB, aL, aK, aA, cB]; unfold nQ; cases decide (eO p = 0) with
 | false => rfl
 | true =>
   simp only [gT, cB, aA, bZ, Bool.true_and]; cases decide (eO q = 0) with
   | false => rfl
   | true =>
     simp only [gT, g2.len, f2'.len, bH, cW, aA, bZ, Bool.true_and]; by_cases hl : (aT p).length < (aT q).length
     · obtain ⟨u, c1, c2⟩ := g2.cutTo (m := (aT p).length) (by rw [bH]; omega) .i64
       rw [qD] at c2; simp only [decide_eq_true hl, gT, f2'.len, bH, aA, c1, hC, sC v u _ _ h2 f2' c2 (by omega), aB, bZ, Bool.true_and]
       congr 3
       simp [eq_comm]
     · simp only [decide_eq_false hl, wJ, eD, aA, bT, Bool.false_and]
theorem aEX {E : bJ} {v w : DV} {h : H} {a b : List (Ln)} (hv : dE h v (cU a)) (hw : dE h w (cU b)) (hl : a.length < 1000000000) : ∀ (s p t q : List (Ln)) (m : Nat), a = p ++ s -> b = q ++ t -> p.length = q.length -> s.length <= t.length ->
   aDc E v w (m + (s.length + 1)) (ii p.length) h = some (.bool (decide (t.take s.length = s)), h) := by
 intro s
 induction s with
 | nil =>
   intro p t q m ea eb hpq hst; show aGM E _ _ (aDc E _ _ m) _ h = _; unfold aGM; have d : decide (p.length < a.length) = false := by rw [ea]; simp
   rw [hv.len, bH, aA, aP, aA, d, aC]; simp; rfl
 | cons x s ih =>
   intro p t q m ea eb hpq hst; cases t with
   | nil => simp at hst
   | cons y t =>
     show aGM E _ _ (aDc E _ _ (m + (s.length + 1))) _ h = _; unfold aGM; have d : decide (p.length < a.length) = true := by rw [ea]; simp
     have hlt : p.length < a.length := by rw [ea]; simp
     obtain ⟨b1, o1, f1, f2⟩ := hv.at (j := p.length) (kC (s := x) (by rw [ea]; simp)) .i64
     obtain ⟨b2, o2, g1, g2⟩ := hw.at (j := p.length) (kC (s := y) (by rw [eb, hpq]; simp)) .i64
     rw [hv.len, bH, aA, aP, aA, d, aD, f1, aA, f2, aA, g1, aA, g2, aA, lF, aA, List.length_cons, aOu, aDD]; cases hxy : decide (x = y) with
     | false => rfl
     | true =>
       show bK (.bool false) _ _ = _; rw [aC, eZ (by omega), aA, Bool.true_and]
       have := ih (p ++ [x]) t (q ++ [y]) m (by rw [ea]; simp) (by rw [eb]; simp) (by simp [hpq]) (by simpa using hst)
       rw [List.length_append] at this; exact this
theorem aJr {E : bJ} (hS : bL E 154 jE) : nP (bAl E) := by
 intro p q h hp hq; obtain ⟨B, hB, sB⟩ := hS.call; obtain ⟨v, h1, f1, f2, f3⟩ := sB p h hp; obtain ⟨w, h2, g1, g2, g3⟩ := sB q h1 hq; obtain ⟨_, _, o3, _⟩ := iJ p; have f2' := f2.grown g3; refine ⟨h2, ?_, f3.trans g3⟩; show aLq E (.str p) (.str q) h = _; unfold aLq; simp only [hB, f1, g1, aB, aL, aK, aA, bC]; unfold nQ; cases decide (eO p = 0) with
 | false => rfl
 | true =>
   simp only [Bool.not_true, dQ, bC, aA, bT, Bool.true_and]; cases decide (eO q = 0) with
   | false => rfl
   | true =>
     simp only [Bool.not_true, dQ, g2.len, f2'.len, bH, xV, aA, bT, Bool.true_and]; by_cases hl : (aT p).length < (aT q).length
     · rw [decide_eq_false (show ¬ (aT q).length <= (aT p).length by omega), aC]
       have := aEX (E := E) f2' g2 (by omega) (aT p) [] (aT q) [] (aQ - ((aT p).length + 1)) rfl rfl rfl (by omega)
       rw [show aQ - ((aT p).length + 1) + ((aT p).length + 1) = aQ from by unfold aQ; omega] at this
       rw [decide_eq_true hl, Bool.true_and]; exact this
     · rw [decide_eq_true (show (aT q).length <= (aT p).length by omega), aD, decide_eq_false hl, Bool.false_and]
end Go.Proofs.YtmafhiogonejfaaGreatDoor
