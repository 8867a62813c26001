/- Specs. No condition beyond the theorems' own. -/
import Derived.Test.YthpciaidbgjoeaaGreatV2
set_option linter.unusedVariables false
set_option linter.unusedSimpArgs false
namespace Go.Proofs.YthpciaidbgjoeaaGreat
open Go.DI
structure Mv (S : List cZ) (sv lb : Nat) (A : Re) (g : H) (A' : Re) (g' : H) : Prop where
 off : fJ (λ c => rng Ob A c \/ svF S sv lb c) g g'
 new : ∀ c, rng Ob A' c -> rng Ob A c \/ g.size <= c
section
variable {S : List cZ} {sv lb : Nat} {A A' A'' : Re} {g g' g'' : H}
theorem Mv.refl (S : List cZ) (sv lb : Nat) (A : Re) (g : H) : Mv S sv lb A g A g := ⟨fJ.refl _ _, λ _ h => .inl h⟩
theorem Mv.trans (a : Mv S sv lb A g A' g') (b : Mv S sv lb A' g' A'' g'') : Mv S sv lb A g A'' g'' :=
 ⟨⟨Nat.le_trans a.off.size b.off.size, λ c hc hn => by
   rw [b.off.get c (Nat.lt_of_lt_of_le hc a.off.size) λ h => by
     rcases h with h | h
     · rcases a.new c h with h | h
       · exact hn (.inl h)
       · omega
     · exact hn (.inr h), a.off.get c hc hn]⟩, λ c h => by
   rcases b.new c h with h | h
   · exact a.new c h
   · exact .inr (Nat.le_trans a.off.size h)⟩
theorem Mv.stp (s : xH Ob A g A' g') : Mv S sv lb A g A' g' := ⟨s.off.weak λ c _ h => .inl h, λ c h => rY s h⟩
theorem Mv.rd (k : fJ (rng Ob A) g g') : Mv S sv lb A g A g' := ⟨k.weak λ c _ h => .inl h, λ c h => .inl h⟩
theorem Mv.put (k : fJ (svF S sv lb) g g') : Mv S sv lb A g A g' := ⟨k.weak λ c _ h => .inr h, λ c h => .inl h⟩
theorem Mv.grown (k : aX g g') : Mv S sv lb A g A g' := ⟨k.off _, λ c h => .inl h⟩
theorem Mv.keep (a : Mv S sv lb A g A' g') {c : Nat} (hc : c < g.size) (h1 : ¬ rng Ob A c) (h2 : ¬ svF S sv lb c) : g'.get c = g.get c /\ c < g'.size /\ ¬ rng Ob A' c :=
 ⟨a.off.get c hc λ h => h.elim h1 h2, Nat.lt_of_lt_of_le hc a.off.size, λ h => by
   rcases a.new c h with h | h
   · exact h1 h
   · omega⟩
end
def kS (X : List eX) (ls : Nat -> List Fr) (dn lo : Nat -> Bool) : Prop := ∀ i, i < 5 -> ∃ x, X[i]? = some x /\ x.dn = dn i /\ x.ls = lo i /\ aBN x (ls i)
def rL (ls : Nat -> List Fr) (s : Nat) (e : Fr) : Nat -> List Fr := λ i => if i = s then ls s ++ [e] else ls i
section
variable {V : Vl} {Es' : aQ} {hs h' : H} {a m : Nat} {A : Re} {g g' : H} {pa pm sv lb : Nat} {S : List cZ} {X X' : List eX} {ls : Nat -> List Fr} {dn lo : Nat -> Bool}
theorem iX.rd (r : iX V hs a m A g pa pm sv lb S X) (k : fJ (rng Ob A) g g') (r' : HR V Ob A hs g') : iX V hs a m A g' pa pm sv lb S X :=
 ⟨r', r.a, r.m, r.s, r.q.off k λ c hc hr => r.d c hr hc, r.d⟩
theorem iX.gc (r : iX V hs a m A g pa pm sv lb S X) : iX V (gcH 47 hs) a m A g pa pm sv lb S X := ⟨bPx r.hr 47, r.a, r.m, r.s, r.q, r.d⟩
theorem aFa {E : aQ} (hE : fZ V Eb E) {id i s : Nat} (R : aKB hs id i s) (r : iX V hs 47 46 A g pa pm sv lb S X) :
   W (aB E 62 [.ptr pa 0, .int .i64 (.ofNat id), .int .i64 (.ofNat i)] g) λ v g' => v = .tup [.int .i64 (.ofNat s), .bool true] /\ fJ (rng Ob A) g g' /\ iX V hs 47 46 A g' pa pm sv lb S X := by
 obtain ⟨h', e1, e2⟩ := R; obtain ⟨A', w, g', f1, f2, f3, f4, f5⟩ := aIX hE r.hr (args' := [.ptr pa 0, .int .i64 (.ofNat id), .int .i64 (.ofNat i)]) (aE.2 ⟨_, _, gZ r.a, rfl, rfl⟩) e1 e2; have : w = .tup [.int .i64 (.ofNat s), .bool true] := by
   rw [iG _ A' _ (by rfl)] at f5; cases f5; rfl
 subst this; exact ⟨_, g', f1, rfl, f2, r.rd f2 f3⟩
theorem aWE {E : aQ} (hE : fZ V Eb E) (hp : aB E 63 = oG) {id i s : Nat} {body : Ln} (R : aKB hs id i s) (st : Stg hs 47 46) (r : iX V hs 47 46 A g pa pm sv lb S X) (hS : S.length = 5) (hX : kS X ls dn lo) (hs5 : s < 5) (hd : dn s = false) (hl : lo s = false) (hlen : (ls s).length < 10) (hn : lI (ls s) id i = none) (hid : id < 2147483648) (hi : i < 8) (ok : aP body = true) (hb : body.length <= 512) :
   W (S31 E [.ptr pa 0, .int .i64 (.ofNat id), .int .i64 (.ofNat i), .str body] g) λ v g' => v = .int .i64 (.ofNat 0) /\ Mv S sv lb A g A g' /\ ∃ X', iX V hs 47 46 A g' pa pm sv lb S X' /\ kS X' (rL ls s ⟨id, i, body⟩) dn lo := by
 obtain ⟨B, hB⟩ : ∃ B, S[s]? = some B := ⟨_, List.getElem?_eq_getElem (by omega)⟩
 obtain ⟨x, x1, x2, x3, x4⟩ := hX s hs5; obtain ⟨_, gg, e1, rfl, k1, r1⟩ := aFa hE R r; have l1 := r1.c0 st.c0; obtain ⟨_, gh, e2, rfl, k2, x', a1, a2, a3, a4⟩ := aUc r1.q hB x1 (x2.trans hd) (x3.trans hl) x4 hlen hn hid hi ok hb; show W (aRz E (.ptr pa 0) (.int .i64 (.ofNat id)) (.int .i64 (.ofNat i)) (.str body) g) _; unfold aRz
 repeat' (first | (with_reducible first | refine sT ?_ | refine sF ?_ | refine g1 ?_ | refine g2 ?_ | refine g3 ?_ | refine g4 ?_) | refine sW e1 ?_ | ((with_reducible apply sV); first | exact l1 | exact dF) | exact W.ret ⟨rfl, rfl⟩ | with_reducible refine W.ret ?_)
 rw [hp]; refine sW e2 ?_
 repeat' (first | (with_reducible first | refine sT ?_ | refine sF ?_ | refine g1 ?_ | refine g2 ?_ | refine g3 ?_ | refine g4 ?_) | ((with_reducible apply sV); exact dF) | exact W.ret ⟨rfl, rfl⟩ | with_reducible refine W.ret ?_)
 refine ⟨rfl, (Mv.rd k1).trans (.put k2), _, r1.put k2 a4, λ j hj => ?_⟩
 unfold rL; by_cases e : j = s
 · subst e; exact ⟨x', by rw [List.getElem?_set, if_pos rfl, if_pos (List.getElem?_eq_some_iff.1 x1).1], a2.trans hd.symm, a3.trans hl.symm, by rw [if_pos rfl]; exact a1⟩
 · obtain ⟨y, y1, y2, y3, y4⟩ := hX j hj; exact ⟨y, by rw [List.getElem?_set, if_neg (λ h => e h.symm)]; exact y1, y2, y3, by rw [if_neg e]; exact y4⟩
theorem uT {E : aQ} (hE : fZ V Es' E) (r : iX V hs a m A g pa pm sv lb S X) {cl kind n : Nat} {xs xs' : List DV} {v : DV} (hf : aJb Es' cl kind xs (.ptr a 0) hs = some (v, h')) (hn : xs.length = n) (hx : ∀ A, gQ V A xs = some xs') :
   W (aB E 29 [.ptr pa 0, .int .i64 (.ofNat cl), .int .i64 (.ofNat kind), .slc g.size 0 n n false] (g.push (.blk ⟨n, 1, false, true, Tr.ofL xs'⟩))) λ w g' => ∃ A', rl V A' v = some w /\ Mv S sv lb A g A' g' /\ iX V h' a m A' g' pa pm sv lb S X := by
 unfold aJb at hf; rw [H.pushK_eq, hn] at hf; obtain ⟨r1, s1, e1⟩ := r.hr.push (o := .blk ⟨n, 1, false, true, Tr.ofL xs⟩) (q := .blk ⟨n, 1, false, true, Tr.ofL xs'⟩) ⟨rfl, rfl, rfl, rfl, nZ (hx _)⟩; obtain ⟨A', w, g', f1, f2, f3, f4⟩ := pF hE r1 (args' := [.ptr pa 0, .int .i64 (.ofNat cl), .int .i64 (.ofNat kind), .slc g.size 0 n n false])
   (aE.2 ⟨_, _, gZ (s1.le _ _ r.a), aE.2 ⟨_, _, rfl, aE.2 ⟨_, _, rfl, aE.2 ⟨_, _, fQ e1, rfl, rfl⟩, rfl⟩, rfl⟩, rfl⟩) hf
 exact ⟨w, g', f1, A', f4, .stp (s1.trans f2), r.part (s1.trans f2) f3⟩
theorem iX.lt2 (r : iX V hs a m A g pa pm sv lb S X) {c : Nat} (hc : rng Ob A c \/ svF S sv lb c) : c < g.size := by
 rcases hc with h | h
 · exact oS r.hr h
 · exact r.q.in_ h
def aKR (ls : Nat -> List Fr) (j i : Nat) : Prop := ∀ k, i <= k -> k < 4 -> lI (ls ((k + j) % 4)) j k = none /\ (ls ((k + j) % 4)).length < 10
def xA (ls : Nat -> List Fr) (j : Nat) (L : List (Ln)) (i : Nat) : Nat -> List Fr := Nat.rec (motive := λ _ => Nat -> List Fr) ls (λ i ih => rL ih ((i + j) % 4) ⟨j, i, L.getD i []⟩) i
theorem aSG {l : List Fr} {st ix st' ix' : Nat} {b : Ln} (h : st' ≠ st \/ ix' ≠ ix) : lI (l ++ [⟨st', ix', b⟩]) st ix = lI l st ix := by
 unfold lI; rw [List.find?_append]; have : List.find? (λ e => decide (e.st = st) && decide (e.ix = ix)) [(⟨st', ix', b⟩ : Fr)] = none := by
   rw [List.find?_eq_none]; intro e he; rw [List.mem_singleton] at he; subst he; rcases h with h | h
   · simp [h]
   · simp [h]
 rw [this, Option.or_none]
theorem aBU {E F : aQ} (hE : fZ V Eb E) (hF : fZ V Eb F) (hset : ∀ a b, aB E 31 a b = S31 F a b) (hp : aB F 63 = oG) {L : List (Ln)} (hL : L.length = 4) (hok : ∀ t ∈ L, aP t = true /\ t.length <= 512) (hS : S.length = 5) (hd : ∀ i, i < 4 -> dn i = false /\ lo i = false) {j : Nat} (hj : j < 6) (hlk : aKR ls j 0)
   {hB hC : H} {l : DV} (stB : Stg hB 47 46) (hR : ∀ i, i < 4 -> aKB hB j i ((i + j) % 4)) (hcm : aJb Eb 0 2 [.int .i64 (.ofNat j)] (.ptr 47 0) hB = some (.tup [.int .i64 (.ofNat 0), l], hC)) {n0 : Nat} {v : DV} :
   ∀ (k i f : Nat) (X : List eX) (g : H), i + k = 4 -> iX V hB 47 46 A g pa pm sv lb S X -> kS X (xA ls j L i) dn lo -> (∀ c, rng Ob A c \/ svF S sv lb c -> c < n0) -> bM n0 g v (dR L) ->
   W (aEQ E (.ptr pa 0) (.int .i64 (.ofNat 0)) (.int .i64 (.negSucc 0)) (.int .i64 (.ofNat j)) v (.int .i64 (.ofNat 4)) (f + (k + 1)) (.int .i64 (.ofNat (i + 1))) (.int .i64 (.ofNat 0)) (.int .i64 (.ofNat i)) g) λ w g' => w = .tup [.int .i64 (.ofNat j), .int .i64 (.ofNat 0)] /\ ∃ A' X', Mv S sv lb A g A' g' /\ iX V hC 47 46 A' g' pa pm sv lb S X' /\ kS X' (xA ls j L 4) dn lo := by
 have hlk2 : ∀ i, i <= 4 -> aKR (xA ls j L i) j i := by
   intro i
   induction i with
   | zero => intro _; exact hlk
   | succ i ih =>
     intro hi k hk hk4; have := ih (by omega) k (by omega) hk4
     show lI (rL (xA ls j L i) ((i + j) % 4) ⟨j, i, L.getD i []⟩ ((k + j) % 4)) j k = none /\ _; have ne : (k + j) % 4 ≠ (i + j) % 4 := by omega
     have e : xA ls j L (i + 1) ((k + j) % 4) = xA ls j L i ((k + j) % 4) := by
       show rL (xA ls j L i) ((i + j) % 4) ⟨j, i, L.getD i []⟩ ((k + j) % 4) = _; unfold rL; rw [if_neg ne]
     unfold rL; rw [if_neg ne, e]; exact this
 intro k
 induction k with
 | zero =>
   intro i f X g hk r hH hn0 o; have hi : i = 4 := by omega
   subst hi; show W (bAx E _ _ _ _ _ _ (aEQ E _ _ _ _ _ _ f) _ _ _ g) _; unfold bAx bDP
   repeat' (first | (with_reducible first | refine sT ?_ | refine sF ?_ | refine g1 ?_ | refine g2 ?_ | refine g3 ?_ | refine g4 ?_) | ((with_reducible apply sV); first | exact aOS | exact dF) | exact W.ret ⟨rfl, rfl⟩ | with_reducible refine W.ret ?_)
   refine sL1 rfl ?_; obtain ⟨w, g', e1, A', e2, e3, e4⟩ := uT hE r (n := 1) (xs' := [.int .i64 (.ofNat j)]) hcm rfl (λ A => rfl)
   have := qF e2; obtain ⟨l, q1, rfl⟩ := this; obtain ⟨a, _, q2, q3, rfl⟩ := aE.1 q1; obtain ⟨b, _, q4, q5, rfl⟩ := aE.1 q3; cases q5; have y1 := cL q2; subst y1; refine sW e1 ?_
   repeat' (first | (with_reducible first | refine sT ?_ | refine sF ?_ | refine g1 ?_ | refine g2 ?_ | refine g3 ?_ | refine g4 ?_) | ((with_reducible apply sV); exact dF) | exact W.ret ⟨rfl, rfl⟩ | with_reducible refine W.ret ?_)
   exact ⟨rfl, A', X, e3, e4, hH⟩
 | succ k ih =>
   intro i f X g hk r hH hn0 o; have hi : i < 4 := by omega
   obtain ⟨body, hb⟩ : ∃ body, L[i]? = some body := ⟨_, List.getElem?_eq_getElem (by omega)⟩
   obtain ⟨ok, hl⟩ := hok body (List.mem_of_getElem? hb); have hg : L.getD i [] = body := by rw [List.getD_eq_getElem?_getD, hb]; rfl
   obtain ⟨b, c1, c2⟩ := o.load1 (j := i) (x := .str body) (by unfold dR; rw [List.getElem?_map, hb]; rfl) .i64
   have hk2 := hlk2 i (by omega) i (Nat.le_refl _) hi
   have hs4 : (i + j) % 4 < 4 := Nat.mod_lt _ (by decide)
   obtain ⟨_, gh, e1, rfl, k1, X', a1, a2⟩ := aWE hF hp (hR i hi) stB r hS hH (by omega) (hd _ hs4).1 (hd _ hs4).2 hk2.2 hk2.1 (by omega) (by omega) ok hl
   show W (bAx E _ _ _ _ _ _ (aEQ E _ _ _ _ _ _ (f + (k + 1))) _ _ _ g) _; unfold bAx bDN bDO
   repeat' (first | (with_reducible first | refine sT ?_ | refine sF ?_ | refine g1 ?_ | refine g2 ?_ | refine g3 ?_ | refine g4 ?_) | ((with_reducible apply sV); first | exact c1 | exact c2 | exact aOS | exact dF) | exact W.ret ⟨rfl, rfl⟩ | with_reducible refine W.ret ?_)
   rw [hset]; refine sW e1 ?_
   repeat' (first | (with_reducible first | refine sT ?_ | refine sF ?_ | refine g1 ?_ | refine g2 ?_ | refine g3 ?_ | refine g4 ?_) | ((with_reducible apply sV); exact dF) | exact W.ret ⟨rfl, rfl⟩ | with_reducible refine W.ret ?_)
   rw [<- hg] at a2; refine W.mono (ih (i + 1) f X' gh (by omega) a1 a2 hn0 (aCV o k1.off hn0)) ?_
   rintro w g' ⟨rfl, A', X'', b1, b2, b3⟩
   exact ⟨rfl, A', X'', k1.trans b1, b2, b3⟩
theorem aWD {E F G : aQ} {N : Nat -> Nat} (hE : fZ (Vt N) Eb E) (hF : fZ (Vt N) Eb F) (hmo : ∀ a b, aB E 28 a b = S28 G a b) (hen : fK E 30 aZH) (hset : ∀ a b, aB E 31 a b = S31 F a b) (hp : aB F 63 = oG) {text : Ln} (ok : aP text = true) (h1 : 1 <= text.length) (h2 : text.length <= 1536) (hS : S.length = 5) (hd : ∀ i, i < 4 -> dn i = false /\ lo i = false) {j : Nat} (hj : j < 6) (hNj : N j = text.length) (hlk : aKR ls j 0) (w : Wr j hs h') (r : iX (Vt N) hs 47 46 A g pa pm sv lb S X) (hX : kS X ls dn lo) :
   W (S9 E [.ptr pa 0, .int .i64 (.ofNat 0), .str text, .int .i64 (.negSucc 0)] g) λ w g' => w = .tup [.int .i64 (.ofNat j), .int .i64 (.ofNat 0)] /\ ∃ A' X', Mv S sv lb A g A' g' /\ iX (Vt N) h' 47 46 A' g' pa pm sv lb S X' /\ kS X' (xA ls j (tT text 4) 4) dn lo := by
 have hne : cF (.str text) (.str []) = some (.bool false) := by
   cases text with
   | nil => simp at h1
   | cons a t => rfl
 obtain ⟨bb, op, hB, l, f1, f2, f3, f9, f4, hC, f5, rfl⟩ := w.run; obtain ⟨wd, lw, yw⟩ := r.cell w.wd; have := cL yw; subst this; have em : W (S28 G [.ptr pa 0] g) λ v g' => v = .int .i64 (.ofNat 1536) /\ g' = g := by
   show W (aGh G (.ptr pa 0) g) _; unfold aGh
   repeat' (first | (with_reducible first | refine sT ?_ | refine sF ?_ | refine g1 ?_ | refine g2 ?_ | refine g3 ?_ | refine g4 ?_) | ((with_reducible apply sV); first | exact lw | exact dF) | exact W.ret ⟨rfl, rfl⟩ | with_reducible refine W.ret ?_)
 obtain ⟨_, gx, em, rfl, rfl⟩ := em; show W (aTz E (.ptr pa 0) (.int .i64 (.ofNat 0)) (.str text) (.int .i64 (.negSucc 0)) gx) _; unfold aTz
 repeat' (first | (with_reducible first | refine sT ?_ | refine sF ?_ | refine g1 ?_ | refine g2 ?_ | refine g3 ?_ | refine g4 ?_) | rw [hmo] | refine sW em ?_ | ((with_reducible apply sV); first | exact hne | exact bHw | exact cQ _ | exact dF) | exact W.ret ⟨rfl, rfl⟩ | with_reducible refine W.ret ?_)
 refine sL1 (x := .int .i64 (.ofNat text.length)) rfl ?_; obtain ⟨w, g1', e1, A', e2, e3, e4⟩ := uT hE r (n := 1) (xs' := [.int .i64 (.ofNat text.length)]) f1 rfl (λ A => aE.2 ⟨_, _, by rw [<- hNj]; exact aBZ hj A, rfl, rfl⟩)
 obtain ⟨l, q1, rfl⟩ := qF e2; obtain ⟨a, _, q2, q3, rfl⟩ := aE.1 q1; obtain ⟨b, _, q4, q5, rfl⟩ := aE.1 q3; cases q5; have y1 := cL q2; subst y1; obtain ⟨c, hc, rfl⟩ := fV q4; obtain ⟨w0, l0, v0⟩ := hld e4.hr hc f2; have y2 := cL v0; subst y2; have e4' := e4.gc; obtain ⟨w4, l4, v4⟩ := e4'.cell f9; have y4 := cL v4; subst y4; refine sW e1 ?_
 repeat' (first | (with_reducible first | refine sT ?_ | refine sF ?_ | refine g1 ?_ | refine g2 ?_ | refine g3 ?_ | refine g4 ?_) | ((with_reducible apply sV); first | exact aMc (Nat.le_of_ble_eq_true rfl) | exact l0 | exact l4 | exact dF) | exact W.ret ⟨rfl, rfl⟩ | with_reducible refine W.ret ?_)
 obtain ⟨BE, bE, sE⟩ := hen.call; have hN4 : jQ text 4 <= 512 := by unfold jQ eP; omega
 obtain ⟨v, g2', f6, f7, f8⟩ := sE text 4 g1' ok (by omega) (by decide) (by decide) hN4
 obtain ⟨L1, L2⟩ := aOU (s := text) (w := 4) (by decide) hN4 ok
 refine sC bE f6 ?_; have hlen : aO v = some (.int .i64 (.ofNat 4)) := by
   rw [f7.len]; unfold dR; rw [List.length_map, L1]
 repeat' (first | (with_reducible first | refine sT ?_ | refine sF ?_ | refine g1 ?_ | refine g2 ?_ | refine g3 ?_ | refine g4 ?_) | ((with_reducible apply sV); first | exact hlen | exact dF) | exact W.ret ⟨rfl, rfl⟩ | with_reducible refine W.ret ?_)
 have k8 := f8.grown; have e5 : iX (Vt N) (gcH 47 hB) 47 46 A' g2' pa pm sv lb S X := ⟨(tD e4'.hr k8).1, e4'.a, e4'.m, e4'.s, e4'.q.grown k8, e4'.d⟩; have hr := aBU hE hF hset hp (L := tT text 4) L1 (λ t ht => ⟨(L2 t ht).1, by rw [(L2 t ht).2]; exact hN4⟩) hS hd hj hlk f3 f4 f5 (n0 := g1'.size) 4 0 (aK - 5) X g2' rfl e5 hX (λ c hc => e4.lt2 hc) f7
 rw [show aK - 5 + (4 + 1) = aK from by unfold aK; omega] at hr
 refine W.mono hr ?_
 rintro w g' ⟨rfl, A2, X', b1, b2, b3⟩
 exact ⟨rfl, A2, X', (e3.trans (.grown k8)).trans b1, b2.gc, b3⟩
end
end Go.Proofs.YthpciaidbgjoeaaGreat
