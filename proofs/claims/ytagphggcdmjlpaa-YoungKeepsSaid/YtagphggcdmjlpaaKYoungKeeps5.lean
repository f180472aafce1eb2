/- Texts of this proof, joined: Y11, Y12, Y13, Y14, Y15, Y16, Y18, Y19, Y23, Y24, Y26, H16, Y25, Y28, Y27, Y29. -/
import Derived.Test.YtagphggcdmjlpaaKYoungKeeps4
import Derived.Laws.Strings
set_option linter.unusedSimpArgs false
set_option linter.unusedVariables false
set_option maxHeartbeats 1000000
/- The copier's parts: a contract. -/
namespace Go.Proofs.Ytagphggcdmjlpaa.P
open Go.Ab Go.Proofs.Ytagphggcdmjlpaa.T

/-- May a word be turned? -/
def wordOK (g : List Int) (low : Int) (S : CS) (w : Int) : Prop := (!(placeS w).2.1 || decide ((placeS w).1 < low)) = false → lk S.2 (placeS w).1 = none → (putS S.1 (atS g (placeS w).1).1).2.2 = 0

theorem wordC_same {g : List Int} {low w : Int} {S : CS} (h : (!(placeS w).2.1 || decide ((placeS w).1 < low)) = true) : wordC g low S w = (w, S) := by
  unfold wordC; rw [if_pos h]
theorem wordC_old {g : List Int} {low w t : Int} {S : CS} (h : (!(placeS w).2.1 || decide ((placeS w).1 < low)) = false) (hl : lk S.2 (placeS w).1 = some t) : wordC g low S w = ((wordS 4 t).1, S) := by
  unfold wordC; rw [if_neg (by rw [h]; exact Bool.false_ne_true), hl]
theorem wordC_new {g : List Int} {low w : Int} {S : CS} (h : (!(placeS w).2.1 || decide ((placeS w).1 < low)) = false) (hl : lk S.2 (placeS w).1 = none) : wordC g low S w = ((wordS 4 S.1.length).1, (putS S.1 (atS g (placeS w).1).1).1, S.2 ++ [((placeS w).1, (S.1.length : Int))]) := by
  unfold wordC; rw [if_neg (by rw [h]; exact Bool.false_ne_true), hl]

theorem copFin {g : List Int} {low w z : Int} {S T : CS} (W : Int × CS) (e : W = (z, T)) (h : ACalls Try.prog 98 [.ptr 0 0 0, wD w] (copA g low S) (fun r obs' => r = wD z ∧ obs' = copB g low T)) :
    ACalls Try.prog 98 [.ptr 0 0 0, wD w] (copA g low S) (fun r obs' => r = wD W.1 ∧ obs' = copB g low W.2) := by
  subst e; exact h

theorem wordCc (g : List Int) (low w : Int) (S : CS) (hg : g.length ≤ maxLen) (hok : ∀ w, w ∈ g → WordOk w) (hS : S.1.length ≤ maxLen) (h : wordOK g low S w) :
    ACalls Try.prog 98 [.ptr 0 0 0, wD w] (copA g low S) (fun r obs' => r = wD (wordC g low S w).1 ∧ obs' = copB g low (wordC g low S w).2) := by
  have hpl := placeW w
  cases hc : !(placeS w).2.1 || decide ((placeS w).1 < low) with
  | true =>
    exact copFin _ (wordC_same hc) (wordSame g low w _ _ _ S hpl hc)
  | false =>
    have hIs : (placeS w).2.1 = true := by
      cases hI : (placeS w).2.1
      · rw [hI] at hc; exact absurd hc (by rw [Bool.not_false, Bool.true_or]; decide)
      · rfl
    have hX : decide ((placeS w).1 < low) = false := by rw [hIs, Bool.not_true, Bool.false_or] at hc; exact hc
    rw [hIs] at hpl
    cases hlk : lk S.2 (placeS w).1 with
    | some t =>
      have e := wordC_old (g := g) hc hlk
      have h3 := wordOld g low w _ t _ S hpl hX hlk
      exact copFin _ e h3
    | none =>
      have e := wordC_new (g := g) hc hlk
      have hat := at_ g (placeS w).1 hg hok
      have hpu := h hc hlk
      generalize atS g (placeS w).1 = A at hat hpu e
      have h3 := wordNew g low w _ _ A.2 S A.1 hpl hX hlk hat hS hpu
      exact copFin _ e h3

/-- Parts are turned, one behind the other. -/
def partF (g : List Int) (low : Int) : CS → Nat → List Int → CS
  | S, _, [] => S
  | S, k, w :: l => partF g low ((wordC g low S w).2.1.set k (wordC g low S w).1, (wordC g low S w).2.2) (k + 1) l

def partOK (g : List Int) (low : Int) : CS → Nat → List Int → Prop
  | S, _, [] => S.1.length ≤ 4000
  | S, k, w :: l => wordOK g low S w ∧ S.1.length ≤ 4000 ∧ k < (wordC g low S w).2.1.length ∧ (wordC g low S w).2.1.length ≤ 4000 ∧ partOK g low ((wordC g low S w).2.1.set k (wordC g low S w).1, (wordC g low S w).2.2) (k + 1) l


set_option maxRecDepth 100000 in
theorem partsCc (g : List Int) (low : Int) (a first : Nat) (S : CS) (o : Obj) (e : Int) (hg : g.length ≤ maxLen) (hok : ∀ w, w ∈ g → WordOk w) (hokS : ∀ w, w ∈ S.1 → WordOk w)
    (hS : S.1.length ≤ 4000) (hao : atS S.1 a = (o, e)) (hn : a + (putS [] o).1.length = first + o.parts.length) (hfl : first + o.parts.length ≤ 4000) (hp : partOK g low S first o.parts) :
    ACalls Try.prog 97 [.ptr 0 0 0, iD a] (copA g low S) (fun r obs' => r = iD ((a + (putS [] o).1.length : Nat) : Int) ∧ obs' = copB g low (partF g low S first o.parts)) := by
  have hat := atO_ S.1 a (by simp [maxLen]; omega) hokS
  rw [hao] at hat
  have hpu0 : ACallP Try.prog 17 [.nil, objD o] _ := ACallP.soft (put [] o (by simp)) rfl
  generalize putS [] o = X at hpu0 hn
  obtain ⟨x, y, e2⟩ := X
  simp only at hpu0 hn hat ⊢
  obtain ⟨R0, hR0⟩ : ∃ R0, R0 = partF g low S first o.parts := ⟨_, rfl⟩
  rw [← hR0]
  have h1 : IntKind.i64.wrap ((a : Int) + (x.length : Int)) = ((a + x.length : Nat) : Int) := by rw [Go.Ab.wrap_small (by omega) (by omega)]; rfl
  have h2 : IntKind.i64.wrap (((a + x.length : Nat) : Int) - (o.parts.length : Int)) = (first : Int) := by rw [Go.Ab.wrap_small (by omega) (by omega)]; omega
  refine acallm_fn [4] Try.func97 rfl rfl Try.ntmps97 (by simp) (by simp) fun R hR => ?_
  (refine awp_reg_seq [0, 1] fun K hK => ?_; (repeat' ((refine al_r rfl fun K' hK' => ?_); (repeat (simp only [go_sem, simprocAttr, List.length_map])); ((refine hK' _ _ ?_) <;> clear hK' K'))); all_goals (refine al_nil ?_; (simp only [go_sem, simprocAttr, List.length_map]); refine hK _ ?_; clear hK K))
  (refine awp_mv [0, 1] [0, 9, 2, 1] (by decide) (kept3 rfl (by simp)) ?_; simp only [go_sem, simprocAttr, List.length_map])
  (refine awp_reg_seq [0, 1, 5] fun K hK => ?_; (repeat' ((first | refine al_r rfl fun K' hK' => ?_ | refine al_d rfl fun K' hK' => ?_); (repeat (first | (simp only [go_sem, simprocAttr, List.length_map]) | refine AS.mk ?_)); (first | ((first | refine hK' _ _ ?_ | refine ⟨?_, hK' _ _ ?_⟩) <;> clear hK' K' <;> (first | (show alist _ _ _ _ _ _; skip) | (simp; done))) | ((show AC _ _ (D.fn 19 _) _ _); refine acall_m (f := 19) [3] Try.call19 hat rfl rfl (by decide) (by simp) ?_; rintro r obs' ⟨rfl, rfl⟩; refine ⟨by simp, ?_⟩; (simp only [go_sem, simprocAttr, List.length_map]); refine hK' _ _ ?_; clear hK' K')))); all_goals (refine al_nil ?_; (simp only [go_sem, simprocAttr, List.length_map]); refine hK _ ?_; clear hK K))
  (refine awp_frz [0, 1, 5] [0, 1, 2, 3] (by decide) (by (exact kept012)) ?_; simp only [go_sem, simprocAttr, List.length_map])
  (refine awp_reg_seq [0, 1, 5, 7] fun K hK => ?_; (repeat' ((refine al_r rfl fun K' hK' => ?_); (repeat (simp only [go_sem, simprocAttr, List.length_map])); (first | ((refine hK' _ _ ?_) <;> clear hK' K') | ((show AC _ _ (D.fn 17 _) _ _); refine acall_p (f := 17) (e := rfl) (hr := rfl) (k := hK' _ _ ?_) (hc := Try.call17) (h := hpu0); clear hK' K')))); all_goals (refine al_nil ?_; (simp only [go_sem, simprocAttr, List.length_map]); refine hK _ ?_; clear hK K))

  (refine awp_reg_seq [0, 1, 5, 7, 10] fun K hK => ?_; (repeat' ((refine al_r rfl fun K' hK' => ?_); (repeat (simp only [go_sem, simprocAttr, List.length_map, h1, h2])); ((first | refine hK' _ _ ?_ | refine ⟨?_, hK' _ _ ?_⟩) <;> clear hK' K' <;> (first | (show alist _ _ _ _ _ _; skip) | (intro s hs; cases hs; done))))); all_goals (refine al_nil ?_; (simp only [go_sem, simprocAttr, List.length_map, h1, h2]); refine hK _ ?_; clear hK K))
  refine awp_seq_k fun K hK => ?_
  (refine awp_reg_seq [0, 1, 7, 10, 38, 39, 40] fun K hK => ?_; (repeat' ((refine al_r rfl fun K' hK' => ?_); (repeat (simp only [go_sem, simprocAttr, List.length_map, h1, h2])); ((first | refine hK' _ _ ?_ | refine ⟨?_, hK' _ _ ?_⟩) <;> clear hK' K' <;> (first | (show alist _ _ _ _ _ _; skip) | (intro s hs; cases hs; done))))); all_goals (refine al_nil ?_; (simp only [go_sem, simprocAttr, List.length_map, h1, h2]); refine hK _ ?_; clear hK K))
  refine awp_block ?_
  -- loop 0 head [0, 1, 7, 10, 38, 39, 40]
  refine awp_loop_cut (fun m s => ∃ (i : Nat) (V : CS), i ≤ o.parts.length ∧ m = o.parts.length - i ∧ partOK g low V (first + i) (o.parts.drop i) ∧ R0 = partF g low V (first + i) (o.parts.drop i) ∧ s = ⟨ofL [(0, .ptr 0 0 0), (1, iD a), (7, words x), (10, iD first), (38, words o.parts), (39, iD o.parts.length), (40, iD i)], copB g low V, 3⟩) ⟨_, 0, S, Nat.zero_le _, rfl, hp, hR0, rfl⟩ ?_
  clear hp hR0 hat hpu0
  rintro m s ⟨i, V, hi, hmi, hp, hR0, rfl⟩
  (refine awp_reg_seq [0, 1, 7, 10, 38, 39, 40, 41] fun K hK => ?_; (repeat' ((refine al_r rfl fun K' hK' => ?_); (repeat (simp only [go_sem, simprocAttr, List.length_map, h1, h2])); ((refine hK' _ _ ?_) <;> clear hK' K'))); all_goals (refine al_nil ?_; (simp only [go_sem, simprocAttr, List.length_map, h1, h2]); refine hK _ ?_; clear hK K))
  refine awp_seq_k fun K hK => ?_
  refine awp_if (decide ((i : Int) < (o.parts.length : Int))) rfl (fun hc => ?_) (fun hc => ?_)
  · refine awp_skip ?_
    refine hK _ ?_; clear hK K
    refine awp_seq_k fun K hK => ?_
    refine awp_block ?_
    have hi2 : i < o.parts.length := by simpa using hc
    obtain ⟨w, hget⟩ := get_of_lt hi2
    rw [drop_of hget] at hp hR0
    obtain ⟨p1, p2, p3, p4, p5⟩ := hp
    have hR2 : R0 = partF g low ((wordC g low V w).2.1.set (first + i) (wordC g low V w).1, (wordC g low V w).2.2) (first + i + 1) (o.parts.drop (i + 1)) := hR0
    clear hR0
    have hwc := wordCc g low w V hg hok (by simp [maxLen]; omega) p1
    clear p1
    generalize wordC g low V w = W at hwc p3 p4 p5 hR2
    obtain ⟨v, T, mv⟩ := W
    simp only at hwc p3 p4 p5 hR2
    have hnn : (0 : Int) ≤ (i : Int) := Int.natCast_nonneg i
    have hnx : IntKind.i64.wrap ((i : Int) + 1) = ((i + 1 : Nat) : Int) := by rw [Go.Ab.wrap_small (by omega) (by omega)]; rfl
    have hfx : IntKind.i64.wrap ((first : Int) + (i : Int)) = ((first + i : Nat) : Int) := by rw [Go.Ab.wrap_small (by omega) (by omega)]; rfl
    have hf0 : (0 : Int) ≤ ((first + i : Nat) : Int) := Int.natCast_nonneg _
    have hf1 : ((first + i : Nat) : Int) < (T.length : Int) := by omega
    obtain ⟨x0, hx0⟩ := get_of_lt p3
    have hset : (T.map wrow).set (first + i) (wrow v) = (T.set (first + i) v).map wrow := by rw [List.map_set]

    (refine awp_reg_seq [0, 1, 7, 10, 11, 12, 38, 39, 40] fun K hK => ?_; (repeat' ((refine al_r rfl fun K' hK' => ?_); (repeat (simp only [go_sem, simprocAttr, hget, hx0, hnn, hi2, hnx, hfx, hf0, hf1, hset, Int.toNat_natCast, List.getElem?_map, Option.map_some, List.length_map])); ((refine hK' _ _ ?_) <;> clear hK' K'))); all_goals (refine al_nil ?_; (simp only [go_sem, simprocAttr, hget, hx0, hnn, hi2, hnx, hfx, hf0, hf1, hset, Int.toNat_natCast, List.getElem?_map, Option.map_some, List.length_map]); refine hK _ ?_; clear hK K))
    (refine awp_reg_seq [0, 1, 7, 10, 11, 13, 38, 39, 40] fun K hK => ?_; (repeat' ((refine al_r rfl fun K' hK' => ?_); (repeat (simp only [go_sem, simprocAttr, hget, hx0, hnn, hi2, hnx, hfx, hf0, hf1, hset, Int.toNat_natCast, List.getElem?_map, Option.map_some, List.length_map])); (first | ((refine hK' _ _ ?_) <;> clear hK' K') | ((show AC _ _ (D.fn 98 _) _ _); refine acall_m (f := 98) [0, 3, 2] Try.call98 hwc rfl rfl (by decide) (by simp) ?_; rintro r obs' ⟨rfl, rfl⟩; refine ⟨by simp, ?_⟩; (simp only [go_sem, simprocAttr, hget, hx0, hnn, hi2, hnx, hfx, hf0, hf1, hset, Int.toNat_natCast, List.getElem?_map, Option.map_some, List.length_map]); refine hK' _ _ ?_; clear hK' K')))); all_goals (refine al_nil ?_; (simp only [go_sem, simprocAttr, hget, hx0, hnn, hi2, hnx, hfx, hf0, hf1, hset, Int.toNat_natCast, List.getElem?_map, Option.map_some, List.length_map]); refine hK _ ?_; clear hK K))
    (refine awp_reg_end [0, 1, 7, 10, 38, 39, 40] fun K hK => ?_; (repeat' ((first | refine al_r rfl fun K' hK' => ?_ | refine al_d rfl fun K' hK' => ?_); (repeat (first | (simp only [go_sem, simprocAttr, hget, hx0, hnn, hi2, hnx, hfx, hf0, hf1, hset, Int.toNat_natCast, List.getElem?_map, Option.map_some, List.length_map]) | refine AS.mk ?_)); ((first | refine hK' _ _ ?_ | refine ⟨?_, hK' _ _ ?_⟩) <;> clear hK' K' <;> (first | (show alist _ _ _ _ _ _; skip) | (simp; done))))); all_goals (refine al_nil ?_; (simp only [go_sem, simprocAttr, hget, hx0, hnn, hi2, hnx, hfx, hf0, hf1, hset, Int.toNat_natCast, List.getElem?_map, Option.map_some, List.length_map]); refine hK _ ?_; clear hK K))
    refine hK _ ?_; clear hK K
    (refine awp_reg_end [0, 1, 7, 10, 38, 39, 40] fun K hK => ?_; (repeat' ((refine al_r rfl fun K' hK' => ?_); (repeat (simp only [go_sem, simprocAttr, hget, hx0, hnn, hi2, hnx, hfx, hf0, hf1, hset, Int.toNat_natCast, List.getElem?_map, Option.map_some, List.length_map])); ((refine hK' _ _ ?_) <;> clear hK' K'))); all_goals (refine al_nil ?_; (simp only [go_sem, simprocAttr, hget, hx0, hnn, hi2, hnx, hfx, hf0, hf1, hset, Int.toNat_natCast, List.getElem?_map, Option.map_some, List.length_map]); refine hK _ ?_; clear hK K))
    refine ⟨o.parts.length - (i + 1), by omega, [0, 1, 7, 10, 38, 39, 40], [0, 1, 2, 4], by decide, kept012, i + 1, (T.set (first + i) v, mv), hi2, rfl, p5, hR2, ?_⟩
    simp only [go_sem, simprocAttr, hget, hx0, hnn, hi2, hnx, hfx, hf0, hf1, hset, Int.toNat_natCast, List.getElem?_map, Option.map_some, List.length_map, copB, copD, List.length_set]

  · have hie : i = o.parts.length := by simp at hc; omega
    subst hie
    rw [List.drop_length] at hR0
    have hR2 : R0 = V := hR0
    refine awp_exit ?_
    clear hK
    refine hK _ ?_; clear hK K
    (refine awp_reg_seq [4] fun K hK => ?_; (repeat' ((refine al_r rfl fun K' hK' => ?_); (repeat (simp only [go_sem, simprocAttr, List.length_map, h1])); ((first | refine hK' _ _ ?_ | refine ⟨?_, hK' _ _ ?_⟩) <;> clear hK' K' <;> (first | (show alist _ _ _ _ _ _; skip) | (intro s hs; cases hs; done))))); all_goals (refine al_nil ?_; (simp only [go_sem, simprocAttr, List.length_map, h1]); refine hK _ ?_; clear hK K))
    refine awp_ret (hR _ _ [0, 1, 2, 3] (.inl rfl) rfl (by decide) (by simp only [List.length_cons, List.length_nil]; decide) ?_)
    rw [hR2]
    refine ⟨?_, ?_⟩ <;> simp only [go_sem, simprocAttr, List.length_map, h1, copB, copD]
end Go.Proofs.Ytagphggcdmjlpaa.P

/- The copier's run: a contract. -/
namespace Go.Proofs.Ytagphggcdmjlpaa.P
open Go.Ab Go.Proofs.Ytagphggcdmjlpaa.T

/-- The object at a place of the new heap is turned; the place behind it. -/
def partsC (g : List Int) (low : Int) (S : CS) (a : Nat) : Nat × CS :=
  (a + (putS [] (atS S.1 a).1).1.length, partF g low S (a + (putS [] (atS S.1 a).1).1.length - (atS S.1 a).1.parts.length) (atS S.1 a).1.parts)

def partsOK (g : List Int) (low : Int) (S : CS) (a : Nat) : Prop :=
  (∀ w, w ∈ S.1 → WordOk w) ∧ S.1.length ≤ 4000 ∧ (atS S.1 a).1.parts.length ≤ a + (putS [] (atS S.1 a).1).1.length ∧ a + (putS [] (atS S.1 a).1).1.length ≤ 4000 ∧
    partOK g low S (a + (putS [] (atS S.1 a).1).1.length - (atS S.1 a).1.parts.length) (atS S.1 a).1.parts

theorem copFin2 {g : List Int} {low : Int} {a z : Nat} {S T : CS} (W : Nat × CS) (e : W = (z, T)) (h : ACalls Try.prog 97 [.ptr 0 0 0, iD a] (copA g low S) (fun r obs' => r = iD (z : Int) ∧ obs' = copB g low T)) :
    ACalls Try.prog 97 [.ptr 0 0 0, iD a] (copA g low S) (fun r obs' => r = iD (W.1 : Int) ∧ obs' = copB g low W.2) := by
  subst e; exact h

theorem partsCs (g : List Int) (low : Int) (S : CS) (a : Nat) (hg : g.length ≤ maxLen) (hok : ∀ w, w ∈ g → WordOk w) (h : partsOK g low S a) :
    ACalls Try.prog 97 [.ptr 0 0 0, iD a] (copA g low S) (fun r obs' => r = iD ((partsC g low S a).1 : Int) ∧ obs' = copB g low (partsC g low S a).2) := by
  obtain ⟨h1, h2, h3, h4, h5⟩ := h
  refine copFin2 _ (z := a + (putS [] (atS S.1 a).1).1.length) (T := partF g low S (a + (putS [] (atS S.1 a).1).1.length - (atS S.1 a).1.parts.length) (atS S.1 a).1.parts) rfl ?_
  exact partsCc g low a _ S (atS S.1 a).1 (atS S.1 a).2 hg hok h1 h2 rfl (by omega) (by omega) h5

/-- The late ones, the roots, and what is not yet turned. -/
def lateC (g : List Int) (low : Int) : CS → List Int → CS
  | S, [] => S
  | S, t :: l => lateC g low (partsC g low S t.toNat).2 l
def lateOK (g : List Int) (low : Int) : CS → List Int → Prop
  | S, [] => S.1.length ≤ 4000
  | S, t :: l => 0 ≤ t ∧ partsOK g low S t.toNat ∧ lateOK g low (partsC g low S t.toNat).2 l
def rootsC (g : List Int) (low : Int) : CS → List Int → List Int × CS
  | S, [] => ([], S)
  | S, w :: l => ((wordC g low S w).1 :: (rootsC g low (wordC g low S w).2 l).1, (rootsC g low (wordC g low S w).2 l).2)
def rootsOK (g : List Int) (low : Int) : CS → List Int → Prop
  | S, [] => S.1.length ≤ 4000
  | S, w :: l => S.1.length ≤ 4000 ∧ wordOK g low S w ∧ rootsOK g low (wordC g low S w).2 l
def scanC (g : List Int) (low : Int) : Nat → CS → Nat → CS
  | 0, S, _ => S
  | f + 1, S, a => if a < S.1.length then scanC g low f (partsC g low S a).2 (partsC g low S a).1 else S
def scanOK (g : List Int) (low : Int) : Nat → CS → Nat → Prop
  | 0, S, a => S.1.length ≤ a
  | f + 1, S, a => a < S.1.length → partsOK g low S a ∧ scanOK g low f (partsC g low S a).2 (partsC g low S a).1

theorem late_nil {g : List Int} {low : Int} {S : CS} : lateC g low S [] = S := rfl
theorem late_cons {g : List Int} {low t : Int} {S : CS} {l : List Int} : lateC g low S (t :: l) = lateC g low (partsC g low S t.toNat).2 l := rfl


set_option maxRecDepth 100000 in
theorem runCc (g : List Int) (low : Int) (S : CS) (late ws : List Int) (f : Nat) (hg : g.length ≤ maxLen) (hok : ∀ w, w ∈ g → WordOk w) (hS : S.1.length ≤ 4000) (hlate : late.length ≤ maxLen) (hws : ws.length ≤ 100000)
    (h1 : lateOK g low S late) (h2 : rootsOK g low (lateC g low S late) ws) (h3 : scanOK g low f (rootsC g low (lateC g low S late) ws).2 S.1.length) :
    ACalls Try.prog 73 [.ptr 0 0 0, ints late, words ws] (copA g low S) (fun r obs' => r = .ref 4 0 ws.length ∧
      obs' = copB g low (scanC g low f (rootsC g low (lateC g low S late) ws).2 S.1.length) ++ [.row 1 ((rootsC g low (lateC g low S late) ws).1.map wrow)]) := by
  obtain ⟨A, hA⟩ : ∃ A, A = lateC g low S late := ⟨_, rfl⟩
  rw [← hA] at h2 h3 ⊢
  obtain ⟨B, hB⟩ : ∃ B, B = rootsC g low A ws := ⟨_, rfl⟩
  rw [← hB] at h3 ⊢
  obtain ⟨C, hC⟩ : ∃ C, C = scanC g low f B.2 S.1.length := ⟨_, rfl⟩
  rw [← hC]
  refine acallm_fn [6] Try.func73 rfl rfl Try.ntmps73 (by simp) (by simp) fun R hR => ?_
  (refine awp_reg_seq [0, 1, 2] fun K hK => ?_; (repeat' ((refine al_r rfl fun K' hK' => ?_); (repeat (simp only [go_sem, simprocAttr, List.length_map])); ((refine hK' _ _ ?_) <;> clear hK' K'))); all_goals (refine al_nil ?_; (simp only [go_sem, simprocAttr, List.length_map]); refine hK _ ?_; clear hK K))
  (refine awp_mv [0, 1, 2] [0, 9, 2, 1] (by decide) (kept3 rfl (by simp)) ?_; simp only [go_sem, simprocAttr, List.length_map])
  (refine awp_reg_seq [0, 1, 2, 7] fun K hK => ?_; (repeat' ((refine al_r rfl fun K' hK' => ?_); (repeat (simp only [go_sem, simprocAttr, List.length_map])); ((first | refine hK' _ _ ?_ | refine ⟨?_, hK' _ _ ?_⟩) <;> clear hK' K' <;> (first | (show alist _ _ _ _ _ _; skip) | (intro s hs; cases hs; done))))); all_goals (refine al_nil ?_; (simp only [go_sem, simprocAttr, List.length_map]); refine hK _ ?_; clear hK K))
  refine awp_seq_k fun K hK => ?_
  (refine awp_reg_seq [0, 2, 7, 18, 19, 20] fun K hK => ?_; (repeat' ((refine al_r rfl fun K' hK' => ?_); (repeat (simp only [go_sem, simprocAttr, List.length_map])); ((first | refine hK' _ _ ?_ | refine ⟨?_, hK' _ _ ?_⟩) <;> clear hK' K' <;> (first | (show alist _ _ _ _ _ _; skip) | (intro s hs; cases hs; done))))); all_goals (refine al_nil ?_; (simp only [go_sem, simprocAttr, List.length_map]); refine hK _ ?_; clear hK K))
  refine awp_block ?_
  -- loop 0 head [0, 2, 7, 18, 19, 20]
  refine awp_loop_cut (fun m s => ∃ (i : Nat) (V : CS), i ≤ late.length ∧ m = late.length - i ∧ lateOK g low V (late.drop i) ∧ A = lateC g low V (late.drop i) ∧ s = ⟨ofL [(0, .ptr 0 0 0), (2, words ws), (7, iD S.1.length), (18, ints late), (19, iD late.length), (20, iD i)], copB g low V, 3⟩) ⟨_, 0, S, Nat.zero_le _, rfl, h1, hA, rfl⟩ ?_
  clear h1 hA
  rintro m s ⟨i, V, hi, hmi, h1, hA, rfl⟩
  (refine awp_reg_seq [0, 2, 7, 18, 19, 20, 21] fun K hK => ?_; (repeat' ((refine al_r rfl fun K' hK' => ?_); (repeat (simp only [go_sem, simprocAttr, List.length_map])); ((refine hK' _ _ ?_) <;> clear hK' K'))); all_goals (refine al_nil ?_; (simp only [go_sem, simprocAttr, List.length_map]); refine hK _ ?_; clear hK K))
  refine awp_seq_k fun K hK => ?_
  refine awp_if (decide ((i : Int) < (late.length : Int))) rfl (fun hc => ?_) (fun hc => ?_)
  · refine awp_skip ?_
    refine hK _ ?_; clear hK K
    refine awp_seq_k fun K hK => ?_
    refine awp_block ?_
    have hi2 : i < late.length := by simpa using hc
    obtain ⟨t, hget⟩ := get_of_lt hi2
    rw [drop_of hget] at h1 hA
    obtain ⟨p0, p1, p2⟩ := h1
    rw [late_cons] at hA
    obtain ⟨n, rfl⟩ := Int.eq_ofNat_of_zero_le p0
    rw [Int.toNat_natCast] at p1 p2 hA
    have hpc := partsCs g low V n hg hok p1
    generalize partsC g low V n = W at hpc p2 hA
    obtain ⟨z, T⟩ := W
    simp only at hpc p2 hA
    have hnn : (0 : Int) ≤ (i : Int) := Int.natCast_nonneg i
    have hnx : IntKind.i64.wrap ((i : Int) + 1) = ((i + 1 : Nat) : Int) := wrap_next hi2 hlate

    (refine awp_reg_seq [0, 2, 7, 9, 18, 19, 20] fun K hK => ?_; (repeat' ((refine al_r rfl fun K' hK' => ?_); (repeat (simp only [go_sem, simprocAttr, hget, hnn, hi2, hnx, Int.toNat_natCast, List.getElem?_map, Option.map_some, List.length_map])); ((refine hK' _ _ ?_) <;> clear hK' K'))); all_goals (refine al_nil ?_; (simp only [go_sem, simprocAttr, hget, hnn, hi2, hnx, Int.toNat_natCast, List.getElem?_map, Option.map_some, List.length_map]); refine hK _ ?_; clear hK K))
    (refine awp_reg_end [0, 2, 7, 18, 19, 20] fun K hK => ?_; (repeat' ((refine al_r rfl fun K' hK' => ?_); (repeat (simp only [go_sem, simprocAttr, hget, hnn, hi2, hnx, Int.toNat_natCast, List.getElem?_map, Option.map_some, List.length_map])); (first | ((refine hK' _ _ ?_) <;> clear hK' K') | ((show AC _ _ (D.fn 97 _) _ _); refine acall_m (f := 97) [0, 3, 2] Try.call97 hpc rfl rfl (by decide) (by simp) ?_; rintro r obs' ⟨rfl, rfl⟩; refine ⟨by simp, ?_⟩; (simp only [go_sem, simprocAttr, hget, hnn, hi2, hnx, Int.toNat_natCast, List.getElem?_map, Option.map_some, List.length_map]); refine hK' _ _ ?_; clear hK' K')))); all_goals (refine al_nil ?_; (simp only [go_sem, simprocAttr, hget, hnn, hi2, hnx, Int.toNat_natCast, List.getElem?_map, Option.map_some, List.length_map]); refine hK _ ?_; clear hK K))
    refine hK _ ?_; clear hK K
    (refine awp_reg_end [0, 2, 7, 18, 19, 20] fun K hK => ?_; (repeat' ((refine al_r rfl fun K' hK' => ?_); (repeat (simp only [go_sem, simprocAttr, hget, hnn, hi2, hnx, Int.toNat_natCast, List.getElem?_map, Option.map_some, List.length_map])); ((refine hK' _ _ ?_) <;> clear hK' K'))); all_goals (refine al_nil ?_; (simp only [go_sem, simprocAttr, hget, hnn, hi2, hnx, Int.toNat_natCast, List.getElem?_map, Option.map_some, List.length_map]); refine hK _ ?_; clear hK K))
    refine ⟨late.length - (i + 1), by omega, [0, 2, 7, 18, 19, 20], [0, 1, 2, 4], by decide, kept012, i + 1, T, hi2, rfl, p2, hA, ?_⟩
    simp only [go_sem, simprocAttr, hget, hnn, hi2, hnx, Int.toNat_natCast, List.getElem?_map, Option.map_some, List.length_map, copB, copD]

  · have hie : i = late.length := by simp at hc; omega
    subst hie
    rw [List.drop_length] at hA h1
    rw [late_nil] at hA
    subst hA
    clear h1
    refine awp_exit ?_
    clear hK
    refine hK _ ?_; clear hK K
    (refine awp_reg_seq [0, 2, 7, 10] fun K hK => ?_; (repeat' ((refine al_r rfl fun K' hK' => ?_); (repeat (simp only [go_sem, simprocAttr, List.length_map])); ((refine hK' _ _ ?_) <;> clear hK' K'))); all_goals (refine al_nil ?_; (simp only [go_sem, simprocAttr, List.length_map]); refine hK _ ?_; clear hK K))
    refine awp_born 10 1 rfl ?_
    refine awp_seq_k fun K hK => ?_
    (refine awp_reg_seq [0, 7, 10, 28, 29, 30] fun K hK => ?_; (repeat' ((refine al_r rfl fun K' hK' => ?_); (repeat (simp only [go_sem, simprocAttr, List.length_map])); ((first | refine hK' _ _ ?_ | refine ⟨?_, hK' _ _ ?_⟩) <;> clear hK' K' <;> (first | (show alist _ _ _ _ _ _; skip) | (intro s hs; cases hs; done))))); all_goals (refine al_nil ?_; (simp only [go_sem, simprocAttr, List.length_map]); refine hK _ ?_; clear hK K))
    refine awp_block ?_
    -- loop 1 head [0, 7, 10, 28, 29, 30]
    refine awp_loop_cut (fun m s => ∃ (i : Nat) (V : CS) (out : List Int), i ≤ ws.length ∧ m = ws.length - i ∧ out.length = i ∧ rootsOK g low V (ws.drop i) ∧ B = (out ++ (rootsC g low V (ws.drop i)).1, (rootsC g low V (ws.drop i)).2) ∧ s = ⟨ofL [(0, .ptr 0 0 0), (7, iD S.1.length), (10, .ref 4 0 out.length), (28, words ws), (29, iD ws.length), (30, iD i)], copB g low V ++ [.row 1 (out.map wrow)], 3⟩) ⟨_, 0, A, [], Nat.zero_le _, rfl, rfl, h2, hB, rfl⟩ ?_
    clear h2 hB
    rintro m s ⟨i, V, out, hi, hmi, hol, h2, hB, rfl⟩
    (refine awp_reg_seq [0, 7, 10, 28, 29, 30, 31] fun K hK => ?_; (repeat' ((refine al_r rfl fun K' hK' => ?_); (repeat (simp only [go_sem, simprocAttr, List.length_map])); ((refine hK' _ _ ?_) <;> clear hK' K'))); all_goals (refine al_nil ?_; (simp only [go_sem, simprocAttr, List.length_map]); refine hK _ ?_; clear hK K))
    refine awp_seq_k fun K hK => ?_
    refine awp_if (decide ((i : Int) < (ws.length : Int))) rfl (fun hc => ?_) (fun hc => ?_)
    · refine awp_skip ?_
      refine hK _ ?_; clear hK K
      refine awp_seq_k fun K hK => ?_
      refine awp_block ?_
      have hi2 : i < ws.length := by simpa using hc
      obtain ⟨w, hget⟩ := get_of_lt hi2
      rw [drop_of hget] at h2 hB
      obtain ⟨q1, q2, q3⟩ := h2
      have hwc := wordCc g low w V hg hok (by simp [maxLen]; omega) q2
      have hB2 : B = (out ++ ((wordC g low V w).1 :: (rootsC g low (wordC g low V w).2 (ws.drop (i + 1))).1), (rootsC g low (wordC g low V w).2 (ws.drop (i + 1))).2) := hB
      clear hB q2
      generalize wordC g low V w = W at hwc q3 hB2
      obtain ⟨v, T⟩ := W
      simp only at hwc q3 hB2
      have hnn : (0 : Int) ≤ (i : Int) := Int.natCast_nonneg i
      have hnx : IntKind.i64.wrap ((i : Int) + 1) = ((i + 1 : Nat) : Int) := by rw [Go.Ab.wrap_small (by omega) (by omega)]; rfl
      have htB : List.take out.length (out.map wrow) = out.map wrow := List.take_of_length_le (by simp)
      have hfB : (out.length + 1) * 8 ≤ 140737488355328 := by omega

      (refine awp_reg_seq [0, 7, 10, 12, 28, 29, 30] fun K hK => ?_; (repeat' ((refine al_r rfl fun K' hK' => ?_); (repeat (simp only [go_sem, simprocAttr, hget, hnn, hi2, hnx, htB, hfB, Int.toNat_natCast, List.getElem?_map, Option.map_some, List.length_map, List.drop_zero])); ((refine hK' _ _ ?_) <;> clear hK' K'))); all_goals (refine al_nil ?_; (simp only [go_sem, simprocAttr, hget, hnn, hi2, hnx, htB, hfB, Int.toNat_natCast, List.getElem?_map, Option.map_some, List.length_map, List.drop_zero]); refine hK _ ?_; clear hK K))
      (refine awp_reg_end [0, 7, 10, 28, 29, 30] fun K hK => ?_; (repeat' ((refine al_r rfl fun K' hK' => ?_); (repeat (first | (simp only [go_sem, simprocAttr, hget, hnn, hi2, hnx, htB, hfB, Int.toNat_natCast, List.getElem?_map, Option.map_some, List.length_map, List.drop_zero]) | refine AAp.grow ?_)); (first | ((first | refine hK' _ _ ?_ | refine ⟨?_, ?_, hK' _ _ ?_⟩) <;> clear hK' K' <;> (first | (show alist _ _ _ _ _ _; skip) | (simp; done))) | ((show AC _ _ (D.fn 98 _) _ _); refine acall_m (f := 98) [0, 3, 2] Try.call98 hwc rfl rfl (by decide) (by simp) ?_; rintro r obs' ⟨rfl, rfl⟩; refine ⟨by simp, ?_⟩; (simp only [go_sem, simprocAttr, hget, hnn, hi2, hnx, htB, hfB, Int.toNat_natCast, List.getElem?_map, Option.map_some, List.length_map, List.drop_zero]); refine hK' _ _ ?_; clear hK' K')))); all_goals (refine al_nil ?_; (simp only [go_sem, simprocAttr, hget, hnn, hi2, hnx, htB, hfB, Int.toNat_natCast, List.getElem?_map, Option.map_some, List.length_map, List.drop_zero]); refine hK _ ?_; clear hK K))
      refine hK _ ?_; clear hK K
      (refine awp_reg_end [0, 7, 10, 28, 29, 30] fun K hK => ?_; (repeat' ((refine al_r rfl fun K' hK' => ?_); (repeat (simp only [go_sem, simprocAttr, hget, hnn, hi2, hnx, htB, hfB, Int.toNat_natCast, List.getElem?_map, Option.map_some, List.length_map, List.drop_zero])); ((refine hK' _ _ ?_) <;> clear hK' K'))); all_goals (refine al_nil ?_; (simp only [go_sem, simprocAttr, hget, hnn, hi2, hnx, htB, hfB, Int.toNat_natCast, List.getElem?_map, Option.map_some, List.length_map, List.drop_zero]); refine hK _ ?_; clear hK K))
      refine ⟨ws.length - (i + 1), by omega, [0, 7, 10, 28, 29, 30], [0, 1, 2, 5, 7], by decide, kept012, i + 1, T, out ++ [v], hi2, rfl, by simp [hol], q3, by rw [hB2]; simp, ?_⟩
      simp only [go_sem, simprocAttr, hget, hnn, hi2, hnx, htB, hfB, Int.toNat_natCast, List.getElem?_map, Option.map_some, List.length_map, List.drop_zero, copB, copD, List.map_append, List.length_append]

    · have hie : i = ws.length := by simp at hc; omega
      subst hie
      rw [List.drop_length] at hB
      have hB2 : B = (out, V) := by rw [hB]; simp [rootsC]
      rw [hB2] at h3 hC
      simp only at h3 hC
      refine awp_exit ?_
      clear hK
      refine hK _ ?_; clear hK K
      refine awp_seq_k fun K hK => ?_
      refine awp_block ?_
      -- loop 2 head [0, 7, 10]
      (refine awp_frz [0, 7, 10] [0, 1, 2, 3, 4] (by decide) (by (exact kept012)) ?_; simp only [go_sem, simprocAttr, List.length_map])
      refine awp_loop_cut (fun m s => ∃ (V : CS) (a : Nat), scanOK g low m V a ∧ C = scanC g low m V a ∧ s = ⟨ofL [(0, .ptr 0 0 0), (7, iD a), (10, .ref 4 0 out.length)], copB g low V ++ [.row 1 (out.map wrow)], 3⟩) ⟨f, V, _, h3, hC, rfl⟩ ?_
      clear h3 hC hB h2
      rintro m s ⟨V, a, h3, hC, rfl⟩
      refine awp_seq_k fun K hK => ?_
      (refine awp_reg_seq [0, 7, 10, 47] fun K hK => ?_; (repeat' ((refine al_r rfl fun K' hK' => ?_); (repeat (simp only [go_sem, simprocAttr, List.length_map])); ((first | refine hK' _ _ ?_ | refine ⟨?_, hK' _ _ ?_⟩) <;> clear hK' K' <;> (first | (show alist _ _ _ _ _ _; skip) | (intro s hs; cases hs; done))))); all_goals (refine al_nil ?_; (simp only [go_sem, simprocAttr, List.length_map]); refine hK _ ?_; clear hK K))
      refine awp_if (decide ((a : Int) < (V.1.length : Int))) rfl (fun hc => ?_) (fun hc => ?_)
      · have ha2 : a < V.1.length := by simpa using hc
        obtain ⟨k, rfl⟩ : ∃ k, m = k + 1 := by
          cases m with
          | zero => exact absurd (show V.1.length ≤ a from h3) (by omega)
          | succ k => exact ⟨k, rfl⟩
        have h4 : partsOK g low V a ∧ scanOK g low k (partsC g low V a).2 (partsC g low V a).1 := h3 ha2
        have hC2 : C = scanC g low k (partsC g low V a).2 (partsC g low V a).1 := by rw [hC, scanC, if_pos ha2]
        obtain ⟨p1, p2⟩ := h4
        have hpc := partsCs g low V a hg hok p1
        clear p1 h3 hC
        generalize partsC g low V a = W at hpc p2 hC2
        obtain ⟨z, T⟩ := W
        simp only at hpc p2 hC2

        refine awp_skip ?_
        refine hK _ ?_; clear hK K
        refine awp_block ?_
        (refine awp_reg_end [0, 7, 10] fun K hK => ?_; (repeat' ((refine al_r rfl fun K' hK' => ?_); (repeat (simp only [go_sem, simprocAttr, List.length_map])); (first | ((refine hK' _ _ ?_) <;> clear hK' K') | ((show AC _ _ (D.fn 97 _) _ _); refine acall_m (f := 97) [0, 3, 2] Try.call97 hpc rfl rfl (by decide) (by simp) ?_; rintro r obs' ⟨rfl, rfl⟩; refine ⟨by simp, ?_⟩; (simp only [go_sem, simprocAttr, List.length_map]); refine hK' _ _ ?_; clear hK' K')))); all_goals (refine al_nil ?_; (simp only [go_sem, simprocAttr, List.length_map]); refine hK _ ?_; clear hK K))
        refine ⟨k, by omega, [0, 7, 10], [0, 1, 2, 5, 4], by decide, kept012, T, z, p2, hC2, ?_⟩
        simp only [go_sem, simprocAttr, List.length_map, copB, copD]

      · have hC3 : C = V := by
          have ha2 : ¬ a < V.1.length := by simpa using hc
          cases m with
          | zero => exact hC
          | succ k => rw [hC, scanC, if_neg ha2]
        refine awp_exit ?_
        clear hK
        refine hK _ ?_; clear hK K
        (refine awp_reg_seq [6] fun K hK => ?_; (repeat' ((refine al_r rfl fun K' hK' => ?_); (repeat (simp only [go_sem, simprocAttr, List.length_map])); ((refine hK' _ _ ?_) <;> clear hK' K'))); all_goals (refine al_nil ?_; (simp only [go_sem, simprocAttr, List.length_map]); refine hK _ ?_; clear hK K))
        refine awp_ret (hR _ _ [0, 1, 2, 3, 4] (.inl rfl) rfl (by decide) (by simp only [List.length_cons, List.length_nil]; decide) ?_)
        rw [hC3, hB2]
        refine ⟨?_, ?_⟩
        · simp only [go_sem, simprocAttr, List.length_map, hol]
        · simp only [go_sem, simprocAttr, List.length_map, copB, copD]
end Go.Proofs.Ytagphggcdmjlpaa.P

/- Major and Minor: contracts. -/
namespace Go.Proofs.Ytagphggcdmjlpaa.P
open Go.Ab Go.Proofs.Ytagphggcdmjlpaa.T

theorem roots_len (g : List Int) (low : Int) : ∀ (ws : List Int) (S : CS), (rootsC g low S ws).1.length = ws.length
  | [], _ => rfl
  | w :: l, S => by rw [rootsC, List.length_cons, roots_len g low l, List.length_cons]


theorem majorBad (h : List Int) (old e : Int) (late ws : List Int) (he : (e != 0) = true) (hnm : ACallP Try.prog 66 [agesD h old late, words ws] (iD e)) : ACallP Try.prog 39 [agesD h old late, words ws] (.tup [zagesD, words [], iD e]) := by
  refine acallp_fnv [.cell 4 64, .tmp 5, .tmp 6] Try.func39 rfl rfl Try.ntmps39 (by simp) fun R hR => ?_
  (refine awp_reg_seq [1, 2, 4] fun K hK => ?_; (repeat' ((refine al_r rfl fun K' hK' => ?_); (repeat (simp only [go_sem, simprocAttr, he])); ((refine hK' _ _ ?_) <;> clear hK' K'))); all_goals (refine al_nil ?_; (simp only [go_sem, simprocAttr, he]); refine hK _ ?_; clear hK K))
  (refine awp_frz [1, 2, 4] [1] (by decide) (by (simp; done)) ?_; simp only [go_sem, simprocAttr, he])
  refine awp_seq_k fun K hK => ?_
  (refine awp_reg_seq [1, 2, 4, 7] fun K hK => ?_; (repeat' ((refine al_r rfl fun K' hK' => ?_); (repeat (simp only [go_sem, simprocAttr, he])); (first | ((refine hK' _ _ ?_) <;> clear hK' K') | ((show AC _ _ (D.fn 66 _) _ _); refine acall_g (f := 66) (e := rfl) (hr := rfl) (hf := by simp [D.all, D.allL, flatL, flatPV]) (k := hK' _ _ ?_) (hc := Try.call66) (h := hnm); clear hK' K')))); all_goals (refine al_nil ?_; (simp only [go_sem, simprocAttr, he]); refine hK _ ?_; clear hK K))
  (refine awp_reg_seq [1, 2, 4, 7, 14] fun K hK => ?_; (repeat' ((refine al_r rfl fun K' hK' => ?_); (repeat (simp only [go_sem, simprocAttr, he])); ((refine hK' _ _ ?_) <;> clear hK' K'))); all_goals (refine al_nil ?_; (simp only [go_sem, simprocAttr, he]); refine hK _ ?_; clear hK K))
  refine awp_if (_) rfl (fun hc => ?_) (fun hc => ?_)
  · (refine awp_reg_seq [4, 5, 6] fun K hK => ?_; (repeat' ((first | refine al_r rfl fun K' hK' => ?_ | refine al_d rfl fun K' hK' => ?_); (repeat (first | (simp only [go_sem, simprocAttr, he]) | refine AS.mk ?_)); ((first | refine hK' _ _ ?_ | refine ⟨?_, hK' _ _ ?_⟩) <;> clear hK' K' <;> (first | (show alist _ _ _ _ _ _; skip) | (simp; done))))); all_goals (refine al_nil ?_; (simp only [go_sem, simprocAttr, he]); refine hK _ ?_; clear hK K))
    refine awp_ret ?_; refine hR _ _ (.inl rfl) rfl ?_
    simp only [go_sem, simprocAttr, he, List.map_nil]
    rfl
  · cases hc


theorem minorBad (h : List Int) (old e : Int) (late ws : List Int) (he : (e != 0) = true) (hnm : ACallP Try.prog 66 [agesD h old late, words ws] (iD e)) : ACallP Try.prog 38 [agesD h old late, words ws] (.tup [zagesD, words [], iD e]) := by
  refine acallp_fnv [.cell 4 64, .tmp 5, .tmp 6] Try.func38 rfl rfl Try.ntmps38 (by simp) fun R hR => ?_
  (refine awp_reg_seq [1, 2, 4] fun K hK => ?_; (repeat' ((refine al_r rfl fun K' hK' => ?_); (repeat (simp only [go_sem, simprocAttr, he])); ((refine hK' _ _ ?_) <;> clear hK' K'))); all_goals (refine al_nil ?_; (simp only [go_sem, simprocAttr, he]); refine hK _ ?_; clear hK K))
  (refine awp_frz [1, 2, 4] [1] (by decide) (by (simp; done)) ?_; simp only [go_sem, simprocAttr, he])
  refine awp_seq_k fun K hK => ?_
  (refine awp_reg_seq [1, 2, 4, 7] fun K hK => ?_; (repeat' ((refine al_r rfl fun K' hK' => ?_); (repeat (simp only [go_sem, simprocAttr, he])); (first | ((refine hK' _ _ ?_) <;> clear hK' K') | ((show AC _ _ (D.fn 66 _) _ _); refine acall_g (f := 66) (e := rfl) (hr := rfl) (hf := by simp [D.all, D.allL, flatL, flatPV]) (k := hK' _ _ ?_) (hc := Try.call66) (h := hnm); clear hK' K')))); all_goals (refine al_nil ?_; (simp only [go_sem, simprocAttr, he]); refine hK _ ?_; clear hK K))
  (refine awp_reg_seq [1, 2, 4, 7, 14] fun K hK => ?_; (repeat' ((refine al_r rfl fun K' hK' => ?_); (repeat (simp only [go_sem, simprocAttr, he])); ((refine hK' _ _ ?_) <;> clear hK' K'))); all_goals (refine al_nil ?_; (simp only [go_sem, simprocAttr, he]); refine hK _ ?_; clear hK K))
  refine awp_if (_) rfl (fun hc => ?_) (fun hc => ?_)
  · (refine awp_reg_seq [4, 5, 6] fun K hK => ?_; (repeat' ((first | refine al_r rfl fun K' hK' => ?_ | refine al_d rfl fun K' hK' => ?_); (repeat (first | (simp only [go_sem, simprocAttr, he]) | refine AS.mk ?_)); ((first | refine hK' _ _ ?_ | refine ⟨?_, hK' _ _ ?_⟩) <;> clear hK' K' <;> (first | (show alist _ _ _ _ _ _; skip) | (simp; done))))); all_goals (refine al_nil ?_; (simp only [go_sem, simprocAttr, he]); refine hK _ ?_; clear hK K))
    refine awp_ret ?_; refine hR _ _ (.inl rfl) rfl ?_
    simp only [go_sem, simprocAttr, he, List.map_nil]
    rfl
  · cases hc


set_option maxRecDepth 100000 in
theorem majorGood (h : List Int) (old : Int) (late ws : List Int) (f : Nat) (hnm : ACallP Try.prog 66 [agesD h old late, words ws] (iD 0)) (hg : h.length ≤ maxLen) (hok : ∀ w, w ∈ h → WordOk w) (hws : ws.length ≤ 100000)
    (h2 : rootsOK h 0 ([], []) ws) (h3 : scanOK h 0 f (rootsC h 0 ([], []) ws).2 0) :
    ACallP Try.prog 39 [agesD h old late, words ws] (.tup [.agg [words (scanC h 0 f (rootsC h 0 ([], []) ws).2 0).1, iD (scanC h 0 f (rootsC h 0 ([], []) ws).2 0).1.length, .p (.sl [])], words (rootsC h 0 ([], []) ws).1, iD 0]) := by
  have hrun0 := runCc h 0 ([], []) [] ws f hg hok (by simp) (by simp [maxLen]) hws (by simp [lateOK]) h2 h3
  have hrun : ACalls Try.prog 73 [.ptr 0 0 0, .nil, words ws] _ _ := ACalls.soft hrun0
  clear hrun0 h3 h2
  rw [late_nil] at hrun
  have hBl := roots_len h 0 ws ([], [])
  generalize rootsC h 0 ([], []) ws = B at hrun hBl ⊢
  have htB : List.take ws.length (B.1.map wrow) = B.1.map wrow := List.take_of_length_le (by simp [hBl])
  have e0 : ((([], []) : CS).1.length) = 0 := rfl
  rw [e0] at hrun
  generalize scanC h 0 f B.2 0 = C at hrun ⊢
  have htC : List.take C.1.length (C.1.map wrow) = C.1.map wrow := List.take_of_length_le (by simp)
  refine acallp_fnv [.cell 4 64, .tmp 5, .tmp 6] Try.func39 rfl rfl Try.ntmps39 (by simp) fun R hR => ?_
  (refine awp_reg_seq [1, 2, 4] fun K hK => ?_; (repeat' ((refine al_r rfl fun K' hK' => ?_); (repeat (simp only [go_sem, simprocAttr, bne_self_eq_false, List.length_map])); ((refine hK' _ _ ?_) <;> clear hK' K'))); all_goals (refine al_nil ?_; (simp only [go_sem, simprocAttr, bne_self_eq_false, List.length_map]); refine hK _ ?_; clear hK K))
  (refine awp_frz [1, 2, 4] [1] (by decide) (by (simp; done)) ?_; simp only [go_sem, simprocAttr, bne_self_eq_false, List.length_map])
  refine awp_seq_k fun K hK => ?_
  (refine awp_reg_seq [1, 2, 4, 7] fun K hK => ?_; (repeat' ((refine al_r rfl fun K' hK' => ?_); (repeat (simp only [go_sem, simprocAttr, bne_self_eq_false, List.length_map])); (first | ((refine hK' _ _ ?_) <;> clear hK' K') | ((show AC _ _ (D.fn 66 _) _ _); refine acall_g (f := 66) (e := rfl) (hr := rfl) (hf := by simp [D.all, D.allL, flatL, flatPV]) (k := hK' _ _ ?_) (hc := Try.call66) (h := hnm); clear hK' K')))); all_goals (refine al_nil ?_; (simp only [go_sem, simprocAttr, bne_self_eq_false, List.length_map]); refine hK _ ?_; clear hK K))
  (refine awp_reg_seq [1, 2, 4, 7, 14] fun K hK => ?_; (repeat' ((refine al_r rfl fun K' hK' => ?_); (repeat (simp only [go_sem, simprocAttr, bne_self_eq_false, List.length_map])); ((refine hK' _ _ ?_) <;> clear hK' K'))); all_goals (refine al_nil ?_; (simp only [go_sem, simprocAttr, bne_self_eq_false, List.length_map]); refine hK _ ?_; clear hK K))
  refine awp_if (_) rfl (fun hc => ?_) (fun hc => ?_)
  · cases hc
  · refine awp_skip ?_
    refine hK _ ?_; clear hK K
    (refine awp_reg_seq [1, 4, 8] fun K hK => ?_; (repeat' ((refine al_r rfl fun K' hK' => ?_); (repeat (simp only [go_sem, simprocAttr, bne_self_eq_false, List.length_map])); ((refine hK' _ _ ?_) <;> clear hK' K'))); all_goals (refine al_nil ?_; (simp only [go_sem, simprocAttr, bne_self_eq_false, List.length_map]); refine hK _ ?_; clear hK K))
    refine awp_born_box 2 2 1 rfl rfl ?_
    simp only [go_sem, simprocAttr, bne_self_eq_false, List.length_map]
    (refine awp_reg_seq [4, 8, 9] fun K hK => ?_; (repeat' ((refine al_r rfl fun K' hK' => ?_); (repeat (simp only [go_sem, simprocAttr, bne_self_eq_false, List.length_map])); (first | ((refine hK' _ _ ?_) <;> clear hK' K') | ((show AC _ _ (D.fn 73 _) _ _); refine acall_m (f := 73) [2, 3, 1] Try.call73 hrun rfl rfl (by decide) (by simp) ?_; rintro r obs' ⟨rfl, rfl⟩; refine ⟨by simp, ?_⟩; (simp only [go_sem, simprocAttr, bne_self_eq_false, List.length_map]); refine hK' _ _ ?_; clear hK' K')))); all_goals (refine al_nil ?_; (simp only [go_sem, simprocAttr, bne_self_eq_false, List.length_map]); refine hK _ ?_; clear hK K))
    refine awp_draw_seq (by kernel_rfl) [4, 5, 6] fun K hK => ?_
    ((refine ah_r 0 rfl (by kernel_rfl) rfl fun K' hK' => ?_); (simp only [go_sem, simprocAttr, bne_self_eq_false, List.length_map]); ((refine hK' _ ?_); clear hK' K'))
    ((refine ah_r 4 rfl (by kernel_rfl) rfl fun K' hK' => ?_); (simp only [go_sem, simprocAttr, bne_self_eq_false, List.length_map]); ((refine hK' _ ?_); clear hK' K'))
    ((refine ah_r 10 rfl (by kernel_rfl) rfl fun K' hK' => ?_); (simp only [go_sem, simprocAttr, bne_self_eq_false, List.length_map]); ((refine hK' _ ?_); clear hK' K'))
    refine ah_two 1 5 rfl rfl (by kernel_rfl) ?_ ?_
    · ((repeat' ((refine al_r rfl fun K' hK' => ?_); (repeat (simp only [go_sem, simprocAttr, bne_self_eq_false, List.length_map])); ((refine hK' _ _ ?_) <;> clear hK' K'))); all_goals refine al_nil ?_)
      ((refine ah_r 2 rfl (by kernel_rfl) rfl fun K' hK' => ?_); (simp only [go_sem, simprocAttr, bne_self_eq_false, List.length_map]); ((refine hK' _ ?_); clear hK' K'))
      refine ah_two 3 5 rfl rfl (by kernel_rfl) ?_ ?_
      · ((repeat' ((refine al_r rfl fun K' hK' => ?_); (repeat (simp only [go_sem, simprocAttr, bne_self_eq_false, List.length_map])); ((refine hK' _ _ ?_) <;> clear hK' K'))); all_goals refine al_nil ?_)
        (refine ah_one 5 rfl (by kernel_rfl) ?_; (repeat' ((refine al_r rfl fun K' hK' => ?_); (repeat (simp only [go_sem, simprocAttr, bne_self_eq_false, List.length_map])); ((refine hK' _ _ ?_) <;> clear hK' K'))); all_goals refine al_nil ?_)
        ((refine ah_r 6 rfl (by kernel_rfl) rfl fun K' hK' => ?_); (simp only [go_sem, simprocAttr, bne_self_eq_false, List.length_map]); ((refine hK' _ ?_); clear hK' K'))
        (refine ah_one 7 rfl (by kernel_rfl) ?_; (repeat' ((refine al_r rfl fun K' hK' => ?_); (repeat (simp only [go_sem, simprocAttr, bne_self_eq_false, List.length_map])); ((refine hK' _ _ ?_) <;> clear hK' K'))); all_goals refine al_nil ?_)
        ((refine ah_r 8 rfl (by kernel_rfl) rfl fun K' hK' => ?_); (simp only [go_sem, simprocAttr, bne_self_eq_false, List.length_map]); ((refine ⟨?_, hK' _ ?_⟩) <;> clear hK' K' <;> (first | (intro s hs; cases hs; done) | skip)))
        (refine ah_one 9 rfl (by kernel_rfl) ?_; (repeat' ((refine al_r rfl fun K' hK' => ?_); (repeat (simp only [go_sem, simprocAttr, bne_self_eq_false, List.length_map])); ((refine hK' _ _ ?_) <;> clear hK' K'))); all_goals refine al_nil ?_)
        (refine ah_one 11 rfl (by kernel_rfl) ?_; (repeat' ((refine al_d rfl fun K' hK' => ?_); (repeat (first | (simp only [go_sem, simprocAttr, bne_self_eq_false, List.length_map]) | refine AS.mk ?_)); ((refine ⟨?_, hK' _ _ ?_⟩) <;> clear hK' K' <;> (first | (show alist _ _ _ _ _ _; skip) | (simp; done))))); all_goals refine al_nil ?_)
        ((refine ah_r 12 rfl (by kernel_rfl) rfl fun K' hK' => ?_); (simp only [go_sem, simprocAttr, bne_self_eq_false, List.length_map]); ((refine hK' _ ?_); clear hK' K'))
        ((refine ah_r 13 rfl (by kernel_rfl) rfl fun K' hK' => ?_); (simp only [go_sem, simprocAttr, bne_self_eq_false, List.length_map]); ((refine hK' _ ?_); clear hK' K'))
        (refine ah_done (by kernel_rfl) ?_; (simp only [go_sem, simprocAttr, bne_self_eq_false, List.length_map]); refine hK _ ?_; clear hK K)
        refine awp_ret ?_; refine hR _ _ (.inl rfl) rfl ?_
        simp only [go_sem, simprocAttr, bne_self_eq_false, List.length_map, htC, htB]
      · ((repeat' ((refine al_r rfl fun K' hK' => ?_); (repeat (simp only [go_sem, simprocAttr, bne_self_eq_false, List.length_map])); ((refine hK' _ _ ?_) <;> clear hK' K'))); all_goals refine al_nil ?_)
        ((refine ah_r 6 rfl (by kernel_rfl) rfl fun K' hK' => ?_); (simp only [go_sem, simprocAttr, bne_self_eq_false, List.length_map]); ((refine hK' _ ?_); clear hK' K'))
        refine ah_two 3 7 rfl rfl (by kernel_rfl) ?_ ?_
        · ((repeat' ((refine al_r rfl fun K' hK' => ?_); (repeat (simp only [go_sem, simprocAttr, bne_self_eq_false, List.length_map])); ((refine hK' _ _ ?_) <;> clear hK' K'))); all_goals refine al_nil ?_)
          (refine ah_one 7 rfl (by kernel_rfl) ?_; (repeat' ((refine al_r rfl fun K' hK' => ?_); (repeat (simp only [go_sem, simprocAttr, bne_self_eq_false, List.length_map])); ((refine hK' _ _ ?_) <;> clear hK' K'))); all_goals refine al_nil ?_)
          ((refine ah_r 8 rfl (by kernel_rfl) rfl fun K' hK' => ?_); (simp only [go_sem, simprocAttr, bne_self_eq_false, List.length_map]); ((refine ⟨?_, hK' _ ?_⟩) <;> clear hK' K' <;> (first | (intro s hs; cases hs; done) | skip)))
          (refine ah_one 9 rfl (by kernel_rfl) ?_; (repeat' ((refine al_r rfl fun K' hK' => ?_); (repeat (simp only [go_sem, simprocAttr, bne_self_eq_false, List.length_map])); ((refine hK' _ _ ?_) <;> clear hK' K'))); all_goals refine al_nil ?_)
          (refine ah_one 11 rfl (by kernel_rfl) ?_; (repeat' ((refine al_d rfl fun K' hK' => ?_); (repeat (first | (simp only [go_sem, simprocAttr, bne_self_eq_false, List.length_map]) | refine AS.mk ?_)); ((refine ⟨?_, hK' _ _ ?_⟩) <;> clear hK' K' <;> (first | (show alist _ _ _ _ _ _; skip) | (simp; done))))); all_goals refine al_nil ?_)
          ((refine ah_r 12 rfl (by kernel_rfl) rfl fun K' hK' => ?_); (simp only [go_sem, simprocAttr, bne_self_eq_false, List.length_map]); ((refine hK' _ ?_); clear hK' K'))
          ((refine ah_r 13 rfl (by kernel_rfl) rfl fun K' hK' => ?_); (simp only [go_sem, simprocAttr, bne_self_eq_false, List.length_map]); ((refine hK' _ ?_); clear hK' K'))
          (refine ah_done (by kernel_rfl) ?_; (simp only [go_sem, simprocAttr, bne_self_eq_false, List.length_map]); refine hK _ ?_; clear hK K)
          refine awp_ret ?_; refine hR _ _ (.inl rfl) rfl ?_
          simp only [go_sem, simprocAttr, bne_self_eq_false, List.length_map, htC, htB]
        · ((repeat' ((refine al_r rfl fun K' hK' => ?_); (repeat (simp only [go_sem, simprocAttr, bne_self_eq_false, List.length_map])); ((refine hK' _ _ ?_) <;> clear hK' K'))); all_goals refine al_nil ?_)
          ((refine ah_r 8 rfl (by kernel_rfl) rfl fun K' hK' => ?_); (simp only [go_sem, simprocAttr, bne_self_eq_false, List.length_map]); ((refine ⟨?_, hK' _ ?_⟩) <;> clear hK' K' <;> (first | (intro s hs; cases hs; done) | skip)))
          (refine ah_one 3 rfl (by kernel_rfl) ?_; (repeat' ((refine al_r rfl fun K' hK' => ?_); (repeat (simp only [go_sem, simprocAttr, bne_self_eq_false, List.length_map])); ((refine hK' _ _ ?_) <;> clear hK' K'))); all_goals refine al_nil ?_)
          (refine ah_one 9 rfl (by kernel_rfl) ?_; (repeat' ((refine al_r rfl fun K' hK' => ?_); (repeat (simp only [go_sem, simprocAttr, bne_self_eq_false, List.length_map])); ((refine hK' _ _ ?_) <;> clear hK' K'))); all_goals refine al_nil ?_)
          (refine ah_one 11 rfl (by kernel_rfl) ?_; (repeat' ((refine al_d rfl fun K' hK' => ?_); (repeat (first | (simp only [go_sem, simprocAttr, bne_self_eq_false, List.length_map]) | refine AS.mk ?_)); ((refine ⟨?_, hK' _ _ ?_⟩) <;> clear hK' K' <;> (first | (show alist _ _ _ _ _ _; skip) | (simp; done))))); all_goals refine al_nil ?_)
          ((refine ah_r 12 rfl (by kernel_rfl) rfl fun K' hK' => ?_); (simp only [go_sem, simprocAttr, bne_self_eq_false, List.length_map]); ((refine hK' _ ?_); clear hK' K'))
          ((refine ah_r 13 rfl (by kernel_rfl) rfl fun K' hK' => ?_); (simp only [go_sem, simprocAttr, bne_self_eq_false, List.length_map]); ((refine hK' _ ?_); clear hK' K'))
          (refine ah_done (by kernel_rfl) ?_; (simp only [go_sem, simprocAttr, bne_self_eq_false, List.length_map]); refine hK _ ?_; clear hK K)
          refine awp_ret ?_; refine hR _ _ (.inl rfl) rfl ?_
          simp only [go_sem, simprocAttr, bne_self_eq_false, List.length_map, htC, htB]
    · ((repeat' ((refine al_r rfl fun K' hK' => ?_); (repeat (simp only [go_sem, simprocAttr, bne_self_eq_false, List.length_map])); ((refine hK' _ _ ?_) <;> clear hK' K'))); all_goals refine al_nil ?_)
      ((refine ah_r 6 rfl (by kernel_rfl) rfl fun K' hK' => ?_); (simp only [go_sem, simprocAttr, bne_self_eq_false, List.length_map]); ((refine hK' _ ?_); clear hK' K'))
      refine ah_two 1 7 rfl rfl (by kernel_rfl) ?_ ?_
      · ((repeat' ((refine al_r rfl fun K' hK' => ?_); (repeat (simp only [go_sem, simprocAttr, bne_self_eq_false, List.length_map])); ((refine hK' _ _ ?_) <;> clear hK' K'))); all_goals refine al_nil ?_)
        ((refine ah_r 2 rfl (by kernel_rfl) rfl fun K' hK' => ?_); (simp only [go_sem, simprocAttr, bne_self_eq_false, List.length_map]); ((refine hK' _ ?_); clear hK' K'))
        refine ah_two 3 7 rfl rfl (by kernel_rfl) ?_ ?_
        · ((repeat' ((refine al_r rfl fun K' hK' => ?_); (repeat (simp only [go_sem, simprocAttr, bne_self_eq_false, List.length_map])); ((refine hK' _ _ ?_) <;> clear hK' K'))); all_goals refine al_nil ?_)
          (refine ah_one 7 rfl (by kernel_rfl) ?_; (repeat' ((refine al_r rfl fun K' hK' => ?_); (repeat (simp only [go_sem, simprocAttr, bne_self_eq_false, List.length_map])); ((refine hK' _ _ ?_) <;> clear hK' K'))); all_goals refine al_nil ?_)
          ((refine ah_r 8 rfl (by kernel_rfl) rfl fun K' hK' => ?_); (simp only [go_sem, simprocAttr, bne_self_eq_false, List.length_map]); ((refine ⟨?_, hK' _ ?_⟩) <;> clear hK' K' <;> (first | (intro s hs; cases hs; done) | skip)))
          (refine ah_one 9 rfl (by kernel_rfl) ?_; (repeat' ((refine al_r rfl fun K' hK' => ?_); (repeat (simp only [go_sem, simprocAttr, bne_self_eq_false, List.length_map])); ((refine hK' _ _ ?_) <;> clear hK' K'))); all_goals refine al_nil ?_)
          (refine ah_one 11 rfl (by kernel_rfl) ?_; (repeat' ((refine al_d rfl fun K' hK' => ?_); (repeat (first | (simp only [go_sem, simprocAttr, bne_self_eq_false, List.length_map]) | refine AS.mk ?_)); ((refine ⟨?_, hK' _ _ ?_⟩) <;> clear hK' K' <;> (first | (show alist _ _ _ _ _ _; skip) | (simp; done))))); all_goals refine al_nil ?_)
          ((refine ah_r 12 rfl (by kernel_rfl) rfl fun K' hK' => ?_); (simp only [go_sem, simprocAttr, bne_self_eq_false, List.length_map]); ((refine hK' _ ?_); clear hK' K'))
          ((refine ah_r 13 rfl (by kernel_rfl) rfl fun K' hK' => ?_); (simp only [go_sem, simprocAttr, bne_self_eq_false, List.length_map]); ((refine hK' _ ?_); clear hK' K'))
          (refine ah_done (by kernel_rfl) ?_; (simp only [go_sem, simprocAttr, bne_self_eq_false, List.length_map]); refine hK _ ?_; clear hK K)
          refine awp_ret ?_; refine hR _ _ (.inl rfl) rfl ?_
          simp only [go_sem, simprocAttr, bne_self_eq_false, List.length_map, htC, htB]
        · ((repeat' ((refine al_r rfl fun K' hK' => ?_); (repeat (simp only [go_sem, simprocAttr, bne_self_eq_false, List.length_map])); ((refine hK' _ _ ?_) <;> clear hK' K'))); all_goals refine al_nil ?_)
          ((refine ah_r 8 rfl (by kernel_rfl) rfl fun K' hK' => ?_); (simp only [go_sem, simprocAttr, bne_self_eq_false, List.length_map]); ((refine ⟨?_, hK' _ ?_⟩) <;> clear hK' K' <;> (first | (intro s hs; cases hs; done) | skip)))
          (refine ah_one 3 rfl (by kernel_rfl) ?_; (repeat' ((refine al_r rfl fun K' hK' => ?_); (repeat (simp only [go_sem, simprocAttr, bne_self_eq_false, List.length_map])); ((refine hK' _ _ ?_) <;> clear hK' K'))); all_goals refine al_nil ?_)
          (refine ah_one 9 rfl (by kernel_rfl) ?_; (repeat' ((refine al_r rfl fun K' hK' => ?_); (repeat (simp only [go_sem, simprocAttr, bne_self_eq_false, List.length_map])); ((refine hK' _ _ ?_) <;> clear hK' K'))); all_goals refine al_nil ?_)
          (refine ah_one 11 rfl (by kernel_rfl) ?_; (repeat' ((refine al_d rfl fun K' hK' => ?_); (repeat (first | (simp only [go_sem, simprocAttr, bne_self_eq_false, List.length_map]) | refine AS.mk ?_)); ((refine ⟨?_, hK' _ _ ?_⟩) <;> clear hK' K' <;> (first | (show alist _ _ _ _ _ _; skip) | (simp; done))))); all_goals refine al_nil ?_)
          ((refine ah_r 12 rfl (by kernel_rfl) rfl fun K' hK' => ?_); (simp only [go_sem, simprocAttr, bne_self_eq_false, List.length_map]); ((refine hK' _ ?_); clear hK' K'))
          ((refine ah_r 13 rfl (by kernel_rfl) rfl fun K' hK' => ?_); (simp only [go_sem, simprocAttr, bne_self_eq_false, List.length_map]); ((refine hK' _ ?_); clear hK' K'))
          (refine ah_done (by kernel_rfl) ?_; (simp only [go_sem, simprocAttr, bne_self_eq_false, List.length_map]); refine hK _ ?_; clear hK K)
          refine awp_ret ?_; refine hR _ _ (.inl rfl) rfl ?_
          simp only [go_sem, simprocAttr, bne_self_eq_false, List.length_map, htC, htB]
      · ((repeat' ((refine al_r rfl fun K' hK' => ?_); (repeat (simp only [go_sem, simprocAttr, bne_self_eq_false, List.length_map])); ((refine hK' _ _ ?_) <;> clear hK' K'))); all_goals refine al_nil ?_)
        ((refine ah_r 8 rfl (by kernel_rfl) rfl fun K' hK' => ?_); (simp only [go_sem, simprocAttr, bne_self_eq_false, List.length_map]); ((refine ⟨?_, hK' _ ?_⟩) <;> clear hK' K' <;> (first | (intro s hs; cases hs; done) | skip)))
        (refine ah_one 1 rfl (by kernel_rfl) ?_; (repeat' ((refine al_r rfl fun K' hK' => ?_); (repeat (simp only [go_sem, simprocAttr, bne_self_eq_false, List.length_map])); ((refine hK' _ _ ?_) <;> clear hK' K'))); all_goals refine al_nil ?_)
        ((refine ah_r 2 rfl (by kernel_rfl) rfl fun K' hK' => ?_); (simp only [go_sem, simprocAttr, bne_self_eq_false, List.length_map]); ((refine hK' _ ?_); clear hK' K'))
        (refine ah_one 3 rfl (by kernel_rfl) ?_; (repeat' ((refine al_r rfl fun K' hK' => ?_); (repeat (simp only [go_sem, simprocAttr, bne_self_eq_false, List.length_map])); ((refine hK' _ _ ?_) <;> clear hK' K'))); all_goals refine al_nil ?_)
        (refine ah_one 9 rfl (by kernel_rfl) ?_; (repeat' ((refine al_r rfl fun K' hK' => ?_); (repeat (simp only [go_sem, simprocAttr, bne_self_eq_false, List.length_map])); ((refine hK' _ _ ?_) <;> clear hK' K'))); all_goals refine al_nil ?_)
        (refine ah_one 11 rfl (by kernel_rfl) ?_; (repeat' ((refine al_d rfl fun K' hK' => ?_); (repeat (first | (simp only [go_sem, simprocAttr, bne_self_eq_false, List.length_map]) | refine AS.mk ?_)); ((refine ⟨?_, hK' _ _ ?_⟩) <;> clear hK' K' <;> (first | (show alist _ _ _ _ _ _; skip) | (simp; done))))); all_goals refine al_nil ?_)
        ((refine ah_r 12 rfl (by kernel_rfl) rfl fun K' hK' => ?_); (simp only [go_sem, simprocAttr, bne_self_eq_false, List.length_map]); ((refine hK' _ ?_); clear hK' K'))
        ((refine ah_r 13 rfl (by kernel_rfl) rfl fun K' hK' => ?_); (simp only [go_sem, simprocAttr, bne_self_eq_false, List.length_map]); ((refine hK' _ ?_); clear hK' K'))
        (refine ah_done (by kernel_rfl) ?_; (simp only [go_sem, simprocAttr, bne_self_eq_false, List.length_map]); refine hK _ ?_; clear hK K)
        refine awp_ret ?_; refine hR _ _ (.inl rfl) rfl ?_
        simp only [go_sem, simprocAttr, bne_self_eq_false, List.length_map, htC, htB]
    skip
end Go.Proofs.Ytagphggcdmjlpaa.P

/- Minor: a contract. -/
namespace Go.Proofs.Ytagphggcdmjlpaa.P
open Go.Ab Go.Proofs.Ytagphggcdmjlpaa.T


set_option maxRecDepth 100000 in
theorem minorGood (h : List Int) (n : Nat) (late ws : List Int) (f : Nat) (hnm : ACallP Try.prog 66 [agesD h n late, words ws] (iD 0)) (hg : h.length ≤ 4000) (hn : n ≤ h.length) (hok : ∀ w, w ∈ h → WordOk w) (hws : ws.length ≤ 100000) (hlate : late.length ≤ maxLen)
    (h1 : lateOK h n (h.take n, []) late) (h2 : rootsOK h n (lateC h n (h.take n, []) late) ws) (h3 : scanOK h n f (rootsC h n (lateC h n (h.take n, []) late) ws).2 n) :
    ACallP Try.prog 38 [agesD h n late, words ws] (.tup [.agg [words (scanC h n f (rootsC h n (lateC h n (h.take n, []) late) ws).2 n).1, iD (scanC h n f (rootsC h n (lateC h n (h.take n, []) late) ws).2 n).1.length, .p (.sl [])], words (rootsC h n (lateC h n (h.take n, []) late) ws).1, iD 0]) := by
  have htl : (h.take n).length = n := by rw [List.length_take]; omega
  have e0 : ((h.take n, []) : CS).1.length = n := htl
  have hrun := runCc h n (h.take n, []) late ws f (by simp [maxLen]; omega) hok (by rw [htl]; omega) hlate hws h1 h2 (by rw [e0]; exact h3)
  unfold copA at hrun
  rw [e0] at hrun
  clear h3 h2 h1
  generalize lateC h n (h.take n, []) late = A at hrun ⊢
  have hBl := roots_len h n ws A
  generalize rootsC h n A ws = B at hrun hBl ⊢
  have htB : List.take ws.length (B.1.map wrow) = B.1.map wrow := List.take_of_length_le (by simp [hBl])
  generalize scanC h n f B.2 n = C at hrun ⊢
  have htC : List.take C.1.length (C.1.map wrow) = C.1.map wrow := List.take_of_length_le (by simp)
  have hcl := cloneH (List.take n (h.map wrow)) (fun x hx => wrow1 h x (List.mem_of_mem_take hx)) (by simp; omega)
  have htn : (List.take n (h.map wrow)).length = n := by simp; omega
  rw [htn, ← List.map_take] at hcl
  have hcl : ACalls Try.prog 43 [.p (.sl (List.take n (h.map wrow)))] [] (fun r obs => r = .ref 0 0 n ∧ obs = [.row 1 ((h.take n).map wrow)]) := by rw [← List.map_take]; exact hcl
  have hn0 : (0 : Int) ≤ (n : Int) := Int.natCast_nonneg n
  have hnl : (n : Int) ≤ (h.length : Int) := by omega
  refine acallp_fnv [.cell 4 64, .tmp 5, .tmp 6] Try.func38 rfl rfl Try.ntmps38 (by simp) fun R hR => ?_
  (refine awp_reg_seq [1, 2, 4] fun K hK => ?_; (repeat' ((refine al_r rfl fun K' hK' => ?_); (repeat (simp only [go_sem, simprocAttr, bne_self_eq_false, List.length_map])); ((refine hK' _ _ ?_) <;> clear hK' K'))); all_goals (refine al_nil ?_; (simp only [go_sem, simprocAttr, bne_self_eq_false, List.length_map]); refine hK _ ?_; clear hK K))
  (refine awp_frz [1, 2, 4] [1] (by decide) (by (simp; done)) ?_; simp only [go_sem, simprocAttr, bne_self_eq_false, List.length_map])
  refine awp_seq_k fun K hK => ?_
  (refine awp_reg_seq [1, 2, 4, 7] fun K hK => ?_; (repeat' ((refine al_r rfl fun K' hK' => ?_); (repeat (simp only [go_sem, simprocAttr, bne_self_eq_false, List.length_map])); (first | ((refine hK' _ _ ?_) <;> clear hK' K') | ((show AC _ _ (D.fn 66 _) _ _); refine acall_g (f := 66) (e := rfl) (hr := rfl) (hf := by simp [D.all, D.allL, flatL, flatPV]) (k := hK' _ _ ?_) (hc := Try.call66) (h := hnm); clear hK' K')))); all_goals (refine al_nil ?_; (simp only [go_sem, simprocAttr, bne_self_eq_false, List.length_map]); refine hK _ ?_; clear hK K))
  (refine awp_reg_seq [1, 2, 4, 7, 14] fun K hK => ?_; (repeat' ((refine al_r rfl fun K' hK' => ?_); (repeat (simp only [go_sem, simprocAttr, bne_self_eq_false, List.length_map])); ((refine hK' _ _ ?_) <;> clear hK' K'))); all_goals (refine al_nil ?_; (simp only [go_sem, simprocAttr, bne_self_eq_false, List.length_map]); refine hK _ ?_; clear hK K))
  refine awp_if (_) rfl (fun hc => ?_) (fun hc => ?_)
  · cases hc
  · refine awp_skip ?_
    refine hK _ ?_; clear hK K

    refine awp_suff ⟨ofL [(1, words ws), (2, .rd [.sl (h.map wrow), .lit (.int .i64 n), .sl (late.map irow)] 0), (4, .ptr 0 0 0), (8, .ptr 1 0 0)], [.box [.nil, iD 0, .nil], .box [words h, iD n, .ref 2 0 n, .mp 3], .row 1 ((h.take n).map wrow), .map []], 0⟩ ?_ (fun keyA => ?_)
    rotate_left
    · refine awp_draw_seq (by kernel_rfl) [1, 2, 4, 8] fun K hK => ?_
      ((refine ah_r 0 rfl (by kernel_rfl) rfl fun K' hK' => ?_); (simp only [go_sem, simprocAttr, bne_self_eq_false, List.length_map, hn0, hnl, Int.toNat_natCast, List.drop_zero]); ((refine hK' _ ?_); clear hK' K'))
      ((refine ah_r 1 rfl (by kernel_rfl) rfl fun K' hK' => ?_); (simp only [go_sem, simprocAttr, bne_self_eq_false, List.length_map, hn0, hnl, Int.toNat_natCast, List.drop_zero]); ((refine hK' _ ?_); clear hK' K'))
      ((refine ah_r 2 rfl (by kernel_rfl) rfl fun K' hK' => ?_); (simp only [go_sem, simprocAttr, bne_self_eq_false, List.length_map, hn0, hnl, Int.toNat_natCast, List.drop_zero]); ((refine hK' _ ?_); clear hK' K'))
      ((refine ah_r 3 rfl (by kernel_rfl) rfl fun K' hK' => ?_); (simp only [go_sem, simprocAttr, bne_self_eq_false, List.length_map, hn0, hnl, Int.toNat_natCast, List.drop_zero]); ((refine hK' _ ?_); clear hK' K'))
      ((refine ah_r 4 rfl (by kernel_rfl) rfl fun K' hK' => ?_); (simp only [go_sem, simprocAttr, bne_self_eq_false, List.length_map, hn0, hnl, Int.toNat_natCast, List.drop_zero]); ((refine hK' _ ?_); clear hK' K'))
      ((refine ah_r 5 rfl (by kernel_rfl) rfl fun K' hK' => ?_); (simp only [go_sem, simprocAttr, bne_self_eq_false, List.length_map, hn0, hnl, Int.toNat_natCast, List.drop_zero]); ((refine hK' _ ?_); clear hK' K'))
      ((refine ah_r 6 rfl (by kernel_rfl) rfl fun K' hK' => ?_); (simp only [go_sem, simprocAttr, bne_self_eq_false, List.length_map, hn0, hnl, Int.toNat_natCast, List.drop_zero]); ((refine hK' _ ?_); clear hK' K'))
      ((refine ah_r 7 rfl (by kernel_rfl) rfl fun K' hK' => ?_); (simp only [go_sem, simprocAttr, bne_self_eq_false, List.length_map, hn0, hnl, Int.toNat_natCast, List.drop_zero]); ((refine hK' _ ?_); clear hK' K'))
      refine ah_two 8 10 rfl rfl (by kernel_rfl) ?_ ?_
      · ((repeat' ((refine al_r rfl fun K' hK' => ?_); (repeat (simp only [go_sem, simprocAttr, bne_self_eq_false, List.length_map, hn0, hnl, Int.toNat_natCast, List.drop_zero])); ((refine ⟨?_, hK' _ _ ?_⟩) <;> clear hK' K' <;> (first | (show alist _ _ _ _ _ _; skip) | (simp; done))))); all_goals refine al_nil ?_)
        refine ah_two 9 10 rfl rfl (by kernel_rfl) ?_ ?_
        · ((repeat' ((refine al_r rfl fun K' hK' => ?_); (repeat (simp only [go_sem, simprocAttr, bne_self_eq_false, List.length_map, hn0, hnl, Int.toNat_natCast, List.drop_zero])); ((show AC _ _ (D.fn 43 _) _ _); refine acall_new (f := 43) Try.call43 hcl rfl ?_; rintro r obs' ⟨rfl, rfl⟩; (simp only [go_sem, simprocAttr, bne_self_eq_false, List.length_map, hn0, hnl, Int.toNat_natCast, List.drop_zero]); refine hK' _ _ ?_; clear hK' K'))); all_goals refine al_nil ?_)
          (refine ah_one 10 rfl (by kernel_rfl) ?_; (repeat' ((refine al_r rfl fun K' hK' => ?_); (repeat (simp only [go_sem, simprocAttr, bne_self_eq_false, List.length_map, hn0, hnl, Int.toNat_natCast, List.drop_zero])); ((refine hK' _ _ ?_) <;> clear hK' K'))); all_goals refine al_nil ?_)
          (refine ah_one 11 rfl (by kernel_rfl) ?_; (repeat' ((refine al_r rfl fun K' hK' => ?_); (repeat (simp only [go_sem, simprocAttr, bne_self_eq_false, List.length_map, hn0, hnl, Int.toNat_natCast, List.drop_zero])); ((refine hK' _ _ ?_) <;> clear hK' K'))); all_goals refine al_nil ?_)
          (refine ah_one 12 rfl (by kernel_rfl) ?_; (repeat' ((refine al_r rfl fun K' hK' => ?_); (repeat (simp only [go_sem, simprocAttr, bne_self_eq_false, List.length_map, hn0, hnl, Int.toNat_natCast, List.drop_zero])); ((refine hK' _ _ ?_) <;> clear hK' K'))); all_goals refine al_nil ?_)
          ((refine ah_r 13 rfl (by kernel_rfl) rfl fun K' hK' => ?_); (simp only [go_sem, simprocAttr, bne_self_eq_false, List.length_map, hn0, hnl, Int.toNat_natCast, List.drop_zero]); ((refine hK' _ ?_); clear hK' K'))
          (refine ah_done (by kernel_rfl) ?_; (simp only [go_sem, simprocAttr, bne_self_eq_false, List.length_map, hn0, hnl, Int.toNat_natCast, List.drop_zero]); refine hK _ ?_; clear hK K)
          (refine awp_frz [1, 2, 4, 8] [0, 3, 1, 2] (by decide) (by (simp; done)) ?_; simp only [go_sem, simprocAttr, bne_self_eq_false, List.length_map, hn0, hnl, Int.toNat_natCast, List.drop_zero])
          exact keyA
        · ((repeat' ((refine al_r rfl fun K' hK' => ?_); (repeat (simp only [go_sem, simprocAttr, bne_self_eq_false, List.length_map, hn0, hnl, Int.toNat_natCast, List.drop_zero])); ((refine hK' _ _ ?_) <;> clear hK' K'))); all_goals refine al_nil ?_)
          (refine ah_one 9 rfl (by kernel_rfl) ?_; (repeat' ((refine al_r rfl fun K' hK' => ?_); (repeat (simp only [go_sem, simprocAttr, bne_self_eq_false, List.length_map, hn0, hnl, Int.toNat_natCast, List.drop_zero])); ((show AC _ _ (D.fn 43 _) _ _); refine acall_new (f := 43) Try.call43 hcl rfl ?_; rintro r obs' ⟨rfl, rfl⟩; (simp only [go_sem, simprocAttr, bne_self_eq_false, List.length_map, hn0, hnl, Int.toNat_natCast, List.drop_zero]); refine hK' _ _ ?_; clear hK' K'))); all_goals refine al_nil ?_)
          (refine ah_one 11 rfl (by kernel_rfl) ?_; (repeat' ((refine al_r rfl fun K' hK' => ?_); (repeat (simp only [go_sem, simprocAttr, bne_self_eq_false, List.length_map, hn0, hnl, Int.toNat_natCast, List.drop_zero])); ((refine hK' _ _ ?_) <;> clear hK' K'))); all_goals refine al_nil ?_)
          (refine ah_one 12 rfl (by kernel_rfl) ?_; (repeat' ((refine al_r rfl fun K' hK' => ?_); (repeat (simp only [go_sem, simprocAttr, bne_self_eq_false, List.length_map, hn0, hnl, Int.toNat_natCast, List.drop_zero])); ((refine hK' _ _ ?_) <;> clear hK' K'))); all_goals refine al_nil ?_)
          ((refine ah_r 13 rfl (by kernel_rfl) rfl fun K' hK' => ?_); (simp only [go_sem, simprocAttr, bne_self_eq_false, List.length_map, hn0, hnl, Int.toNat_natCast, List.drop_zero]); ((refine hK' _ ?_); clear hK' K'))
          (refine ah_done (by kernel_rfl) ?_; (simp only [go_sem, simprocAttr, bne_self_eq_false, List.length_map, hn0, hnl, Int.toNat_natCast, List.drop_zero]); refine hK _ ?_; clear hK K)
          (refine awp_frz [1, 2, 4, 8] [0, 3, 2, 1] (by decide) (by (simp; done)) ?_; simp only [go_sem, simprocAttr, bne_self_eq_false, List.length_map, hn0, hnl, Int.toNat_natCast, List.drop_zero])
          exact keyA
      · ((repeat' ((refine al_r rfl fun K' hK' => ?_); (repeat (simp only [go_sem, simprocAttr, bne_self_eq_false, List.length_map, hn0, hnl, Int.toNat_natCast, List.drop_zero])); ((refine hK' _ _ ?_) <;> clear hK' K'))); all_goals refine al_nil ?_)
        (refine ah_one 8 rfl (by kernel_rfl) ?_; (repeat' ((refine al_r rfl fun K' hK' => ?_); (repeat (simp only [go_sem, simprocAttr, bne_self_eq_false, List.length_map, hn0, hnl, Int.toNat_natCast, List.drop_zero])); ((refine ⟨?_, hK' _ _ ?_⟩) <;> clear hK' K' <;> (first | (show alist _ _ _ _ _ _; skip) | (simp; done))))); all_goals refine al_nil ?_)
        (refine ah_one 9 rfl (by kernel_rfl) ?_; (repeat' ((refine al_r rfl fun K' hK' => ?_); (repeat (simp only [go_sem, simprocAttr, bne_self_eq_false, List.length_map, hn0, hnl, Int.toNat_natCast, List.drop_zero])); ((show AC _ _ (D.fn 43 _) _ _); refine acall_new (f := 43) Try.call43 hcl rfl ?_; rintro r obs' ⟨rfl, rfl⟩; (simp only [go_sem, simprocAttr, bne_self_eq_false, List.length_map, hn0, hnl, Int.toNat_natCast, List.drop_zero]); refine hK' _ _ ?_; clear hK' K'))); all_goals refine al_nil ?_)
        (refine ah_one 11 rfl (by kernel_rfl) ?_; (repeat' ((refine al_r rfl fun K' hK' => ?_); (repeat (simp only [go_sem, simprocAttr, bne_self_eq_false, List.length_map, hn0, hnl, Int.toNat_natCast, List.drop_zero])); ((refine hK' _ _ ?_) <;> clear hK' K'))); all_goals refine al_nil ?_)
        (refine ah_one 12 rfl (by kernel_rfl) ?_; (repeat' ((refine al_r rfl fun K' hK' => ?_); (repeat (simp only [go_sem, simprocAttr, bne_self_eq_false, List.length_map, hn0, hnl, Int.toNat_natCast, List.drop_zero])); ((refine hK' _ _ ?_) <;> clear hK' K'))); all_goals refine al_nil ?_)
        ((refine ah_r 13 rfl (by kernel_rfl) rfl fun K' hK' => ?_); (simp only [go_sem, simprocAttr, bne_self_eq_false, List.length_map, hn0, hnl, Int.toNat_natCast, List.drop_zero]); ((refine hK' _ ?_); clear hK' K'))
        (refine ah_done (by kernel_rfl) ?_; (simp only [go_sem, simprocAttr, bne_self_eq_false, List.length_map, hn0, hnl, Int.toNat_natCast, List.drop_zero]); refine hK _ ?_; clear hK K)
        (refine awp_frz [1, 2, 4, 8] [0, 3, 2, 1] (by decide) (by (simp; done)) ?_; simp only [go_sem, simprocAttr, bne_self_eq_false, List.length_map, hn0, hnl, Int.toNat_natCast, List.drop_zero])
        exact keyA
    (refine awp_reg_seq [4, 8, 9] fun K hK => ?_; (repeat' ((refine al_r rfl fun K' hK' => ?_); (repeat (simp only [go_sem, simprocAttr, bne_self_eq_false, List.length_map, hn0, hnl, Int.toNat_natCast, List.drop_zero])); (first | ((refine hK' _ _ ?_) <;> clear hK' K') | ((show AC _ _ (D.fn 73 _) _ _); refine acall_m (f := 73) [1, 2, 3] Try.call73 hrun rfl rfl (by decide) (by simp) ?_; rintro r obs' ⟨rfl, rfl⟩; refine ⟨by simp, ?_⟩; (simp only [go_sem, simprocAttr, bne_self_eq_false, List.length_map, hn0, hnl, Int.toNat_natCast, List.drop_zero]); refine hK' _ _ ?_; clear hK' K')))); all_goals (refine al_nil ?_; (simp only [go_sem, simprocAttr, bne_self_eq_false, List.length_map, hn0, hnl, Int.toNat_natCast, List.drop_zero]); refine hK _ ?_; clear hK K))
    refine awp_draw_seq (by kernel_rfl) [4, 5, 6] fun K hK => ?_
    ((refine ah_r 0 rfl (by kernel_rfl) rfl fun K' hK' => ?_); (simp only [go_sem, simprocAttr, bne_self_eq_false, List.length_map, hn0, hnl, Int.toNat_natCast, List.drop_zero]); ((refine hK' _ ?_); clear hK' K'))
    ((refine ah_r 4 rfl (by kernel_rfl) rfl fun K' hK' => ?_); (simp only [go_sem, simprocAttr, bne_self_eq_false, List.length_map, hn0, hnl, Int.toNat_natCast, List.drop_zero]); ((refine hK' _ ?_); clear hK' K'))
    ((refine ah_r 10 rfl (by kernel_rfl) rfl fun K' hK' => ?_); (simp only [go_sem, simprocAttr, bne_self_eq_false, List.length_map, hn0, hnl, Int.toNat_natCast, List.drop_zero]); ((refine hK' _ ?_); clear hK' K'))
    refine ah_two 1 5 rfl rfl (by kernel_rfl) ?_ ?_
    · ((repeat' ((refine al_r rfl fun K' hK' => ?_); (repeat (simp only [go_sem, simprocAttr, bne_self_eq_false, List.length_map, hn0, hnl, Int.toNat_natCast, List.drop_zero])); ((refine hK' _ _ ?_) <;> clear hK' K'))); all_goals refine al_nil ?_)
      ((refine ah_r 2 rfl (by kernel_rfl) rfl fun K' hK' => ?_); (simp only [go_sem, simprocAttr, bne_self_eq_false, List.length_map, hn0, hnl, Int.toNat_natCast, List.drop_zero]); ((refine hK' _ ?_); clear hK' K'))
      refine ah_two 3 5 rfl rfl (by kernel_rfl) ?_ ?_
      · ((repeat' ((refine al_r rfl fun K' hK' => ?_); (repeat (simp only [go_sem, simprocAttr, bne_self_eq_false, List.length_map, hn0, hnl, Int.toNat_natCast, List.drop_zero])); ((refine hK' _ _ ?_) <;> clear hK' K'))); all_goals refine al_nil ?_)
        (refine ah_one 5 rfl (by kernel_rfl) ?_; (repeat' ((refine al_r rfl fun K' hK' => ?_); (repeat (simp only [go_sem, simprocAttr, bne_self_eq_false, List.length_map, hn0, hnl, Int.toNat_natCast, List.drop_zero])); ((refine hK' _ _ ?_) <;> clear hK' K'))); all_goals refine al_nil ?_)
        ((refine ah_r 6 rfl (by kernel_rfl) rfl fun K' hK' => ?_); (simp only [go_sem, simprocAttr, bne_self_eq_false, List.length_map, hn0, hnl, Int.toNat_natCast, List.drop_zero]); ((refine hK' _ ?_); clear hK' K'))
        (refine ah_one 7 rfl (by kernel_rfl) ?_; (repeat' ((refine al_r rfl fun K' hK' => ?_); (repeat (simp only [go_sem, simprocAttr, bne_self_eq_false, List.length_map, hn0, hnl, Int.toNat_natCast, List.drop_zero])); ((refine hK' _ _ ?_) <;> clear hK' K'))); all_goals refine al_nil ?_)
        ((refine ah_r 8 rfl (by kernel_rfl) rfl fun K' hK' => ?_); (simp only [go_sem, simprocAttr, bne_self_eq_false, List.length_map, hn0, hnl, Int.toNat_natCast, List.drop_zero]); ((refine ⟨?_, hK' _ ?_⟩) <;> clear hK' K' <;> (first | (intro s hs; cases hs; done) | skip)))
        (refine ah_one 9 rfl (by kernel_rfl) ?_; (repeat' ((refine al_r rfl fun K' hK' => ?_); (repeat (simp only [go_sem, simprocAttr, bne_self_eq_false, List.length_map, hn0, hnl, Int.toNat_natCast, List.drop_zero])); ((refine hK' _ _ ?_) <;> clear hK' K'))); all_goals refine al_nil ?_)
        (refine ah_one 11 rfl (by kernel_rfl) ?_; (repeat' ((refine al_d rfl fun K' hK' => ?_); (repeat (first | (simp only [go_sem, simprocAttr, bne_self_eq_false, List.length_map, hn0, hnl, Int.toNat_natCast, List.drop_zero]) | refine AS.mk ?_)); ((refine ⟨?_, hK' _ _ ?_⟩) <;> clear hK' K' <;> (first | (show alist _ _ _ _ _ _; skip) | (simp; done))))); all_goals refine al_nil ?_)
        ((refine ah_r 12 rfl (by kernel_rfl) rfl fun K' hK' => ?_); (simp only [go_sem, simprocAttr, bne_self_eq_false, List.length_map, hn0, hnl, Int.toNat_natCast, List.drop_zero]); ((refine hK' _ ?_); clear hK' K'))
        ((refine ah_r 13 rfl (by kernel_rfl) rfl fun K' hK' => ?_); (simp only [go_sem, simprocAttr, bne_self_eq_false, List.length_map, hn0, hnl, Int.toNat_natCast, List.drop_zero]); ((refine hK' _ ?_); clear hK' K'))
        (refine ah_done (by kernel_rfl) ?_; (simp only [go_sem, simprocAttr, bne_self_eq_false, List.length_map, hn0, hnl, Int.toNat_natCast, List.drop_zero]); refine hK _ ?_; clear hK K)
        refine awp_ret ?_; refine hR _ _ (.inl rfl) rfl ?_
        simp only [go_sem, simprocAttr, bne_self_eq_false, List.length_map, hn0, hnl, Int.toNat_natCast, List.drop_zero, htC, htB]
      · ((repeat' ((refine al_r rfl fun K' hK' => ?_); (repeat (simp only [go_sem, simprocAttr, bne_self_eq_false, List.length_map, hn0, hnl, Int.toNat_natCast, List.drop_zero])); ((refine hK' _ _ ?_) <;> clear hK' K'))); all_goals refine al_nil ?_)
        ((refine ah_r 6 rfl (by kernel_rfl) rfl fun K' hK' => ?_); (simp only [go_sem, simprocAttr, bne_self_eq_false, List.length_map, hn0, hnl, Int.toNat_natCast, List.drop_zero]); ((refine hK' _ ?_); clear hK' K'))
        refine ah_two 3 7 rfl rfl (by kernel_rfl) ?_ ?_
        · ((repeat' ((refine al_r rfl fun K' hK' => ?_); (repeat (simp only [go_sem, simprocAttr, bne_self_eq_false, List.length_map, hn0, hnl, Int.toNat_natCast, List.drop_zero])); ((refine hK' _ _ ?_) <;> clear hK' K'))); all_goals refine al_nil ?_)
          (refine ah_one 7 rfl (by kernel_rfl) ?_; (repeat' ((refine al_r rfl fun K' hK' => ?_); (repeat (simp only [go_sem, simprocAttr, bne_self_eq_false, List.length_map, hn0, hnl, Int.toNat_natCast, List.drop_zero])); ((refine hK' _ _ ?_) <;> clear hK' K'))); all_goals refine al_nil ?_)
          ((refine ah_r 8 rfl (by kernel_rfl) rfl fun K' hK' => ?_); (simp only [go_sem, simprocAttr, bne_self_eq_false, List.length_map, hn0, hnl, Int.toNat_natCast, List.drop_zero]); ((refine ⟨?_, hK' _ ?_⟩) <;> clear hK' K' <;> (first | (intro s hs; cases hs; done) | skip)))
          (refine ah_one 9 rfl (by kernel_rfl) ?_; (repeat' ((refine al_r rfl fun K' hK' => ?_); (repeat (simp only [go_sem, simprocAttr, bne_self_eq_false, List.length_map, hn0, hnl, Int.toNat_natCast, List.drop_zero])); ((refine hK' _ _ ?_) <;> clear hK' K'))); all_goals refine al_nil ?_)
          (refine ah_one 11 rfl (by kernel_rfl) ?_; (repeat' ((refine al_d rfl fun K' hK' => ?_); (repeat (first | (simp only [go_sem, simprocAttr, bne_self_eq_false, List.length_map, hn0, hnl, Int.toNat_natCast, List.drop_zero]) | refine AS.mk ?_)); ((refine ⟨?_, hK' _ _ ?_⟩) <;> clear hK' K' <;> (first | (show alist _ _ _ _ _ _; skip) | (simp; done))))); all_goals refine al_nil ?_)
          ((refine ah_r 12 rfl (by kernel_rfl) rfl fun K' hK' => ?_); (simp only [go_sem, simprocAttr, bne_self_eq_false, List.length_map, hn0, hnl, Int.toNat_natCast, List.drop_zero]); ((refine hK' _ ?_); clear hK' K'))
          ((refine ah_r 13 rfl (by kernel_rfl) rfl fun K' hK' => ?_); (simp only [go_sem, simprocAttr, bne_self_eq_false, List.length_map, hn0, hnl, Int.toNat_natCast, List.drop_zero]); ((refine hK' _ ?_); clear hK' K'))
          (refine ah_done (by kernel_rfl) ?_; (simp only [go_sem, simprocAttr, bne_self_eq_false, List.length_map, hn0, hnl, Int.toNat_natCast, List.drop_zero]); refine hK _ ?_; clear hK K)
          refine awp_ret ?_; refine hR _ _ (.inl rfl) rfl ?_
          simp only [go_sem, simprocAttr, bne_self_eq_false, List.length_map, hn0, hnl, Int.toNat_natCast, List.drop_zero, htC, htB]
        · ((repeat' ((refine al_r rfl fun K' hK' => ?_); (repeat (simp only [go_sem, simprocAttr, bne_self_eq_false, List.length_map, hn0, hnl, Int.toNat_natCast, List.drop_zero])); ((refine hK' _ _ ?_) <;> clear hK' K'))); all_goals refine al_nil ?_)
          ((refine ah_r 8 rfl (by kernel_rfl) rfl fun K' hK' => ?_); (simp only [go_sem, simprocAttr, bne_self_eq_false, List.length_map, hn0, hnl, Int.toNat_natCast, List.drop_zero]); ((refine ⟨?_, hK' _ ?_⟩) <;> clear hK' K' <;> (first | (intro s hs; cases hs; done) | skip)))
          (refine ah_one 3 rfl (by kernel_rfl) ?_; (repeat' ((refine al_r rfl fun K' hK' => ?_); (repeat (simp only [go_sem, simprocAttr, bne_self_eq_false, List.length_map, hn0, hnl, Int.toNat_natCast, List.drop_zero])); ((refine hK' _ _ ?_) <;> clear hK' K'))); all_goals refine al_nil ?_)
          (refine ah_one 9 rfl (by kernel_rfl) ?_; (repeat' ((refine al_r rfl fun K' hK' => ?_); (repeat (simp only [go_sem, simprocAttr, bne_self_eq_false, List.length_map, hn0, hnl, Int.toNat_natCast, List.drop_zero])); ((refine hK' _ _ ?_) <;> clear hK' K'))); all_goals refine al_nil ?_)
          (refine ah_one 11 rfl (by kernel_rfl) ?_; (repeat' ((refine al_d rfl fun K' hK' => ?_); (repeat (first | (simp only [go_sem, simprocAttr, bne_self_eq_false, List.length_map, hn0, hnl, Int.toNat_natCast, List.drop_zero]) | refine AS.mk ?_)); ((refine ⟨?_, hK' _ _ ?_⟩) <;> clear hK' K' <;> (first | (show alist _ _ _ _ _ _; skip) | (simp; done))))); all_goals refine al_nil ?_)
          ((refine ah_r 12 rfl (by kernel_rfl) rfl fun K' hK' => ?_); (simp only [go_sem, simprocAttr, bne_self_eq_false, List.length_map, hn0, hnl, Int.toNat_natCast, List.drop_zero]); ((refine hK' _ ?_); clear hK' K'))
          ((refine ah_r 13 rfl (by kernel_rfl) rfl fun K' hK' => ?_); (simp only [go_sem, simprocAttr, bne_self_eq_false, List.length_map, hn0, hnl, Int.toNat_natCast, List.drop_zero]); ((refine hK' _ ?_); clear hK' K'))
          (refine ah_done (by kernel_rfl) ?_; (simp only [go_sem, simprocAttr, bne_self_eq_false, List.length_map, hn0, hnl, Int.toNat_natCast, List.drop_zero]); refine hK _ ?_; clear hK K)
          refine awp_ret ?_; refine hR _ _ (.inl rfl) rfl ?_
          simp only [go_sem, simprocAttr, bne_self_eq_false, List.length_map, hn0, hnl, Int.toNat_natCast, List.drop_zero, htC, htB]
    · ((repeat' ((refine al_r rfl fun K' hK' => ?_); (repeat (simp only [go_sem, simprocAttr, bne_self_eq_false, List.length_map, hn0, hnl, Int.toNat_natCast, List.drop_zero])); ((refine hK' _ _ ?_) <;> clear hK' K'))); all_goals refine al_nil ?_)
      ((refine ah_r 6 rfl (by kernel_rfl) rfl fun K' hK' => ?_); (simp only [go_sem, simprocAttr, bne_self_eq_false, List.length_map, hn0, hnl, Int.toNat_natCast, List.drop_zero]); ((refine hK' _ ?_); clear hK' K'))
      refine ah_two 1 7 rfl rfl (by kernel_rfl) ?_ ?_
      · ((repeat' ((refine al_r rfl fun K' hK' => ?_); (repeat (simp only [go_sem, simprocAttr, bne_self_eq_false, List.length_map, hn0, hnl, Int.toNat_natCast, List.drop_zero])); ((refine hK' _ _ ?_) <;> clear hK' K'))); all_goals refine al_nil ?_)
        ((refine ah_r 2 rfl (by kernel_rfl) rfl fun K' hK' => ?_); (simp only [go_sem, simprocAttr, bne_self_eq_false, List.length_map, hn0, hnl, Int.toNat_natCast, List.drop_zero]); ((refine hK' _ ?_); clear hK' K'))
        refine ah_two 3 7 rfl rfl (by kernel_rfl) ?_ ?_
        · ((repeat' ((refine al_r rfl fun K' hK' => ?_); (repeat (simp only [go_sem, simprocAttr, bne_self_eq_false, List.length_map, hn0, hnl, Int.toNat_natCast, List.drop_zero])); ((refine hK' _ _ ?_) <;> clear hK' K'))); all_goals refine al_nil ?_)
          (refine ah_one 7 rfl (by kernel_rfl) ?_; (repeat' ((refine al_r rfl fun K' hK' => ?_); (repeat (simp only [go_sem, simprocAttr, bne_self_eq_false, List.length_map, hn0, hnl, Int.toNat_natCast, List.drop_zero])); ((refine hK' _ _ ?_) <;> clear hK' K'))); all_goals refine al_nil ?_)
          ((refine ah_r 8 rfl (by kernel_rfl) rfl fun K' hK' => ?_); (simp only [go_sem, simprocAttr, bne_self_eq_false, List.length_map, hn0, hnl, Int.toNat_natCast, List.drop_zero]); ((refine ⟨?_, hK' _ ?_⟩) <;> clear hK' K' <;> (first | (intro s hs; cases hs; done) | skip)))
          (refine ah_one 9 rfl (by kernel_rfl) ?_; (repeat' ((refine al_r rfl fun K' hK' => ?_); (repeat (simp only [go_sem, simprocAttr, bne_self_eq_false, List.length_map, hn0, hnl, Int.toNat_natCast, List.drop_zero])); ((refine hK' _ _ ?_) <;> clear hK' K'))); all_goals refine al_nil ?_)
          (refine ah_one 11 rfl (by kernel_rfl) ?_; (repeat' ((refine al_d rfl fun K' hK' => ?_); (repeat (first | (simp only [go_sem, simprocAttr, bne_self_eq_false, List.length_map, hn0, hnl, Int.toNat_natCast, List.drop_zero]) | refine AS.mk ?_)); ((refine ⟨?_, hK' _ _ ?_⟩) <;> clear hK' K' <;> (first | (show alist _ _ _ _ _ _; skip) | (simp; done))))); all_goals refine al_nil ?_)
          ((refine ah_r 12 rfl (by kernel_rfl) rfl fun K' hK' => ?_); (simp only [go_sem, simprocAttr, bne_self_eq_false, List.length_map, hn0, hnl, Int.toNat_natCast, List.drop_zero]); ((refine hK' _ ?_); clear hK' K'))
          ((refine ah_r 13 rfl (by kernel_rfl) rfl fun K' hK' => ?_); (simp only [go_sem, simprocAttr, bne_self_eq_false, List.length_map, hn0, hnl, Int.toNat_natCast, List.drop_zero]); ((refine hK' _ ?_); clear hK' K'))
          (refine ah_done (by kernel_rfl) ?_; (simp only [go_sem, simprocAttr, bne_self_eq_false, List.length_map, hn0, hnl, Int.toNat_natCast, List.drop_zero]); refine hK _ ?_; clear hK K)
          refine awp_ret ?_; refine hR _ _ (.inl rfl) rfl ?_
          simp only [go_sem, simprocAttr, bne_self_eq_false, List.length_map, hn0, hnl, Int.toNat_natCast, List.drop_zero, htC, htB]
        · ((repeat' ((refine al_r rfl fun K' hK' => ?_); (repeat (simp only [go_sem, simprocAttr, bne_self_eq_false, List.length_map, hn0, hnl, Int.toNat_natCast, List.drop_zero])); ((refine hK' _ _ ?_) <;> clear hK' K'))); all_goals refine al_nil ?_)
          ((refine ah_r 8 rfl (by kernel_rfl) rfl fun K' hK' => ?_); (simp only [go_sem, simprocAttr, bne_self_eq_false, List.length_map, hn0, hnl, Int.toNat_natCast, List.drop_zero]); ((refine ⟨?_, hK' _ ?_⟩) <;> clear hK' K' <;> (first | (intro s hs; cases hs; done) | skip)))
          (refine ah_one 3 rfl (by kernel_rfl) ?_; (repeat' ((refine al_r rfl fun K' hK' => ?_); (repeat (simp only [go_sem, simprocAttr, bne_self_eq_false, List.length_map, hn0, hnl, Int.toNat_natCast, List.drop_zero])); ((refine hK' _ _ ?_) <;> clear hK' K'))); all_goals refine al_nil ?_)
          (refine ah_one 9 rfl (by kernel_rfl) ?_; (repeat' ((refine al_r rfl fun K' hK' => ?_); (repeat (simp only [go_sem, simprocAttr, bne_self_eq_false, List.length_map, hn0, hnl, Int.toNat_natCast, List.drop_zero])); ((refine hK' _ _ ?_) <;> clear hK' K'))); all_goals refine al_nil ?_)
          (refine ah_one 11 rfl (by kernel_rfl) ?_; (repeat' ((refine al_d rfl fun K' hK' => ?_); (repeat (first | (simp only [go_sem, simprocAttr, bne_self_eq_false, List.length_map, hn0, hnl, Int.toNat_natCast, List.drop_zero]) | refine AS.mk ?_)); ((refine ⟨?_, hK' _ _ ?_⟩) <;> clear hK' K' <;> (first | (show alist _ _ _ _ _ _; skip) | (simp; done))))); all_goals refine al_nil ?_)
          ((refine ah_r 12 rfl (by kernel_rfl) rfl fun K' hK' => ?_); (simp only [go_sem, simprocAttr, bne_self_eq_false, List.length_map, hn0, hnl, Int.toNat_natCast, List.drop_zero]); ((refine hK' _ ?_); clear hK' K'))
          ((refine ah_r 13 rfl (by kernel_rfl) rfl fun K' hK' => ?_); (simp only [go_sem, simprocAttr, bne_self_eq_false, List.length_map, hn0, hnl, Int.toNat_natCast, List.drop_zero]); ((refine hK' _ ?_); clear hK' K'))
          (refine ah_done (by kernel_rfl) ?_; (simp only [go_sem, simprocAttr, bne_self_eq_false, List.length_map, hn0, hnl, Int.toNat_natCast, List.drop_zero]); refine hK _ ?_; clear hK K)
          refine awp_ret ?_; refine hR _ _ (.inl rfl) rfl ?_
          simp only [go_sem, simprocAttr, bne_self_eq_false, List.length_map, hn0, hnl, Int.toNat_natCast, List.drop_zero, htC, htB]
      · ((repeat' ((refine al_r rfl fun K' hK' => ?_); (repeat (simp only [go_sem, simprocAttr, bne_self_eq_false, List.length_map, hn0, hnl, Int.toNat_natCast, List.drop_zero])); ((refine hK' _ _ ?_) <;> clear hK' K'))); all_goals refine al_nil ?_)
        ((refine ah_r 8 rfl (by kernel_rfl) rfl fun K' hK' => ?_); (simp only [go_sem, simprocAttr, bne_self_eq_false, List.length_map, hn0, hnl, Int.toNat_natCast, List.drop_zero]); ((refine ⟨?_, hK' _ ?_⟩) <;> clear hK' K' <;> (first | (intro s hs; cases hs; done) | skip)))
        (refine ah_one 1 rfl (by kernel_rfl) ?_; (repeat' ((refine al_r rfl fun K' hK' => ?_); (repeat (simp only [go_sem, simprocAttr, bne_self_eq_false, List.length_map, hn0, hnl, Int.toNat_natCast, List.drop_zero])); ((refine hK' _ _ ?_) <;> clear hK' K'))); all_goals refine al_nil ?_)
        ((refine ah_r 2 rfl (by kernel_rfl) rfl fun K' hK' => ?_); (simp only [go_sem, simprocAttr, bne_self_eq_false, List.length_map, hn0, hnl, Int.toNat_natCast, List.drop_zero]); ((refine hK' _ ?_); clear hK' K'))
        (refine ah_one 3 rfl (by kernel_rfl) ?_; (repeat' ((refine al_r rfl fun K' hK' => ?_); (repeat (simp only [go_sem, simprocAttr, bne_self_eq_false, List.length_map, hn0, hnl, Int.toNat_natCast, List.drop_zero])); ((refine hK' _ _ ?_) <;> clear hK' K'))); all_goals refine al_nil ?_)
        (refine ah_one 9 rfl (by kernel_rfl) ?_; (repeat' ((refine al_r rfl fun K' hK' => ?_); (repeat (simp only [go_sem, simprocAttr, bne_self_eq_false, List.length_map, hn0, hnl, Int.toNat_natCast, List.drop_zero])); ((refine hK' _ _ ?_) <;> clear hK' K'))); all_goals refine al_nil ?_)
        (refine ah_one 11 rfl (by kernel_rfl) ?_; (repeat' ((refine al_d rfl fun K' hK' => ?_); (repeat (first | (simp only [go_sem, simprocAttr, bne_self_eq_false, List.length_map, hn0, hnl, Int.toNat_natCast, List.drop_zero]) | refine AS.mk ?_)); ((refine ⟨?_, hK' _ _ ?_⟩) <;> clear hK' K' <;> (first | (show alist _ _ _ _ _ _; skip) | (simp; done))))); all_goals refine al_nil ?_)
        ((refine ah_r 12 rfl (by kernel_rfl) rfl fun K' hK' => ?_); (simp only [go_sem, simprocAttr, bne_self_eq_false, List.length_map, hn0, hnl, Int.toNat_natCast, List.drop_zero]); ((refine hK' _ ?_); clear hK' K'))
        ((refine ah_r 13 rfl (by kernel_rfl) rfl fun K' hK' => ?_); (simp only [go_sem, simprocAttr, bne_self_eq_false, List.length_map, hn0, hnl, Int.toNat_natCast, List.drop_zero]); ((refine hK' _ ?_); clear hK' K'))
        (refine ah_done (by kernel_rfl) ?_; (simp only [go_sem, simprocAttr, bne_self_eq_false, List.length_map, hn0, hnl, Int.toNat_natCast, List.drop_zero]); refine hK _ ?_; clear hK K)
        refine awp_ret ?_; refine hR _ _ (.inl rfl) rfl ?_
        simp only [go_sem, simprocAttr, bne_self_eq_false, List.length_map, hn0, hnl, Int.toNat_natCast, List.drop_zero, htC, htB]
    skip
end Go.Proofs.Ytagphggcdmjlpaa.P

/- Add: contracts; and the closed fact youths. -/
namespace Go.Proofs.Ytagphggcdmjlpaa.P
open Go.Ab Go.Proofs.Ytagphggcdmjlpaa.T


theorem addBad (h : List Int) (old e k n : Int) (text : ByteArray) (args : List (List PV)) (late : List Int) (he : (e != 0) = true) (hck : ACallP Try.prog 35 [agesD h old late] (iD e)) : ACallP Try.prog 71 [agesD h old late, valD k n text args] (.tup [zagesD, wD 0, iD e]) := by
  refine acallp_fnv [.cell 4 64, .tmp 5, .tmp 6] Try.func71 rfl rfl Try.ntmps71 (by simp) fun R hR => ?_
  (refine awp_reg_seq [2, 3, 4] fun K hK => ?_; (repeat' ((refine al_r rfl fun K' hK' => ?_); (repeat (simp only [go_sem, simprocAttr, he])); ((refine hK' _ _ ?_) <;> clear hK' K'))); all_goals (refine al_nil ?_; (simp only [go_sem, simprocAttr, he]); refine hK _ ?_; clear hK K))
  (refine awp_frz [2, 3, 4] [2] (by decide) (by (simp; done)) ?_; simp only [go_sem, simprocAttr, he])
  refine awp_seq_k fun K hK => ?_
  (refine awp_reg_seq [2, 3, 4, 7] fun K hK => ?_; (repeat' ((refine al_r rfl fun K' hK' => ?_); (repeat (simp only [go_sem, simprocAttr, he])); (first | ((refine hK' _ _ ?_) <;> clear hK' K') | ((show AC _ _ (D.fn 35 _) _ _); refine acall_g (f := 35) (e := rfl) (hr := rfl) (hf := by simp [D.all, D.allL, flatL, flatPV]) (k := hK' _ _ ?_) (hc := Try.call35) (h := hck); clear hK' K')))); all_goals (refine al_nil ?_; (simp only [go_sem, simprocAttr, he]); refine hK _ ?_; clear hK K))
  (refine awp_reg_seq [2, 3, 4, 7, 14] fun K hK => ?_; (repeat' ((refine al_r rfl fun K' hK' => ?_); (repeat (simp only [go_sem, simprocAttr, he])); ((refine hK' _ _ ?_) <;> clear hK' K'))); all_goals (refine al_nil ?_; (simp only [go_sem, simprocAttr, he]); refine hK _ ?_; clear hK K))
  refine awp_if (_) rfl (fun hc => ?_) (fun hc => ?_)
  · (refine awp_reg_seq [4, 5, 6] fun K hK => ?_; (repeat' ((first | refine al_r rfl fun K' hK' => ?_ | refine al_d rfl fun K' hK' => ?_); (repeat (first | (simp only [go_sem, simprocAttr, he]) | refine AS.mk ?_)); ((first | refine hK' _ _ ?_ | refine ⟨?_, hK' _ _ ?_⟩) <;> clear hK' K' <;> (first | (show alist _ _ _ _ _ _; skip) | (simp; done))))); all_goals (refine al_nil ?_; (simp only [go_sem, simprocAttr, he]); refine hK _ ?_; clear hK K))
    refine awp_ret ?_; refine hR _ _ (.inl rfl) rfl ?_
    simp only [go_sem, simprocAttr, he, List.map_nil]
  · cases hc


theorem addFail (h g : List Int) (old e k n w : Int) (text : ByteArray) (args : List (List PV)) (late : List Int) (he : (e != 0) = true) (hck : ACallP Try.prog 35 [agesD h old late] (iD 0)) (hbu : ACallP Try.prog 23 [words h, valD k n text args] (.tup [words g, wD w, iD e])) : ACallP Try.prog 71 [agesD h old late, valD k n text args] (.tup [zagesD, wD 0, iD e]) := by
  refine acallp_fnv [.cell 4 64, .tmp 5, .tmp 6] Try.func71 rfl rfl Try.ntmps71 (by simp) fun R hR => ?_
  (refine awp_reg_seq [2, 3, 4] fun K hK => ?_; (repeat' ((refine al_r rfl fun K' hK' => ?_); (repeat (simp only [go_sem, simprocAttr, he, bne_self_eq_false])); ((refine hK' _ _ ?_) <;> clear hK' K'))); all_goals (refine al_nil ?_; (simp only [go_sem, simprocAttr, he, bne_self_eq_false]); refine hK _ ?_; clear hK K))
  (refine awp_frz [2, 3, 4] [2] (by decide) (by (simp; done)) ?_; simp only [go_sem, simprocAttr, he, bne_self_eq_false])
  refine awp_seq_k fun K hK => ?_
  (refine awp_reg_seq [2, 3, 4, 7] fun K hK => ?_; (repeat' ((refine al_r rfl fun K' hK' => ?_); (repeat (simp only [go_sem, simprocAttr, he, bne_self_eq_false])); (first | ((refine hK' _ _ ?_) <;> clear hK' K') | ((show AC _ _ (D.fn 35 _) _ _); refine acall_g (f := 35) (e := rfl) (hr := rfl) (hf := by simp [D.all, D.allL, flatL, flatPV]) (k := hK' _ _ ?_) (hc := Try.call35) (h := hck); clear hK' K')))); all_goals (refine al_nil ?_; (simp only [go_sem, simprocAttr, he, bne_self_eq_false]); refine hK _ ?_; clear hK K))
  (refine awp_reg_seq [2, 3, 4, 7, 14] fun K hK => ?_; (repeat' ((refine al_r rfl fun K' hK' => ?_); (repeat (simp only [go_sem, simprocAttr, he, bne_self_eq_false])); ((refine hK' _ _ ?_) <;> clear hK' K'))); all_goals (refine al_nil ?_; (simp only [go_sem, simprocAttr, he, bne_self_eq_false]); refine hK _ ?_; clear hK K))
  refine awp_if (_) rfl (fun hc => ?_) (fun hc => ?_)
  · cases hc
  · refine awp_skip ?_
    refine hK _ ?_; clear hK K
    (refine awp_reg_seq [2, 4, 8, 9, 10] fun K hK => ?_; (repeat' ((refine al_r rfl fun K' hK' => ?_); (repeat (simp only [go_sem, simprocAttr, he, bne_self_eq_false])); (first | ((refine hK' _ _ ?_) <;> clear hK' K') | ((show AC _ _ (D.fn 23 _) _ _); refine acall_p (f := 23) (e := rfl) (hr := rfl) (k := hK' _ _ ?_) (hc := Try.call23) (h := hbu); clear hK' K')))); all_goals (refine al_nil ?_; (simp only [go_sem, simprocAttr, he, bne_self_eq_false]); refine hK _ ?_; clear hK K))
    refine awp_seq_k fun K hK => ?_
    (refine awp_reg_seq [2, 4, 8, 9, 10, 26] fun K hK => ?_; (repeat' ((refine al_r rfl fun K' hK' => ?_); (repeat (simp only [go_sem, simprocAttr, he, bne_self_eq_false])); ((refine hK' _ _ ?_) <;> clear hK' K'))); all_goals (refine al_nil ?_; (simp only [go_sem, simprocAttr, he, bne_self_eq_false]); refine hK _ ?_; clear hK K))
    refine awp_if (_) rfl (fun hc => ?_) (fun hc => ?_)
    · (refine awp_reg_seq [4, 5, 6] fun K hK => ?_; (repeat' ((first | refine al_r rfl fun K' hK' => ?_ | refine al_d rfl fun K' hK' => ?_); (repeat (first | (simp only [go_sem, simprocAttr, he, bne_self_eq_false]) | refine AS.mk ?_)); ((first | refine hK' _ _ ?_ | refine ⟨?_, hK' _ _ ?_⟩) <;> clear hK' K' <;> (first | (show alist _ _ _ _ _ _; skip) | (simp; done))))); all_goals (refine al_nil ?_; (simp only [go_sem, simprocAttr, he, bne_self_eq_false]); refine hK _ ?_; clear hK K))
      refine awp_ret ?_; refine hR _ _ (.inl rfl) rfl ?_
      simp only [go_sem, simprocAttr, he, bne_self_eq_false, List.map_nil]
    · cases hc


theorem addGood (h g : List Int) (old k n w : Int) (text : ByteArray) (args : List (List PV)) (late : List Int) (hck : ACallP Try.prog 35 [agesD h old late] (iD 0)) (hbu : ACallP Try.prog 23 [words h, valD k n text args] (.tup [words g, wD w, iD 0])) (hlate : late.length ≤ 100000) : ACallP Try.prog 71 [agesD h old late, valD k n text args] (.tup [agesD g old late, wD w, iD 0]) := by
  have hcI := cloneI (late.map irow) (irow1 late) (by simp; omega)
  rw [List.length_map] at hcI
  have htI : List.take late.length (late.map irow) = late.map irow := List.take_of_length_le (by simp)
  refine acallp_fnv [.cell 4 64, .tmp 5, .tmp 6] Try.func71 rfl rfl Try.ntmps71 (by simp) fun R hR => ?_
  (refine awp_reg_seq [2, 3, 4] fun K hK => ?_; (repeat' ((refine al_r rfl fun K' hK' => ?_); (repeat (simp only [go_sem, simprocAttr, bne_self_eq_false])); ((refine hK' _ _ ?_) <;> clear hK' K'))); all_goals (refine al_nil ?_; (simp only [go_sem, simprocAttr, bne_self_eq_false]); refine hK _ ?_; clear hK K))
  (refine awp_frz [2, 3, 4] [2] (by decide) (by (simp; done)) ?_; simp only [go_sem, simprocAttr, bne_self_eq_false])
  refine awp_seq_k fun K hK => ?_
  (refine awp_reg_seq [2, 3, 4, 7] fun K hK => ?_; (repeat' ((refine al_r rfl fun K' hK' => ?_); (repeat (simp only [go_sem, simprocAttr, bne_self_eq_false])); (first | ((refine hK' _ _ ?_) <;> clear hK' K') | ((show AC _ _ (D.fn 35 _) _ _); refine acall_g (f := 35) (e := rfl) (hr := rfl) (hf := by simp [D.all, D.allL, flatL, flatPV]) (k := hK' _ _ ?_) (hc := Try.call35) (h := hck); clear hK' K')))); all_goals (refine al_nil ?_; (simp only [go_sem, simprocAttr, bne_self_eq_false]); refine hK _ ?_; clear hK K))
  (refine awp_reg_seq [2, 3, 4, 7, 14] fun K hK => ?_; (repeat' ((refine al_r rfl fun K' hK' => ?_); (repeat (simp only [go_sem, simprocAttr, bne_self_eq_false])); ((refine hK' _ _ ?_) <;> clear hK' K'))); all_goals (refine al_nil ?_; (simp only [go_sem, simprocAttr, bne_self_eq_false]); refine hK _ ?_; clear hK K))
  refine awp_if (_) rfl (fun hc => ?_) (fun hc => ?_)
  · cases hc
  · refine awp_skip ?_
    refine hK _ ?_; clear hK K
    (refine awp_reg_seq [2, 4, 8, 9, 10] fun K hK => ?_; (repeat' ((refine al_r rfl fun K' hK' => ?_); (repeat (simp only [go_sem, simprocAttr, bne_self_eq_false])); (first | ((refine hK' _ _ ?_) <;> clear hK' K') | ((show AC _ _ (D.fn 23 _) _ _); refine acall_p (f := 23) (e := rfl) (hr := rfl) (k := hK' _ _ ?_) (hc := Try.call23) (h := hbu); clear hK' K')))); all_goals (refine al_nil ?_; (simp only [go_sem, simprocAttr, bne_self_eq_false]); refine hK _ ?_; clear hK K))
    refine awp_seq_k fun K hK => ?_
    (refine awp_reg_seq [2, 4, 8, 9, 10, 26] fun K hK => ?_; (repeat' ((refine al_r rfl fun K' hK' => ?_); (repeat (simp only [go_sem, simprocAttr, bne_self_eq_false])); ((refine hK' _ _ ?_) <;> clear hK' K'))); all_goals (refine al_nil ?_; (simp only [go_sem, simprocAttr, bne_self_eq_false]); refine hK _ ?_; clear hK K))
    refine awp_if (_) rfl (fun hc => ?_) (fun hc => ?_)
    · cases hc
    · refine awp_skip ?_
      refine hK _ ?_; clear hK K
      refine awp_draw_seq (by kernel_rfl) [4, 5, 6] fun K hK => ?_
      ((refine ah_r 0 rfl (by kernel_rfl) rfl fun K' hK' => ?_); (simp only [go_sem, simprocAttr, bne_self_eq_false]); ((refine hK' _ ?_); clear hK' K'))
      ((refine ah_r 1 rfl (by kernel_rfl) rfl fun K' hK' => ?_); (simp only [go_sem, simprocAttr, bne_self_eq_false]); ((refine hK' _ ?_); clear hK' K'))
      ((refine ah_r 2 rfl (by kernel_rfl) rfl fun K' hK' => ?_); (simp only [go_sem, simprocAttr, bne_self_eq_false]); ((refine hK' _ ?_); clear hK' K'))
      ((refine ah_r 3 rfl (by kernel_rfl) rfl fun K' hK' => ?_); (simp only [go_sem, simprocAttr, bne_self_eq_false]); ((refine hK' _ ?_); clear hK' K'))
      ((refine ah_r 4 rfl (by kernel_rfl) rfl fun K' hK' => ?_); (simp only [go_sem, simprocAttr, bne_self_eq_false]); ((refine hK' _ ?_); clear hK' K'))
      ((refine ah_r 7 rfl (by kernel_rfl) rfl fun K' hK' => ?_); (simp only [go_sem, simprocAttr, bne_self_eq_false]); ((refine hK' _ ?_); clear hK' K'))
      (refine ah_one 5 rfl (by kernel_rfl) ?_; (repeat' ((refine al_r rfl fun K' hK' => ?_); (repeat (simp only [go_sem, simprocAttr, bne_self_eq_false])); ((show AC _ _ (D.fn 45 _) _ _); refine acall_new (f := 45) Try.call45 hcI rfl ?_; rintro r obs' ⟨rfl, rfl⟩; (simp only [go_sem, simprocAttr, bne_self_eq_false]); refine hK' _ _ ?_; clear hK' K'))); all_goals refine al_nil ?_)
      (refine ah_one 6 rfl (by kernel_rfl) ?_; (repeat' ((refine al_r rfl fun K' hK' => ?_); (repeat (simp only [go_sem, simprocAttr, bne_self_eq_false])); ((refine hK' _ _ ?_) <;> clear hK' K'))); all_goals refine al_nil ?_)
      (refine ah_one 8 rfl (by kernel_rfl) ?_; (repeat' ((refine al_d rfl fun K' hK' => ?_); (repeat (first | (simp only [go_sem, simprocAttr, bne_self_eq_false]) | refine AS.mk ?_)); ((refine ⟨?_, hK' _ _ ?_⟩) <;> clear hK' K' <;> (first | (show alist _ _ _ _ _ _; skip) | (simp; done))))); all_goals refine al_nil ?_)
      ((refine ah_r 9 rfl (by kernel_rfl) rfl fun K' hK' => ?_); (simp only [go_sem, simprocAttr, bne_self_eq_false]); ((refine hK' _ ?_); clear hK' K'))
      ((refine ah_r 10 rfl (by kernel_rfl) rfl fun K' hK' => ?_); (simp only [go_sem, simprocAttr, bne_self_eq_false]); ((refine hK' _ ?_); clear hK' K'))
      (refine ah_done (by kernel_rfl) ?_; (simp only [go_sem, simprocAttr, bne_self_eq_false]); refine hK _ ?_; clear hK K)
      refine awp_ret ?_; refine hR _ _ (.inl rfl) rfl ?_
      simp only [go_sem, simprocAttr, bne_self_eq_false, htI]
end Go.Proofs.Ytagphggcdmjlpaa.P

/- The closed fact youths. -/
namespace Go.Proofs.Ytagphggcdmjlpaa.P
open Go.Ab Go.Proofs.Ytagphggcdmjlpaa.T

theorem hokA : ∀ w, w ∈ ([258, 97] : List Int) → WordOk w := by
  intro w hw
  simp only [List.mem_cons, List.not_mem_nil, or_false] at hw
  rcases hw with rfl | rfl <;> exact ⟨by decide, by decide⟩

theorem objsNil : ACallP Try.prog 15 [words []] (.tup [objs [], iD 0]) := by
  have h := objects [] (by simp [maxLen]) (by simp)
  rw [show objsS [] = ([], 0) by kernel_rfl] at h
  exact h

theorem objsA : ACallP Try.prog 15 [words [258, 97]] (.tup [objs [oA], iD 0]) := by
  have h := objects [258, 97] (by simp [maxLen]) hokA
  rw [show objsS [258, 97] = ([oA], 0) by kernel_rfl] at h
  exact h

theorem checkNil : ACallP Try.prog 35 [agesD [] 0 []] (iD 0) := by
  have h := checkGood [] 0 [] [] objsNil (by simp) (by simp) (by simp [maxLen]) (by simp)
  rw [show checkO (([] : List Int).length : Nat) 0 [] [] = 0 by kernel_rfl] at h
  exact h

theorem checkA : ACallP Try.prog 35 [agesD [258, 97] 0 []] (iD 0) := by
  have h := checkGood [258, 97] 0 [] [oA] objsA (by simp) (by simp) (by simp [maxLen]) (by simp)
  rw [show checkO (([258, 97] : List Int).length : Nat) 0 [] [oA] = 0 by kernel_rfl] at h
  exact h

theorem addA : ACallP Try.prog 71 [agesD [] 0 [], valD 4 0 ⟨#[97]⟩ []] (.tup [agesD [258, 97] 0 [], wD 4, iD 0]) := addGood [] [258, 97] 0 4 0 4 ⟨#[97]⟩ [] [] checkNil buildA (by simp)
theorem addB : ACallP Try.prog 71 [.agg [.nil, iD 0, .nil], .agg [iD 4, iD 0, .p (.lit (.string ⟨#[97]⟩)), .nil]] (.tup [agesD [258, 97] 0 [], wD 4, iD 0]) := ACallP.soft addA rfl

theorem namedA : ACallP Try.prog 66 [agesD [258, 97] 0 [], words [4]] (iD 0) := by
  have h := namedGood [258, 97] 0 0 [] [4] [oA] checkA objsA (by simp [maxLen]) (by simp [maxLen]) hokA (by simp [maxLen])
  rw [show firstE (nameE [258, 97] [oA]) [4] = 0 by kernel_rfl] at h
  exact h

theorem rootsA : rootsC [258, 97] 0 ([], []) [4] = ([4], [258, 97], [(0, 0)]) := by kernel_rfl
theorem scanA : scanC [258, 97] 0 1 ([258, 97], [(0, 0)]) 0 = ([258, 97], [(0, 0)]) := by kernel_rfl

theorem majorA : ACallP Try.prog 39 [agesD [258, 97] 0 [], words [4]] (.tup [.agg [words [258, 97], iD 2, .p (.sl [])], words [4], iD 0]) := by
  have h := majorGood [258, 97] 0 [] [4] 1 namedA (by simp [maxLen]) hokA (by simp) ?_ ?_
  · rw [rootsA] at h
    rw [scanA] at h
    exact h
  · refine ⟨by simp, fun _ _ => ?_, ?_⟩
    · kernel_rfl
    · show (wordC [258, 97] 0 ([], []) 4).2.1.length ≤ 4000
      rw [show (wordC [258, 97] 0 ([], []) 4).2.1 = [258, 97] by kernel_rfl]
      simp
  · rw [rootsA]
    have e1 : (atS [258, 97] 0) = (oA, 0) := by kernel_rfl
    have e2 : (putS [] oA) = ([258, 97], 0, 0) := by kernel_rfl
    have e3 : partsC [258, 97] 0 ([258, 97], [(0, 0)]) 0 = (2, [258, 97], [(0, 0)]) := by kernel_rfl
    intro _
    refine ⟨⟨hokA, by simp, ?_, ?_, ?_⟩, ?_⟩
    · show (atS [258, 97] 0).1.parts.length ≤ _
      rw [e1]; simp
    · show 0 + (putS [] (atS [258, 97] 0).1).1.length ≤ _
      rw [e1, e2]; simp
    · show partOK _ _ _ _ (atS [258, 97] 0).1.parts
      rw [e1]; simp [partOK]
    · rw [e3]; simp [scanOK]


theorem youths : ACallP Try.prog 34 [] (bD true) := by
  refine acallp_fn [0] Try.func34 rfl rfl Try.ntmps34 (by simp) fun R hR => ?_
  (refine awp_reg_seq [] fun K hK => ?_; (repeat' ((refine al_r rfl fun K' hK' => ?_); (repeat (simp only [go_sem, simprocAttr, beq_self_eq_true])); ((refine hK' _ _ ?_) <;> clear hK' K'))); all_goals (refine al_nil ?_; (simp only [go_sem, simprocAttr, beq_self_eq_true]); refine hK _ ?_; clear hK K))
  (refine awp_reg_seq [1, 2, 3] fun K hK => ?_; (repeat' ((first | refine al_r rfl fun K' hK' => ?_ | refine al_d rfl fun K' hK' => ?_); (repeat (first | (simp only [go_sem, simprocAttr, beq_self_eq_true]) | refine AS.mk ?_)); (first | ((first | refine hK' _ _ ?_ | refine ⟨?_, hK' _ _ ?_⟩) <;> clear hK' K' <;> (first | (show alist _ _ _ _ _ _; skip) | (simp; done))) | ((show AC _ _ (D.fn 71 _) _ _); refine acall_p (f := 71) (e := rfl) (hr := rfl) (k := hK' _ _ ?_) (hc := Try.call71) (h := addB); clear hK' K')))); all_goals (refine al_nil ?_; (simp only [go_sem, simprocAttr, beq_self_eq_true]); refine hK _ ?_; clear hK K))
  (refine awp_frz [1, 2, 3] [] (by decide) (by (simp; done)) ?_; simp only [go_sem, simprocAttr, beq_self_eq_true])
  (refine awp_reg_seq [3, 4, 5, 6] fun K hK => ?_; (repeat' ((first | refine al_r rfl fun K' hK' => ?_ | refine al_d rfl fun K' hK' => ?_); (repeat (first | (simp only [go_sem, simprocAttr, beq_self_eq_true]) | refine AS.mk ?_)); (first | ((first | refine hK' _ _ ?_ | refine ⟨?_, hK' _ _ ?_⟩) <;> clear hK' K' <;> (first | (show alist _ _ _ _ _ _; skip) | (simp; done))) | ((show AC _ _ (D.fn 39 _) _ _); refine acall_w [] (by decide) (by simp) (f := 39) (e := rfl) (hr := fun _ => rfl) (k := hK' _ _ ?_) (hc := Try.call39) (h := majorA); clear hK' K')))); all_goals (refine al_nil ?_; (simp only [go_sem, simprocAttr, beq_self_eq_true]); refine hK _ ?_; clear hK K))
  (refine awp_frz [3, 4, 5, 6] [] (by decide) (by (simp; done)) ?_; simp only [go_sem, simprocAttr, beq_self_eq_true])
  (refine awp_reg_seq [0] fun K hK => ?_; (repeat' ((first | refine al_r rfl fun K' hK' => ?_ | refine al_t rfl rfl fun K' hK' => ?_); (repeat (simp only [go_sem, simprocAttr, beq_self_eq_true])); (first | ((first | refine hK' _ _ ?_ | refine ⟨?_, hK' _ _ ?_⟩) <;> clear hK' K' <;> (first | (show alist _ _ _ _ _ _; skip) | (intro s hs; cases hs; done))) | ((show AC _ _ (D.fn 20 _) _ _); refine acall_w [] (by decide) (by simp) (f := 20) (e := rfl) (hr := fun _ => rfl) (k := hK' _ _ ?_) (hc := Try.call20) (h := good00); clear hK' K')))); all_goals (refine al_nil ?_; (simp only [go_sem, simprocAttr, beq_self_eq_true]); refine hK _ ?_; clear hK K))
  all_goals (refine awp_ret ?_; (refine hR _ _ (.inl rfl) rfl ?_); (simp only [go_sem, simprocAttr, beq_self_eq_true, *, Bool.and_true, Bool.and_false, Bool.true_and, Bool.false_and, Bool.or_true, Bool.true_or, Bool.or_false, Bool.false_or, Bool.not_true, Bool.not_false, Bool.false_eq_true]; done))
end Go.Proofs.Ytagphggcdmjlpaa.P

/- A cell that is set, in plain words. -/
namespace Go.Proofs.Ytagphggcdmjlpaa.P
open Go.Ab Go.Proofs.Ytagphggcdmjlpaa.T

theorem right_text {o : Obj} (h : rightS o = true) (hk : o.kind = 5) : o.text = ByteArray.empty := by
  unfold rightS at h
  simp only [hk, Bool.and_eq_true, Bool.not_eq_true', Bool.and_eq_false_iff, bne_self_eq_false] at h
  obtain ⟨_, _, h3, _⟩ := h
  have h3 : (o.text.toList == (⟨#[]⟩ : ByteArray).toList) = true := by
    rcases h3 with h3 | h3
    · simp at h3
    · simpa using h3
  generalize o.text = t at h3
  rw [ByteArray.toList_eq, ByteArray.toList_eq] at h3
  have h3 : t.data.toList = [] := by simpa using h3
  obtain ⟨d⟩ := t
  have : d = #[] := by simpa using h3
  subst this
  rfl

theorem right_parts {o : Obj} (w w' : Int) (hp : o.parts = [w']) (h : rightS o = true) : rightS { o with parts := [w] } = true := by
  obtain ⟨a, k, m, t, ps⟩ := o
  simp only at hp
  subst hp
  exact h

theorem enc_cell {o : Obj} {p : Int} (hr : rightS o = true) (hk : o.kind = 5) (hp : o.parts = [p]) : encW o = [headS o, p] := by
  unfold encW numW
  rw [right_text hr hk, hp, hk]
  rfl

theorem head_parts {o : Obj} (w w' : Int) (hp : o.parts = [w']) : headS { o with parts := [w] } = headS o := by
  obtain ⟨a, k, m, t, ps⟩ := o
  simp only at hp
  subst hp
  rfl

theorem placed_set {P Q : List Obj} {o : Obj} {w p : Int} (hL : Placed (P ++ o :: Q)) (hk : o.kind = 5) (hp : o.parts = [p]) (hw : WordOk w) (ha : o.at_ = (flat P).length) :
    Placed (P ++ { o with parts := [w] } :: Q) ∧ flat (P ++ { o with parts := [w] } :: Q) = (flat (P ++ o :: Q)).set ((flat P).length + 1) w := by
  have ho := hL.2 o (by simp)
  have e1 := enc_cell ho.1 hk hp
  have hr2 := right_parts w p hp ho.1
  have e2 := enc_cell (o := { o with parts := [w] }) hr2 hk rfl
  rw [head_parts w p hp] at e2
  refine ⟨⟨?_, fun x hx => ?_⟩, ?_⟩
  · have h1 := hL.1
    rw [place_append] at h1 ⊢
    obtain ⟨h2, h3⟩ := List.append_inj h1 (place_len _ _)
    rw [h2]
    have h4 : o.to (0 + (flat P).length) :: place (0 + (flat P).length + (encW o).length) Q = o :: Q := h3
    have h5 := (List.cons.inj h4).2
    show P ++ (Obj.to { o with parts := [w] } (0 + (flat P).length)) :: place (0 + (flat P).length + (encW { o with parts := [w] }).length) Q = _
    rw [e2]
    rw [e1] at h5
    simp only [List.length_cons, List.length_nil] at h5 ⊢
    rw [h5]
    have : Obj.to { o with parts := [w] } (0 + (flat P).length) = { o with parts := [w] } := by
      unfold Obj.to; simp only [Nat.zero_add, ← ha]
    rw [this]
  · rcases List.mem_append.1 hx with hx | hx
    · exact hL.2 x (List.mem_append_left _ hx)
    · rcases List.mem_cons.1 hx with rfl | hx
      · exact ⟨hr2, ho.2.1, fun v hv => by rcases List.mem_singleton.1 hv with rfl; exact hw⟩
      · exact hL.2 x (List.mem_append_right _ (List.mem_cons_of_mem _ hx))
  · rw [flat_append, flat_append]
    show flat P ++ (encW { o with parts := [w] } ++ flat Q) = (flat P ++ (encW o ++ flat Q)).set _ w
    rw [e1, e2, List.set_append_right _ _ (by omega)]
    simp

theorem beg_set {P Q : List Obj} {o : Obj} {w n : Int} : begS n (P ++ { o with parts := [w] } :: Q) = begS n (P ++ o :: Q) := by
  funext t
  unfold begS
  simp

/-- Rising places: where one goes in. -/
theorem rising_of {l : List Int} (h : l.Pairwise (· < ·)) (n : Int) : Rising (fun x : Int => x - n) l := fun i j x y hij hx hy hc => by
  have h1 := List.pairwise_iff_getElem.1 h i j (lt_of_get hx) (lt_of_get hy) hij
  have e1 : l[i]'(lt_of_get hx) = x := Option.some.inj (by rw [← List.getElem?_eq_getElem]; exact hx)
  have e2 : l[j]'(lt_of_get hy) = y := Option.some.inj (by rw [← List.getElem?_eq_getElem]; exact hy)
  rw [e1, e2] at h1
  have hc : y - n < 0 := hc
  show x - n < 0
  omega

theorem pos_facts {l : List Int} (h : l.Pairwise (· < ·)) (n : Int) : (∀ x, x ∈ l.take (posOf (fun x : Int => x - n) l) → x < n) ∧ (∀ x, x ∈ l.drop (posOf (fun x : Int => x - n) l) → n ≤ x) ∧ (isAt (fun x : Int => x - n) l = true ↔ n ∈ l) := by
  induction l with
  | nil => exact ⟨fun x hx => (by cases hx), fun x hx => (by cases hx), by simp [isAt, posOf]⟩
  | cons a l ih =>
    obtain ⟨h1, h2⟩ := List.pairwise_cons.1 h
    obtain ⟨i1, i2, i3⟩ := ih h2
    unfold isAt posOf at *
    by_cases hc : 0 ≤ a - n
    · have : List.findIdx (fun x : Int => decide (0 ≤ x - n)) (a :: l) = 0 := by
        rw [List.findIdx_cons]
        show (bif decide (0 ≤ a - n) then 0 else _) = 0
        rw [decide_eq_true hc]; rfl
      rw [this]
      refine ⟨fun x hx => (by cases hx), fun x hx => ?_, ?_⟩
      · rcases List.mem_cons.1 hx with rfl | hx
        · omega
        · have := h1 x hx; omega
      · simp only [List.getElem?_cons_zero, beq_iff_eq, List.mem_cons]
        constructor
        · intro h; left; omega
        · rintro (h | h)
          · omega
          · have := h1 n h; omega
    · have : List.findIdx (fun x : Int => decide (0 ≤ x - n)) (a :: l) = List.findIdx (fun x : Int => decide (0 ≤ x - n)) l + 1 := by
        rw [List.findIdx_cons]
        show (bif decide (0 ≤ a - n) then 0 else _) = _
        rw [decide_eq_false hc]; rfl
      rw [this]
      refine ⟨fun x hx => ?_, fun x hx => i2 x hx, ?_⟩
      · rcases List.mem_cons.1 hx with rfl | hx
        · omega
        · exact i1 x hx
      · rw [List.getElem?_cons_succ, i3, List.mem_cons]
        constructor
        · exact Or.inr
        · rintro (h | h)
          · omega
          · exact h

theorem ins_rising {l : List Int} (h : l.Pairwise (· < ·)) (n : Int) (hn : n ∉ l) : (insL l (posOf (fun x : Int => x - n) l) n).Pairwise (· < ·) := by
  obtain ⟨h1, h2, _⟩ := pos_facts h n
  unfold insL
  generalize posOf (fun x : Int => x - n) l = p at *
  rw [List.pairwise_append]
  refine ⟨h.sublist (List.take_sublist _ _), List.pairwise_cons.2 ⟨fun x hx => ?_, h.sublist (List.drop_sublist _ _)⟩, fun x hx y hy => ?_⟩
  · have := h2 x hx
    have hne : x ≠ n := fun e => hn (by rw [← e]; exact List.mem_of_mem_drop hx)
    omega
  · have h3 := h1 x hx
    rcases List.mem_cons.1 hy with rfl | hy
    · exact h3
    · have := h2 y hy; omega

theorem mem_ins {l : List Int} {p : Nat} {n x : Int} : x ∈ insL l p n ↔ x = n ∨ x ∈ l := by
  unfold insL
  rw [List.mem_append, List.mem_cons]
  constructor
  · rintro (h | h | h)
    · exact .inr (List.mem_of_mem_take h)
    · exact .inl h
    · exact .inr (List.mem_of_mem_drop h)
  · rintro (h | h)
    · exact .inr (.inl h)
    · rw [← List.take_append_drop p l] at h
      rcases List.mem_append.1 h with h | h
      · exact .inl h
      · exact .inr (.inr h)

/-- What the late places are behind Set. -/
theorem setL_facts {old n : Int} {late : List Int} {p : Int × Bool × Int} (h : late.Pairwise (· < ·)) :
    (setL old late n p).Pairwise (· < ·) ∧ (∀ x, x ∈ late → x ∈ setL old late n p) ∧ (∀ x, x ∈ setL old late n p → x ∈ late ∨ (x = n ∧ n < old)) ∧ (p.2.1 = true → n < old → p.1 ≥ old → n ∈ setL old late n p) ∧ (setL old late n p).length ≤ late.length + 1 := by
  unfold setL
  obtain ⟨_, _, hat⟩ := pos_facts h n
  by_cases hc : (p.2.1 && decide (n < old) && decide (p.1 ≥ old)) = true
  · rw [if_pos hc]
    by_cases hf : isAt (fun x : Int => x - n) late = true
    · rw [if_pos hf]
      exact ⟨h, fun x hx => hx, fun x hx => .inl hx, fun _ _ _ => hat.1 hf, Nat.le_succ _⟩
    · rw [if_neg hf]
      have hnm : n ∉ late := fun hm => hf (hat.2 hm)
      simp only [Bool.and_eq_true, decide_eq_true_eq] at hc
      refine ⟨ins_rising h n hnm, fun x hx => mem_ins.2 (.inr hx), fun x hx => ?_, fun _ _ _ => mem_ins.2 (.inl rfl), ?_⟩
      · rcases mem_ins.1 hx with h | h
        · exact .inr ⟨h, hc.1.2⟩
        · exact .inl h
      · unfold insL; simp; omega
  · rw [if_neg hc]
    refine ⟨h, fun x hx => hx, fun x hx => .inl hx, fun h1 h2 h3 => absurd ?_ hc, Nat.le_succ _⟩
    rw [h1, decide_eq_true h2, decide_eq_true h3]
    rfl

theorem partE_more {n old : Int} {beg : Int → Bool} {late late2 : List Int} {o : Obj} {w : Int} (h : ∀ x, x ∈ late → x ∈ late2) (he : partE n old beg late o w = 0) : partE n old beg late2 o w = 0 := by
  unfold partE at he ⊢
  split at he
  · cases he
  · rename_i h1
    rw [if_neg h1]
    split at he
    · cases he
    · rename_i h2
      rw [if_neg]
      intro h3
      refine h2 ?_
      simp only [Bool.and_eq_true, Bool.not_eq_true'] at h3 ⊢
      refine ⟨h3.1, ?_⟩
      cases hh : hasI late o.at_ with
      | false => rfl
      | true => have := hasI_iff.2 (h _ (hasI_iff.1 hh)); rw [this] at h3; exact absurd h3.2 (by simp)

/-- Ages stay right when a cell is set. -/
theorem good_set {P Q : List Obj} {o : Obj} {w p N old : Int} {late : List Int} (hg : GoodA N old late (P ++ o :: Q)) (hp : o.parts = [p]) (hb : begS N (P ++ o :: Q) o.at_ = true)
    (hw : (placeS w).2.2 = 0 ∧ ((placeS w).2.1 = true → (placeS w).1 ≠ N ∧ begS N (P ++ o :: Q) (placeS w).1 = true)) :
    GoodA N old (setL old late o.at_ (placeS w)) (P ++ { o with parts := [w] } :: Q) := by
  obtain ⟨g1, g2, g3, g4, g5⟩ := hg
  obtain ⟨s1, s2, s3, s4, _⟩ := setL_facts (old := old) (n := o.at_) (p := placeS w) g4
  refine ⟨g1, by rw [beg_set]; exact g2, fun t ht => ?_, s1, fun x hx v hv => ?_⟩
  · rw [beg_set]
    rcases s3 t ht with h | ⟨rfl, h⟩
    · exact g3 t h
    · exact ⟨h, hb⟩
  · rw [beg_set]
    rcases List.mem_append.1 hx with hx | hx
    · exact partE_more s2 (g5 x (List.mem_append_left _ hx) v hv)
    · rcases List.mem_cons.1 hx with rfl | hx
      · rcases List.mem_singleton.1 hv with rfl
        obtain ⟨w1, w2⟩ := hw
        unfold partE
        rw [if_neg, if_neg]
        · intro h
          simp only [Bool.and_eq_true, decide_eq_true_eq, Bool.not_eq_true'] at h
          have := s4 h.1.1.1 h.1.1.2 h.1.2
          rw [hasI_iff.2 this] at h
          exact absurd h.2 (by simp)
        · intro h
          rw [w1] at h
          cases hi : (placeS v).2.1 with
          | false => rw [hi] at h; simp at h
          | true =>
            obtain ⟨a, b⟩ := w2 hi
            rw [hi, b] at h
            simp at h
            exact a h
      · exact partE_more s2 (g5 x (List.mem_append_right _ (List.mem_cons_of_mem _ hx)) v hv)
end Go.Proofs.Ytagphggcdmjlpaa.P

/- Set and Check as a whole; R.Begins; the walk of YoungSets. -/
namespace Go.Proofs.Ytagphggcdmjlpaa.P
open Go.Ab Go.Proofs.Ytagphggcdmjlpaa.T

theorem checkC (h : List Int) (old : Int) (late : List Int) (hlen : h.length ≤ maxLen) (hok : ∀ w, w ∈ h → WordOk w) (hlate : late.length ≤ maxLen) : ACallP Try.prog 35 [agesD h old late] (iD (checkY h old late)) := by
  have hob := objects h hlen hok
  unfold checkY
  by_cases he : (objsS h).2 = 0
  · obtain ⟨h4, hf, hp⟩ := heap_flat hlen hok he
    rw [if_neg (by simp [he])]
    rw [he] at hob
    have h1 := count_len (L := (objsS h).1)
    refine checkGood h old late _ hob h4 (by rw [← hf] at h1; omega) hlate fun o ho => ?_
    have := parts_len ho
    rw [← hf] at this
    omega
  · rw [if_pos (by simpa using he)]
    exact checkBad h old _ late _ (by simpa using he) hob

def namedY (h : List Int) (old : Int) (late ws : List Int) : Int := if checkY h old late != 0 then checkY h old late else firstE (nameE h (objsS h).1) ws

theorem namedC (h : List Int) (old : Int) (late ws : List Int) (hlen : h.length ≤ maxLen) (hok : ∀ w, w ∈ h → WordOk w) (hlate : late.length ≤ maxLen) (hws : ws.length ≤ maxLen) : ACallP Try.prog 66 [agesD h old late, words ws] (iD (namedY h old late ws)) := by
  have hck := checkC h old late hlen hok hlate
  unfold namedY
  by_cases he : checkY h old late = 0
  · rw [if_neg (by simp [he])]
    rw [he] at hck
    have h0 : (objsS h).2 = 0 := by
      unfold checkY at he
      by_cases h0 : (objsS h).2 = 0
      · exact h0
      · rw [if_pos (by simpa using h0)] at he; exact he
    obtain ⟨h4, hf, hp⟩ := heap_flat hlen hok h0
    have h1 := count_len (L := (objsS h).1)
    exact namedGood h old _ late ws _ hck (objects h hlen hok) (by rw [← hf] at h1; simp [maxLen]; omega) hlen hok hws
  · rw [if_pos (by simpa using he)]
    exact namedBad h old _ late ws (by simpa using he) hck

/-- Ages that Check finds right. -/
theorem checkY_zero {h : List Int} {old : Int} {late : List Int} (hlen : h.length ≤ maxLen) (hok : ∀ w, w ∈ h → WordOk w) (he : checkY h old late = 0) :
    ∃ L, objsS h = (L, 0) ∧ h = flat L ∧ h.length ≤ 4000 ∧ Placed L ∧ GoodA h.length old late L := by
  unfold checkY at he
  by_cases h0 : (objsS h).2 = 0
  · rw [if_neg (by simp [h0])] at he
    obtain ⟨h4, hf, hp⟩ := heap_flat hlen hok h0
    exact ⟨_, by rw [← h0], hf, h4, hp, checkO_iff.1 he⟩
  · rw [if_pos (by simpa using h0)] at he; exact absurd he h0

theorem checkY_flat {L : List Obj} {old : Int} {late : List Int} (hp : Placed L) (h4 : (flat L).length ≤ 4000) (hg : GoodA (flat L).length old late L) : checkY (flat L) old late = 0 := by
  unfold checkY
  rw [placed_objs hp h4]
  exact checkO_iff.2 hg

/-- A word that names an object, or none. -/
def NameOk (L : List Obj) (w : Int) : Prop := (placeS w).2.2 = 0 ∧ ((placeS w).2.1 = true → ∃ o, o ∈ L ∧ o.at_ = (placeS w).1)

theorem nameE_zero {L : List Obj} {w : Int} (hp : Placed L) : nameE (flat L) L w = 0 ↔ NameOk L w := by
  unfold nameE NameOk
  by_cases h1 : (placeS w).2.2 = 0
  · rw [if_neg (by simp [h1])]
    cases hi : (placeS w).2.1 with
    | false => simp [h1]
    | true =>
      by_cases h2 : ∃ o, o ∈ L ∧ o.at_ = (placeS w).1
      · obtain ⟨o, ho, ha⟩ := h2
        have h3 := at_placed hp ho
        rw [ha] at h3
        have h4 : (L.any fun o => o.at_ == (placeS w).1) = true := List.any_eq_true.2 ⟨o, ho, by simp [ha]⟩
        rw [h3, h4]
        simp only [bne_self_eq_false, Bool.and_false, Bool.not_true, Bool.or_false, Bool.false_eq_true, if_false, true_iff]
        exact ⟨h1, fun _ => ⟨o, ho, ha⟩⟩
      · have h4 : (L.any fun o => o.at_ == (placeS w).1) = false := by
          rw [Bool.eq_false_iff]
          intro h
          obtain ⟨o, ho, ha⟩ := List.any_eq_true.1 h
          exact h2 ⟨o, ho, by simpa using ha⟩
        rw [h4, if_pos (by simp)]
        exact ⟨fun h => (by cases h), fun h => absurd (h.2 rfl) h2⟩
  · rw [if_pos (by simpa using h1)]
    exact ⟨fun h => absurd h h1, fun h => absurd h.1 h1⟩

theorem namedY_zero {h : List Int} {old : Int} {late ws : List Int} (hlen : h.length ≤ maxLen) (hok : ∀ w, w ∈ h → WordOk w) (he : namedY h old late ws = 0) :
    ∃ L, objsS h = (L, 0) ∧ h = flat L ∧ h.length ≤ 4000 ∧ Placed L ∧ GoodA h.length old late L ∧ checkY h old late = 0 ∧ ∀ w, w ∈ ws → NameOk L w := by
  unfold namedY at he
  by_cases hc : checkY h old late = 0
  · rw [if_neg (by simp [hc])] at he
    obtain ⟨L, h1, h2, h3, h4, h5⟩ := checkY_zero hlen hok hc
    refine ⟨L, h1, h2, h3, h4, h5, hc, fun w hw => ?_⟩
    have := firstE_zero.1 he w hw
    rw [h1] at this
    rw [h2] at this
    exact (nameE_zero h4).1 this
  · rw [if_pos (by simpa using hc)] at he; exact absurd he hc

theorem namedY_flat {L : List Obj} {old : Int} {late ws : List Int} (hp : Placed L) (h4 : (flat L).length ≤ 4000) (hg : GoodA (flat L).length old late L) (hw : ∀ w, w ∈ ws → NameOk L w) : namedY (flat L) old late ws = 0 := by
  unfold namedY
  rw [if_neg (by rw [checkY_flat hp h4 hg]; simp), placed_objs hp h4]
  exact firstE_zero.2 fun w hwm => (nameE_zero hp).2 (hw w hwm)

theorem late_small {L : List Obj} {n old : Int} {late : List Int} (hg : GoodA n old late L) (hn : ∀ o, o ∈ L → 0 ≤ o.at_ ∧ o.at_ ≤ n) (hn0 : 0 ≤ n) (h4 : n ≤ 4000) : late.length ≤ 4001 := by
  obtain ⟨_, _, h3, h5, _⟩ := hg
  have hr : ∀ t, t ∈ late → 0 ≤ t ∧ t ≤ 4000 := fun t ht => by
    obtain ⟨_, hb⟩ := h3 t ht
    rcases begS_iff.1 hb with rfl | ⟨o, ho, rfl⟩
    · exact ⟨hn0, h4⟩
    · have := hn o ho; omega
  have key : ∀ (l : List Int) (a : Int), (∀ t, t ∈ l → a ≤ t ∧ t ≤ 4000) → l.Pairwise (· < ·) → a ≤ 4001 → (l.length : Int) ≤ 4001 - a := by
    intro l
    induction l with
    | nil => intro a _ _ h; simp; omega
    | cons x l ih =>
      intro a h1 h2 h3
      obtain ⟨h4, h5⟩ := List.pairwise_cons.1 h2
      have hx := h1 x List.mem_cons_self
      have := ih (x + 1) (fun t ht => ⟨by have := h4 t ht; omega, (h1 t (List.mem_cons_of_mem _ ht)).2⟩) h5 (by omega)
      simp only [List.length_cons]
      omega
  have := key late 0 hr h5 (by omega)
  omega

/-- What Set does: a cell of the heap is set, or nothing. -/
theorem setC (h : List Int) (old a w : Int) (late : List Int) (hlen : h.length ≤ maxLen) (hok : ∀ w, w ∈ h → WordOk w) (hlate : late.length ≤ maxLen) (hw : WordOk w) :
    (∃ e, e ≠ 0 ∧ ACallP Try.prog 33 [agesD h old late, iD a, wD w] (.tup [zagesD, iD e])) ∨
    ∃ (P : List Obj) (o : Obj) (Q : List Obj) (p : Int), Placed (P ++ o :: Q) ∧ h = flat (P ++ o :: Q) ∧ h.length ≤ 4000 ∧ GoodA h.length old late (P ++ o :: Q) ∧ NameOk (P ++ o :: Q) w ∧ a = o.at_ ∧ o.at_ = (flat P).length ∧ o.kind = 5 ∧ o.parts = [p] ∧ late.length ≤ 4001 ∧
      ACallP Try.prog 33 [agesD h old late, iD a, wD w] (.tup [agesD (flat (P ++ { o with parts := [w] } :: Q)) old (setL old late a (placeS w)), iD 0]) := by
  have hnm := namedC h old late [w] hlen hok hlate (by simp [maxLen])
  by_cases he : namedY h old late [w] = 0
  · obtain ⟨L, h1, h2, h3, h4, h5, h6, h7⟩ := namedY_zero hlen hok he
    rw [he] at hnm
    have hat := at_ h a hlen hok
    have hll : L.length ≤ maxLen := by
      have h1 := count_len (L := L)
      rw [← h2] at h1; simp [maxLen]; omega
    have hob := objects h hlen hok
    rw [h1] at hob
    have hbe := begins h L 0 a hob hll
    obtain ⟨B, hB⟩ : ∃ B, (L.any fun o => o.at_ == a) = B := ⟨_, rfl⟩
    rw [hB] at hbe
    by_cases hc : ((atS h a).2 != 0 || !B) = true
    · exact .inl ⟨4, by omega, setNone h old a w _ late _ B hnm hat hbe hc⟩
    · simp only [Bool.or_eq_true, not_or, Bool.not_eq_true', bne_iff_ne, ne_eq, Decidable.not_not, Bool.not_eq_false] at hc
      obtain ⟨c1, rfl⟩ := hc
      obtain ⟨o, ho, hoa⟩ := List.any_eq_true.1 hB
      have hoa : o.at_ = a := by simpa using hoa
      subst hoa
      have hao := at_placed h4 ho
      rw [← h2] at hao
      rw [hao] at hat
      by_cases hc2 : ((o.kind != 5) || (o.parts.length : Int) != 1) = true
      · exact .inl ⟨12, by omega, setType h old o.at_ w late o hnm hat hbe hc2⟩
      · refine .inr ?_
        simp only [Bool.or_eq_true, not_or, bne_iff_ne, ne_eq, Decidable.not_not] at hc2
        obtain ⟨k5, k1⟩ := hc2
        obtain ⟨p, hp⟩ : ∃ p, o.parts = [p] := by
          match hm : o.parts with
          | [p] => exact ⟨p, rfl⟩
          | [] => rw [hm] at k1; cases k1
          | p :: q :: r => rw [hm] at k1; simp at k1; omega
        obtain ⟨P, Q, hL, ha⟩ := placed_split h4 ho
        subst hL
        have hls : late.length ≤ 4001 := late_small h5 (fun x hx => by
          obtain ⟨n, e1, e2⟩ := placed_len h4 hx
          rw [← h2] at e2
          omega) (by omega) (by omega)
        obtain ⟨hp2, hf2⟩ := placed_set (w := w) h4 k5 hp hw ha
        refine ⟨P, o, Q, p, h4, h2, h3, h5, h7 w List.mem_cons_self, rfl, ha, k5, hp, hls, ?_⟩
        have henc := enc_cell (h4.2 o ho).1 k5 hp
        have hnl : (flat P).length + 1 < h.length := by
          rw [h2, flat_append, show flat (o :: Q) = encW o ++ flat Q from rfl, henc, List.length_append, List.length_append]
          simp; omega
        rw [ha] at hat hbe
        have := setOk h old w (flat P).length late o hnm hat hbe (by simp [k5]) (by simp [hp]) h3 hnl (by omega) (rising_of h5.2.2.2.1 _)
        rw [← ha] at this
        rw [hf2, ← h2]
        exact this
  · exact .inl ⟨_, he, setBad h old a w _ late (by simpa using he) hnm⟩


theorem beginsR (l : List Obj) (hlen : l.length ≤ maxLen) (a : Int) : ACallP Try.prog 36 [objs l, iD a] (bD (l.any fun o => o.at_ == a)) := by
  obtain ⟨V, hV⟩ : ∃ V, V = (l.any fun o => o.at_ == a) := ⟨_, rfl⟩
  rw [← hV]
  refine acallp_fn [4] Try.func36 rfl rfl Try.ntmps36 (by simp) fun R hR => ?_
  (refine awp_reg_seq [0, 1] fun K hK => ?_; (repeat' ((refine al_r rfl fun K' hK' => ?_); (repeat (simp only [go_sem, simprocAttr, List.length_map])); ((refine hK' _ _ ?_) <;> clear hK' K'))); all_goals (refine al_nil ?_; (simp only [go_sem, simprocAttr, List.length_map]); refine hK _ ?_; clear hK K))
  refine awp_seq_k fun K hK => ?_
  (refine awp_reg_seq [1, 7, 8, 9] fun K hK => ?_; (repeat' ((refine al_r rfl fun K' hK' => ?_); (repeat (simp only [go_sem, simprocAttr, List.length_map])); ((first | refine hK' _ _ ?_ | refine ⟨?_, hK' _ _ ?_⟩) <;> clear hK' K' <;> (first | (show alist _ _ _ _ _ _; skip) | (intro s hs; cases hs; done))))); all_goals (refine al_nil ?_; (simp only [go_sem, simprocAttr, List.length_map]); refine hK _ ?_; clear hK K))
  refine awp_block ?_
  -- loop 0 head [1, 7, 8, 9]
  refine awp_loop_cut (fun m s => ∃ i : Nat, i ≤ l.length ∧ m = l.length - i ∧ V = ((l.drop i).any fun o => o.at_ == a) ∧ s = ⟨ofL [(1, iD a), (7, objs l), (8, iD l.length), (9, iD i)], [], 0⟩) ⟨_, 0, Nat.zero_le _, rfl, hV, rfl⟩ ?_
  clear hV
  rintro m s ⟨i, hi, hm, hV, rfl⟩
  (refine awp_reg_seq [1, 7, 8, 9, 10] fun K hK => ?_; (repeat' ((refine al_r rfl fun K' hK' => ?_); (repeat (simp only [go_sem, simprocAttr, List.length_map])); ((refine hK' _ _ ?_) <;> clear hK' K'))); all_goals (refine al_nil ?_; (simp only [go_sem, simprocAttr, List.length_map]); refine hK _ ?_; clear hK K))
  refine awp_seq_k fun K hK => ?_
  refine awp_if (decide ((i : Int) < (l.length : Int))) rfl (fun hc => ?_) (fun hc => ?_)
  · refine awp_skip ?_
    refine hK _ ?_; clear hK K
    refine awp_seq_k fun K hK => ?_
    refine awp_block ?_
    have hi2 : i < l.length := by simpa using hc
    obtain ⟨o, hget⟩ := get_of_lt hi2
    have hnn : (0 : Int) ≤ (i : Int) := Int.natCast_nonneg i
    have hnx : IntKind.i64.wrap ((i : Int) + 1) = ((i + 1 : Nat) : Int) := wrap_next hi2 hlen
    rw [drop_of hget] at hV
    have hV2 : V = ((o.at_ == a) || ((l.drop (i + 1)).any fun o => o.at_ == a)) := hV
    clear hV

    (refine awp_reg_seq [1, 6, 7, 8, 9] fun K hK => ?_; (repeat' ((first | refine al_r rfl fun K' hK' => ?_ | refine al_d rfl fun K' hK' => ?_); (repeat (first | (simp only [go_sem, simprocAttr, hget, hnn, hi2, hnx, Int.toNat_natCast, List.getElem?_map, Option.map_some, List.length_map, Obj.row]) | refine AS.mk ?_)); ((first | refine hK' _ _ ?_ | refine ⟨?_, hK' _ _ ?_⟩) <;> clear hK' K' <;> (first | (show alist _ _ _ _ _ _; skip) | (simp; done))))); all_goals (refine al_nil ?_; (simp only [go_sem, simprocAttr, hget, hnn, hi2, hnx, Int.toNat_natCast, List.getElem?_map, Option.map_some, List.length_map, Obj.row]); refine hK _ ?_; clear hK K))
    (refine awp_reg_seq [1, 7, 8, 9, 16] fun K hK => ?_; (repeat' ((refine al_r rfl fun K' hK' => ?_); (repeat (simp only [go_sem, simprocAttr, hget, hnn, hi2, hnx, Int.toNat_natCast, List.getElem?_map, Option.map_some, List.length_map, Obj.row])); ((refine hK' _ _ ?_) <;> clear hK' K'))); all_goals (refine al_nil ?_; (simp only [go_sem, simprocAttr, hget, hnn, hi2, hnx, Int.toNat_natCast, List.getElem?_map, Option.map_some, List.length_map, Obj.row]); refine hK _ ?_; clear hK K))
    refine awp_if (o.at_ == a) rfl (fun hc => ?_) (fun hc => ?_)
    · (refine awp_reg_seq [4] fun K hK => ?_; (repeat' ((refine al_r rfl fun K' hK' => ?_); (repeat (simp only [go_sem, simprocAttr, hget, hnn, hi2, hnx, Int.toNat_natCast, List.getElem?_map, Option.map_some, List.length_map, Obj.row])); ((refine hK' _ _ ?_) <;> clear hK' K'))); all_goals (refine al_nil ?_; (simp only [go_sem, simprocAttr, hget, hnn, hi2, hnx, Int.toNat_natCast, List.getElem?_map, Option.map_some, List.length_map, Obj.row]); refine hK _ ?_; clear hK K))
      refine awp_ret ?_; (refine hR _ _ (.inl rfl) rfl ?_)
      rw [hV2, hc]
      simp only [go_sem, simprocAttr, hget, hnn, hi2, hnx, Int.toNat_natCast, List.getElem?_map, Option.map_some, List.length_map, Obj.row, Bool.true_or]
    · rw [hc, Bool.false_or] at hV2
      refine awp_skip ?_
      refine hK _ ?_; clear hK K
      (refine awp_reg_end [1, 7, 8, 9] fun K hK => ?_; (repeat' ((refine al_r rfl fun K' hK' => ?_); (repeat (simp only [go_sem, simprocAttr, hget, hnn, hi2, hnx, Int.toNat_natCast, List.getElem?_map, Option.map_some, List.length_map, Obj.row])); ((refine hK' _ _ ?_) <;> clear hK' K'))); all_goals (refine al_nil ?_; (simp only [go_sem, simprocAttr, hget, hnn, hi2, hnx, Int.toNat_natCast, List.getElem?_map, Option.map_some, List.length_map, Obj.row]); refine hK _ ?_; clear hK K))
      exact ⟨l.length - (i + 1), by omega, [1, 7, 8, 9], [], by decide, by intro q hq; exact absurd hq (Nat.not_lt_zero q), i + 1, hi2, rfl, hV2, rfl⟩

  · have hie : i = l.length := by simp at hc; omega
    rw [hie, List.drop_length] at hV
    refine awp_exit ?_
    clear hK
    refine hK _ ?_; clear hK K
    (refine awp_reg_seq [4] fun K hK => ?_; (repeat' ((refine al_r rfl fun K' hK' => ?_); (repeat (simp only [go_sem, simprocAttr, List.length_map])); ((refine hK' _ _ ?_) <;> clear hK' K'))); all_goals (refine al_nil ?_; (simp only [go_sem, simprocAttr, List.length_map]); refine hK _ ?_; clear hK K))
    refine awp_ret ?_; (refine hR _ _ (.inl rfl) rfl ?_)
    rw [hV]
    simp only [go_sem, simprocAttr, List.length_map]
    try rfl
end Go.Proofs.Ytagphggcdmjlpaa.P

/- The copier, in plain words: one word, one part. -/
namespace Go.Proofs.Ytagphggcdmjlpaa.P
open Go.Ab Go.Proofs.Ytagphggcdmjlpaa.T

/-- Does a word name a place that goes over? -/
def toY (low w : Int) : Bool := (placeS w).2.1 && decide (low ≤ (placeS w).1)

theorem toY_cond (low w : Int) : (!(placeS w).2.1 || decide ((placeS w).1 < low)) = !toY low w := by
  unfold toY
  cases (placeS w).2.1
  · rfl
  · simp only [Bool.not_true, Bool.false_or, Bool.true_and]
    by_cases h : (placeS w).1 < low
    · rw [decide_eq_true h, decide_eq_false (by omega)]; rfl
    · rw [decide_eq_false h, decide_eq_true (by omega)]; rfl

def Known (low : Int) (mv : List (Int × Int)) (w : Int) : Prop := toY low w = true → ∃ t, lk mv (placeS w).1 = some t

/-- What a word is turned to. -/
def phi (low : Int) (mv : List (Int × Int)) (w : Int) : Int := if toY low w then (match lk mv (placeS w).1 with | some t => (wordS 4 t).1 | none => w) else w

def Sub (mv mv' : List (Int × Int)) : Prop := ∀ a t, lk mv a = some t → lk mv' a = some t

theorem known_sub {low w : Int} {mv mv' : List (Int × Int)} (h : Sub mv mv') (hk : Known low mv w) : Known low mv' w := fun ht => by
  obtain ⟨t, e⟩ := hk ht
  exact ⟨t, h _ _ e⟩

theorem phi_some {low w t : Int} {mv : List (Int × Int)} (h1 : toY low w = true) (h2 : lk mv (placeS w).1 = some t) : phi low mv w = (wordS 4 t).1 := by
  unfold phi; rw [if_pos h1, h2]

theorem phi_not {low w : Int} {mv : List (Int × Int)} (h1 : toY low w = false) : phi low mv w = w := by
  unfold phi; rw [if_neg (by rw [h1]; exact Bool.false_ne_true)]

theorem phi_sub {low w : Int} {mv mv' : List (Int × Int)} (h : Sub mv mv') (hk : Known low mv w) : phi low mv' w = phi low mv w := by
  cases ht : toY low w with
  | false => rw [phi_not ht, phi_not ht]
  | true =>
    obtain ⟨t, e⟩ := hk ht
    rw [phi_some ht e, phi_some ht (h _ _ e)]

theorem lk_snoc : ∀ (mv : List (Int × Int)) (a t b : Int), lk (mv ++ [(a, t)]) b = match lk mv b with | some x => some x | none => if a = b then some t else none
  | [], a, t, b => rfl
  | (c, d) :: l, a, t, b => by
    have e1 : lk ((c, d) :: l ++ [(a, t)]) b = if c = b then some d else lk (l ++ [(a, t)]) b := rfl
    have e2 : lk ((c, d) :: l) b = if c = b then some d else lk l b := rfl
    rw [e1, e2]
    by_cases h : c = b
    · rw [if_pos h, if_pos h]
    · rw [if_neg h, if_neg h, lk_snoc l]

/-- An object of the new heap, and the one that it stands for; so many of its parts are turned. -/
structure Src (L : List Obj) (low : Int) (st : Int → Nat) (mv : List (Int × Int)) (x o : Obj) : Prop where
  mem : o ∈ L
  lo : x.at_ < low → o.at_ = x.at_
  hi : low ≤ x.at_ → low ≤ o.at_ ∧ lk mv o.at_ = some x.at_
  kind : x.kind = o.kind
  num : x.num = o.num
  text : x.text = o.text
  parts : x.parts = (o.parts.take (st x.at_)).map (phi low mv) ++ o.parts.drop (st x.at_)
  known : ∀ p, p ∈ o.parts.take (st x.at_) → Known low mv p

theorem Src.len {L : List Obj} {low : Int} {st : Int → Nat} {mv : List (Int × Int)} {x o : Obj} (h : Src L low st mv x o) : x.parts.length = o.parts.length := by
  rw [h.parts, List.length_append, List.length_map, List.length_take, List.length_drop]; omega

theorem Src.encl {L : List Obj} {low : Int} {st : Int → Nat} {mv : List (Int × Int)} {x o : Obj} (h : Src L low st mv x o) : (encW x).length = (encW o).length := by
  rw [enc_len, enc_len, h.kind, h.text, h.len]

theorem Src.sub {L : List Obj} {low : Int} {st : Int → Nat} {mv mv' : List (Int × Int)} {x o : Obj} (hs : Sub mv mv') (h : Src L low st mv x o) : Src L low st mv' x o where
  mem := h.mem
  lo := h.lo
  hi := fun hx => ⟨(h.hi hx).1, hs _ _ (h.hi hx).2⟩
  kind := h.kind
  num := h.num
  text := h.text
  parts := by
    rw [h.parts]
    congr 1
    exact List.map_congr_left fun p hp => (phi_sub hs (h.known p hp)).symm
  known := fun p hp => known_sub hs (h.known p hp)

/-- Is it to be copied yet? -/
def leftB (low : Int) (mv : List (Int × Int)) (o : Obj) : Bool := decide (low ≤ o.at_) && (lk mv o.at_).isNone

/-- What is so all the time while the copier runs. -/
structure Inv (L : List Obj) (low : Int) (Rch : Int → Prop) (st : Int → Nat) (T : List Obj) (mv : List (Int × Int)) : Prop where
  placed : Placed T
  src : ∀ x, x ∈ T → ∃ o, Src L low st mv x o
  dst : ∀ a t, lk mv a = some t → Rch a ∧ low ≤ t ∧ ∃ x, x ∈ T ∧ x.at_ = t
  kept : ∀ o, o ∈ L → o.at_ < low → ∃ x, x ∈ T ∧ x.at_ = o.at_
  lowT : low ≤ (flat T).length
  fresh : ∀ a : Int, ((flat T).length : Int) ≤ a → st a = 0
  size : (flat T).length + restN (leftB low mv) L = (flat L).length
  inj : ∀ a b t, lk mv a = some t → lk mv b = some t → a = b

def HasSrc (L : List Obj) (low : Int) (st : Int → Nat) (T : List Obj) (mv : List (Int × Int)) (a : Int) (o : Obj) : Prop := ∃ x, x ∈ T ∧ x.at_ = a ∧ Src L low st mv x o

theorem wordC_eq (g : List Int) (low w : Int) (S : CS) : wordC g low S w = if toY low w then (match lk S.2 (placeS w).1 with | some t => ((wordS 4 t).1, S) | none => ((wordS 4 S.1.length).1, (putS S.1 (atS g (placeS w).1).1).1, S.2 ++ [((placeS w).1, (S.1.length : Int))])) else (w, S) := by
  unfold wordC
  rw [toY_cond]
  cases toY low w <;> rfl

/-- One word is turned. -/
theorem word_step {L : List Obj} {low : Int} {Rch : Int → Prop} {st : Int → Nat} {T : List Obj} {mv : List (Int × Int)} {w : Int} (hL : Placed L) (h4 : (flat L).length ≤ 4000) (hi : Inv L low Rch st T mv) (hn : NameOk L w) (hr : toY low w = true → Rch (placeS w).1) :
    ∃ T' mv', wordC (flat L) low (flat T, mv) w = (phi low mv' w, flat T', mv') ∧ wordOK (flat L) low (flat T, mv) w ∧ Inv L low Rch st T' mv' ∧ Known low mv' w ∧ Sub mv mv' ∧ (flat T).length ≤ (flat T').length ∧
      ∀ a o, HasSrc L low st T mv a o → HasSrc L low st T' mv' a o := by
  rw [wordC_eq]
  cases ht : toY low w with
  | false =>
    refine ⟨T, mv, by rw [if_neg Bool.false_ne_true, phi_not ht], fun hc => ?_, hi, fun h => ?_, fun _ _ h => h, Nat.le_refl _, fun _ _ h => h⟩
    · rw [toY_cond, ht] at hc; cases hc
    · rw [ht] at h; cases h
  | true =>
    rw [if_pos rfl]
    cases hl : lk mv (placeS w).1 with
    | some t =>
      refine ⟨T, mv, by rw [phi_some ht hl], fun _ h => ?_, hi, fun _ => ⟨t, hl⟩, fun _ _ h => h, Nat.le_refl _, fun _ _ h => h⟩
      rw [show lk (flat T, mv).2 (placeS w).1 = some t from hl] at h; cases h
    | none =>
      have ht2 := ht
      unfold toY at ht2
      rw [Bool.and_eq_true, decide_eq_true_eq] at ht2
      obtain ⟨hy, hlow⟩ := ht2
      obtain ⟨o, ho, hoa⟩ := hn.2 hy
      have hat := at_placed hL ho
      rw [hoa] at hat
      have hko := hL.2 o ho
      have hrest := rest_one (f := leftB low mv) (g := leftB low (mv ++ [((placeS w).1, ((flat T).length : Int))])) hL ho (by unfold leftB; rw [hoa, hl, decide_eq_true hlow]; rfl)
        (by unfold leftB; rw [hoa, lk_snoc, hl]; simp) (fun x hx hne => by
          unfold leftB
          rw [lk_snoc]
          cases lk mv x.at_ with
          | some _ => rfl
          | none => rw [if_neg (by rw [← hoa]; exact fun e => hne e.symm)])
      have hsz := hi.size
      have hput : putS (flat T) o = (flat T ++ encW o, ((flat T).length : Int), 0) := by
        have hel := enc_len o
        unfold putS
        rw [hko.1, if_neg (by simp), if_neg (by rw [decide_eq_true_eq]; omega)]
      obtain ⟨hp2, hf2⟩ := placed_snoc hi.placed hko
      have hsub : Sub mv (mv ++ [((placeS w).1, ((flat T).length : Int))]) := fun a t e => by rw [lk_snoc, e]
      have hlk : lk (mv ++ [((placeS w).1, ((flat T).length : Int))]) (placeS w).1 = some ((flat T).length : Int) := by rw [lk_snoc, hl]; simp
      refine ⟨T ++ [o.to (flat T).length], mv ++ [((placeS w).1, ((flat T).length : Int))], ?_, fun _ _ => ?_, ⟨hp2, fun x hx => ?_, fun a t e => ?_, fun x hx hxl => ?_, ?_, fun a ha => ?_, ?_, fun a b t ea eb => ?_⟩, fun _ => ⟨_, hlk⟩, hsub, ?_, fun a x h => ?_⟩
      · rw [phi_some ht hlk, hf2]
        show ((wordS 4 ((flat T).length : Int)).1, (putS (flat T) (atS (flat L) (placeS w).1).1).1, _) = _
        rw [hat, hput]
      · show (putS (flat T) (atS (flat L) (placeS w).1).1).2.2 = 0
        rw [hat, hput]
      · rcases List.mem_append.1 hx with hx | hx
        · obtain ⟨y, hy⟩ := hi.src x hx
          exact ⟨y, hy.sub hsub⟩
        · rcases List.mem_singleton.1 hx with rfl
          have h0 : st (o.to (flat T).length).at_ = 0 := hi.fresh _ (Int.le_refl _)
          refine ⟨o, ho, fun hlt => ?_, fun _ => ⟨by omega, by rw [hoa]; exact hlk⟩, rfl, rfl, rfl, ?_, fun p hp => ?_⟩
          · have : ((flat T).length : Int) < low := hlt
            have := hi.lowT; omega
          · rw [h0, List.take_zero, List.drop_zero]; rfl
          · rw [h0, List.take_zero] at hp; cases hp
      · rw [lk_snoc] at e
        cases hm : lk mv a with
        | some t2 =>
          rw [hm] at e
          cases e
          obtain ⟨d1, d2, x, hx, hxa⟩ := hi.dst a t hm
          exact ⟨d1, d2, x, List.mem_append_left _ hx, hxa⟩
        | none =>
          rw [hm] at e
          simp only at e
          split at e
          · rename_i hae
            cases e
            exact ⟨by rw [← hae]; exact hr ht, hi.lowT, _, List.mem_append_right _ (List.mem_singleton.2 rfl), rfl⟩
          · cases e
      · obtain ⟨y, hy, hya⟩ := hi.kept x hx hxl
        exact ⟨y, List.mem_append_left _ hy, hya⟩
      · rw [hf2, List.length_append]
        have := hi.lowT; omega
      · refine hi.fresh a ?_
        rw [hf2, List.length_append] at ha
        omega
      · rw [hf2, List.length_append]
        omega
      · have hlt : ∀ c u, lk mv c = some u → u < ((flat T).length : Int) := fun c u e => by
          obtain ⟨_, _, y, hy, hya⟩ := hi.dst c u e
          obtain ⟨m, e1, e2⟩ := placed_len hi.placed hy
          have hpos : 1 ≤ (encW y).length := by simp [encW]
          omega
        rw [lk_snoc] at ea eb
        cases ha : lk mv a with
        | some u =>
          rw [ha] at ea
          cases ea
          cases hb : lk mv b with
          | some v =>
            rw [hb] at eb
            cases eb
            exact hi.inj a b _ ha hb
          | none =>
            rw [hb] at eb
            simp only at eb
            split at eb
            · cases eb
              have := hlt a _ ha
              omega
            · cases eb
        | none =>
          rw [ha] at ea
          simp only at ea
          split at ea
          · rename_i hae
            cases ea
            cases hb : lk mv b with
            | some v =>
              rw [hb] at eb
              cases eb
              have := hlt b _ hb
              omega
            | none =>
              rw [hb] at eb
              simp only at eb
              split at eb
              · rename_i hbe
                rw [← hae, ← hbe]
              · cases eb
          · cases ea
      · rw [hf2, List.length_append]; omega
      · obtain ⟨y, hy, hya, hs⟩ := h
        exact ⟨y, List.mem_append_left _ hy, hya, hs.sub hsub⟩

def upd (st : Int → Nat) (a : Int) (v : Nat) : Int → Nat := fun b => if b = a then v else st b
theorem upd_same (st : Int → Nat) (a : Int) (v : Nat) : upd st a v a = v := if_pos rfl
theorem upd_ne {st : Int → Nat} {a b : Int} {v : Nat} (h : b ≠ a) : upd st a v b = st b := if_neg h
theorem upd_upd (st : Int → Nat) (a : Int) (v v' : Nat) : upd (upd st a v) a v' = upd st a v' := by
  funext b; unfold upd; split <;> rfl

theorem set_turn {f : Int → Int} {l : List Int} {i : Nat} {w : Int} (h : l[i]? = some w) : ((l.take i).map f ++ l.drop i).set i (f w) = (l.take (i + 1)).map f ++ l.drop (i + 1) := by
  have hi := lt_of_get h
  have hl : ((l.take i).map f).length = i := by rw [List.length_map, List.length_take]; omega
  rw [List.set_append_right _ _ (by omega), hl, Nat.sub_self, drop_of h, List.set_cons_zero, take_succ_of h, List.map_append, List.append_assoc]
  rfl

theorem Src.set {L : List Obj} {low : Int} {st : Int → Nat} {mv : List (Int × Int)} {x o : Obj} {i : Nat} {w : Int} (h : Src L low st mv x o) (hst : st x.at_ = i) (hw : x.parts[i]? = some w) (hk : Known low mv w) :
    Src L low (upd st x.at_ (i + 1)) mv (setPart x i (phi low mv w)) o := by
  have hp := h.parts
  rw [hst] at hp
  have hil := lt_of_get hw
  have hlen := h.len
  have ho : o.parts[i]? = some w := by
    rw [hp, List.getElem?_append_right (by rw [List.length_map, List.length_take]; omega), List.length_map, List.length_take, List.getElem?_drop] at hw
    rw [← hw]; congr 1; omega
  have e : (upd st x.at_ (i + 1)) (setPart x i (phi low mv w)).at_ = i + 1 := upd_same _ _ _
  refine ⟨h.mem, h.lo, h.hi, h.kind, h.num, h.text, ?_, fun p hpm => ?_⟩
  · rw [e]
    show x.parts.set i _ = _
    rw [hp, set_turn ho]
  · rw [e, take_succ_of ho] at hpm
    rcases List.mem_append.1 hpm with hpm | hpm
    · exact h.known p (by rw [hst]; exact hpm)
    · rcases List.mem_singleton.1 hpm with rfl; exact hk

theorem Src.upd_ne {L : List Obj} {low : Int} {st : Int → Nat} {mv : List (Int × Int)} {x o : Obj} {a : Int} {v : Nat} (h : Src L low st mv x o) (hne : x.at_ ≠ a) : Src L low (upd st a v) mv x o := by
  have e : upd st a v x.at_ = st x.at_ := P.upd_ne hne
  exact ⟨h.mem, h.lo, h.hi, h.kind, h.num, h.text, by rw [e]; exact h.parts, fun p hp => h.known p (by rw [e] at hp; exact hp)⟩

theorem Src.upd_all {L : List Obj} {low : Int} {st : Int → Nat} {mv : List (Int × Int)} {x o : Obj} {v : Nat} (h : Src L low st mv x o) (h1 : x.parts.length ≤ st x.at_) (h2 : x.parts.length ≤ v) : Src L low (upd st x.at_ v) mv x o := by
  have hlen := h.len
  have e1 : o.parts.take (upd st x.at_ v x.at_) = o.parts.take (st x.at_) := by
    rw [upd_same, List.take_of_length_le (by omega), List.take_of_length_le (by omega)]
  have e2 : o.parts.drop (upd st x.at_ v x.at_) = o.parts.drop (st x.at_) := by
    rw [upd_same, List.drop_eq_nil_of_le (by omega), List.drop_eq_nil_of_le (by omega)]
  exact ⟨h.mem, h.lo, h.hi, h.kind, h.num, h.text, by rw [e1, e2]; exact h.parts, fun p hp => h.known p (by rw [e1] at hp; exact hp)⟩

theorem phi_wordok {low w : Int} {mv : List (Int × Int)} (hw : WordOk w) : WordOk (phi low mv w) := by
  unfold phi
  split
  · split
    · exact wordS_ok _ _
    · exact hw
  · exact hw

/-- One part is set. -/
theorem set_step {L : List Obj} {low : Int} {Rch : Int → Prop} {st : Int → Nat} {T : List Obj} {mv : List (Int × Int)} {x : Obj} {i : Nat} {w : Int} (hi : Inv L low Rch st T mv) (hx : x ∈ T) (hst : st x.at_ = i) (hw : x.parts[i]? = some w) (hk : Known low mv w) :
    ∃ T', (flat T).set (x.at_.toNat + (encW x).length - x.parts.length + i) (phi low mv w) = flat T' ∧ Inv L low Rch (upd st x.at_ (i + 1)) T' mv ∧ (flat T').length = (flat T).length ∧
      ∀ a o, HasSrc L low st T mv a o → HasSrc L low (upd st x.at_ (i + 1)) T' mv a o := by
  obtain ⟨P, Q, hT, ha⟩ := placed_split hi.placed hx
  have hp := hi.placed
  rw [hT] at hp
  obtain ⟨hp2, hf2⟩ := placed_setPart (i := i) (w := phi low mv w) hp (phi_wordok ((hi.placed.2 x hx).2.2 w (List.mem_of_getElem? hw))) (lt_of_get hw)
  have hat : x.at_.toNat = (flat P).length := by omega
  have hlen : (flat (P ++ setPart x i (phi low mv w) :: Q)).length = (flat T).length := by rw [hf2, List.length_set, ← hT]
  have old : ∀ y, y ∈ P ++ x :: Q → y ≠ x → y ∈ P ++ setPart x i (phi low mv w) :: Q := fun y hy hne => by
    rcases List.mem_append.1 hy with hy | hy
    · exact List.mem_append_left _ hy
    · rcases List.mem_cons.1 hy with rfl | hy
      · exact absurd rfl hne
      · exact List.mem_append_right _ (List.mem_cons_of_mem _ hy)
  have hnew : setPart x i (phi low mv w) ∈ P ++ setPart x i (phi low mv w) :: Q := by simp
  have has : ∀ a, (∃ y, y ∈ T ∧ y.at_ = a) → ∃ y, y ∈ P ++ setPart x i (phi low mv w) :: Q ∧ y.at_ = a := fun a ⟨y, hy, hya⟩ => by
    by_cases hyx : y = x
    · subst hyx; exact ⟨_, hnew, hya⟩
    · exact ⟨y, old y (by rw [← hT]; exact hy) hyx, hya⟩
  have back : ∀ y, y ∈ P ++ setPart x i (phi low mv w) :: Q → y = setPart x i (phi low mv w) ∨ (y ∈ T ∧ y.at_ ≠ x.at_) := fun y hy => by
    by_cases hya : y.at_ = x.at_
    · exact .inl (placed_inj hp2 hy hnew hya)
    · refine .inr ⟨?_, hya⟩
      rw [hT]
      rcases List.mem_append.1 hy with hy | hy
      · exact List.mem_append_left _ hy
      · rcases List.mem_cons.1 hy with rfl | hy
        · exact absurd rfl hya
        · exact List.mem_append_right _ (List.mem_cons_of_mem _ hy)
  refine ⟨_, by rw [hat, hf2, ← hT], ⟨hp2, fun y hy => ?_, fun a t e => ?_, fun o ho hol => has _ (hi.kept o ho hol), by rw [hlen]; exact hi.lowT, fun a hal => ?_, by rw [hlen]; exact hi.size, hi.inj⟩, hlen, fun a o ⟨y, hy, hya, hs⟩ => ?_⟩
  · rcases back y hy with rfl | ⟨hy, hne⟩
    · obtain ⟨o, ho⟩ := hi.src x hx
      exact ⟨o, ho.set hst hw hk⟩
    · obtain ⟨o, ho⟩ := hi.src y hy
      exact ⟨o, ho.upd_ne hne⟩
  · obtain ⟨d1, d2, d3⟩ := hi.dst a t e
    exact ⟨d1, d2, has _ d3⟩
  · rw [hlen] at hal
    have := placed_len hi.placed hx
    obtain ⟨n, e1, e2⟩ := this
    have hpos : 1 ≤ (encW x).length := by simp [encW]
    rw [Go.Proofs.Ytagphggcdmjlpaa.P.upd_ne (show a ≠ x.at_ by omega)]
    exact hi.fresh a hal
  · by_cases hyx : y = x
    · subst hyx
      exact ⟨_, hnew, hya, hs.set hst hw hk⟩
    · exact ⟨y, old y (by rw [← hT]; exact hy) hyx, hya, hs.upd_ne fun e => hyx (placed_inj hi.placed hy hx e)⟩
end Go.Proofs.Ytagphggcdmjlpaa.P

/- The copier, in plain words: parts, late ones, roots, and the scan. -/
namespace Go.Proofs.Ytagphggcdmjlpaa.P
open Go.Ab Go.Proofs.Ytagphggcdmjlpaa.T

theorem Inv.upd_all {L : List Obj} {low : Int} {Rch : Int → Prop} {st : Int → Nat} {T : List Obj} {mv : List (Int × Int)} {x : Obj} (hi : Inv L low Rch st T mv) (hx : x ∈ T) (h1 : x.parts.length ≤ st x.at_) :
    Inv L low Rch (upd st x.at_ 1000) T mv ∧ ∀ a o, HasSrc L low st T mv a o → HasSrc L low (upd st x.at_ 1000) T mv a o := by
  have h2 : x.parts.length ≤ 1000 := by have := (right_small (hi.placed.2 x hx).1).2; omega
  have key : ∀ y o, y ∈ T → Src L low st mv y o → Src L low (upd st x.at_ 1000) mv y o := fun y o hy h => by
    by_cases e : y = x
    · subst e; exact h.upd_all h1 h2
    · exact h.upd_ne fun e2 => e (placed_inj hi.placed hy hx e2)
  refine ⟨⟨hi.placed, fun y hy => ?_, hi.dst, hi.kept, hi.lowT, fun a ha => ?_, hi.size, hi.inj⟩, fun a o ⟨y, hy, hya, hs⟩ => ⟨y, hy, hya, key y o hy hs⟩⟩
  · obtain ⟨o, ho⟩ := hi.src y hy
    exact ⟨o, key y o hy ho⟩
  · obtain ⟨n, e1, e2⟩ := placed_len hi.placed hx
    have hpos : 1 ≤ (encW x).length := by simp [encW]
    rw [upd_ne (show a ≠ x.at_ by omega)]
    exact hi.fresh a ha

theorem Inv.small {L : List Obj} {low : Int} {Rch : Int → Prop} {st : Int → Nat} {T : List Obj} {mv : List (Int × Int)} (hi : Inv L low Rch st T mv) : (flat T).length ≤ (flat L).length := by
  have := hi.size; omega

/-- The words of an object's parts may be turned. -/
def PartsOk (L : List Obj) (low : Int) (Rch : Int → Prop) (ws : List Int) : Prop := ∀ w, w ∈ ws → NameOk L w ∧ (toY low w = true → Rch (placeS w).1)

theorem partF_step {L : List Obj} {low : Int} {Rch : Int → Prop} (hL : Placed L) (h4 : (flat L).length ≤ 4000) {a : Int} {o : Obj} (hno : PartsOk L low Rch o.parts) :
    ∀ (ps : List Int) (i : Nat) (st : Int → Nat) (T : List Obj) (mv : List (Int × Int)), Inv L low Rch st T mv → HasSrc L low st T mv a o → st a = i → o.parts.drop i = ps →
      ∃ T' mv', partF (flat L) low (flat T, mv) (a.toNat + (encW o).length - o.parts.length + i) ps = (flat T', mv') ∧ partOK (flat L) low (flat T, mv) (a.toNat + (encW o).length - o.parts.length + i) ps ∧
        Inv L low Rch (upd st a 1000) T' mv' ∧ Sub mv mv' ∧ (flat T).length ≤ (flat T').length ∧ ∀ b q, HasSrc L low st T mv b q → HasSrc L low (upd st a 1000) T' mv' b q
  | [], i, st, T, mv, hi, ⟨x, hx, hxa, hs⟩, hst, hd => by
    have hl : o.parts.length ≤ i := by
      have := congrArg List.length hd
      rw [List.length_drop] at this
      simp at this; omega
    have h1 : x.parts.length ≤ st x.at_ := by rw [hs.len, hxa, hst]; exact hl
    obtain ⟨i1, i2⟩ := hi.upd_all hx h1
    rw [hxa] at i1 i2
    have hsm := hi.small
    exact ⟨T, mv, rfl, show (flat T).length ≤ 4000 by omega, i1, fun _ _ h => h, Nat.le_refl _, i2⟩
  | w :: l, i, st, T, mv, hi, hsrc, hst, hd => by
    have hget : o.parts[i]? = some w := by
      have := congrArg (fun l => l[0]?) hd
      simpa [List.getElem?_drop] using this
    have hwm := List.mem_of_getElem? hget
    obtain ⟨hn, hr⟩ := hno w hwm
    obtain ⟨T1, mv1, e1, ok1, inv1, kn1, sub1, len1, has1⟩ := word_step hL h4 hi hn hr
    obtain ⟨x, hx, hxa, hs⟩ := has1 a o hsrc
    have hil := lt_of_get hget
    have hxw : x.parts[i]? = some w := by
      have hp := hs.parts
      rw [hxa, hst] at hp
      rw [hp, List.getElem?_append_right (by rw [List.length_map, List.length_take]; omega), List.length_map, List.length_take, List.getElem?_drop, ← hget]
      congr 1; omega
    have hst1 : st x.at_ = i := by rw [hxa]; exact hst
    obtain ⟨T2, e2, inv2, len2, has2⟩ := set_step inv1 hx hst1 hxw kn1
    rw [hxa, hs.encl, hs.len] at e2
    rw [hxa] at inv2 has2
    have hd2 : o.parts.drop (i + 1) = l := by
      have := drop_of hget
      rw [hd] at this
      exact (List.cons.inj this).2.symm
    obtain ⟨T3, mv3, e3, ok3, inv3, sub3, len3, has3⟩ := partF_step hL h4 hno l (i + 1) (upd st a (i + 1)) T2 mv1 inv2 (has2 a o ⟨x, hx, hxa, hs⟩) (upd_same _ _ _) hd2
    have hsm := hi.small
    have hsm1 := inv1.small
    obtain ⟨n, en, hnl⟩ := placed_len inv1.placed hx
    have hpl : x.parts.length ≤ (encW x).length := by unfold encW; simp; omega
    rw [hs.encl] at hnl hpl
    rw [hs.len] at hpl
    have hk : a.toNat + (encW o).length - o.parts.length + i < (flat T1).length := by omega
    refine ⟨T3, mv3, ?_, ?_, by rw [upd_upd] at inv3; exact inv3, fun b t h => sub3 b t (sub1 b t h), by omega, fun b q h => by
      have := has3 b q (has2 b q (has1 b q h))
      rw [upd_upd] at this
      exact this⟩
    · show partF (flat L) low ((wordC (flat L) low (flat T, mv) w).2.1.set _ (wordC (flat L) low (flat T, mv) w).1, (wordC (flat L) low (flat T, mv) w).2.2) _ l = _
      rw [e1]
      simp only
      rw [e2]
      exact e3
    · refine ⟨ok1, show (flat T).length ≤ 4000 by omega, ?_, ?_, ?_⟩
      · rw [e1]; exact hk
      · rw [e1]; show (flat T1).length ≤ 4000; omega
      · rw [e1]
        simp only
        rw [e2]
        exact ok3

/-- An object of the new heap is turned. -/
theorem parts_step {L : List Obj} {low : Int} {Rch : Int → Prop} (hL : Placed L) (h4 : (flat L).length ≤ 4000) {n : Nat} {o : Obj} (hno : PartsOk L low Rch o.parts) {st : Int → Nat} {T : List Obj} {mv : List (Int × Int)} (hi : Inv L low Rch st T mv) (hsrc : HasSrc L low st T mv n o) (hst : st n = 0) :
    ∃ T' mv', partsC (flat L) low (flat T, mv) n = (n + (encW o).length, flat T', mv') ∧ partsOK (flat L) low (flat T, mv) n ∧ Inv L low Rch (upd st n 1000) T' mv' ∧ Sub mv mv' ∧ (flat T).length ≤ (flat T').length ∧ n + (encW o).length ≤ (flat T).length ∧
      ∀ b q, HasSrc L low st T mv b q → HasSrc L low (upd st n 1000) T' mv' b q := by
  obtain ⟨T', mv', e, ok, inv, sub, len, has⟩ := partF_step hL h4 hno o.parts 0 st T mv hi hsrc hst (List.drop_zero)
  obtain ⟨x, hx, hxa, hs⟩ := hsrc
  have hat := at_placed hi.placed hx
  rw [hxa] at hat
  have hput := put_nil (hi.placed.2 x hx).1
  have hxp : x.parts = o.parts := by
    have := hs.parts
    rw [hxa, hst, List.take_zero, List.drop_zero] at this
    exact this
  obtain ⟨m, em, hml⟩ := placed_len hi.placed hx
  have hmn : m = n := by omega
  subst hmn
  rw [hs.encl] at hml
  have hpl : o.parts.length ≤ (encW o).length := by unfold encW; simp; omega
  have hsm := hi.small
  rw [Int.toNat_natCast, Nat.add_zero] at e ok
  refine ⟨T', mv', ?_, ⟨placed_ok hi.placed, show (flat T).length ≤ 4000 by omega, ?_, ?_, ?_⟩, inv, sub, len, hml, has⟩
  · unfold partsC
    show (m + (putS [] (atS (flat T) m).1).1.length, partF _ _ _ (m + (putS [] (atS (flat T) m).1).1.length - (atS (flat T) m).1.parts.length) (atS (flat T) m).1.parts) = _
    rw [hat, hput]
    simp only
    rw [hs.encl, hxp, e]
  · show (atS (flat T) m).1.parts.length ≤ m + (putS [] (atS (flat T) m).1).1.length
    rw [hat, hput]
    simp only
    rw [hs.encl, hxp]; omega
  · show m + (putS [] (atS (flat T) m).1).1.length ≤ 4000
    rw [hat, hput]
    simp only
    rw [hs.encl]; omega
  · show partOK _ _ _ (m + (putS [] (atS (flat T) m).1).1.length - (atS (flat T) m).1.parts.length) (atS (flat T) m).1.parts
    rw [hat, hput]
    simp only
    rw [hs.encl, hxp]; exact ok

/-- The late ones are turned. -/
theorem late_step {L : List Obj} {low : Int} {Rch : Int → Prop} (hL : Placed L) (h4 : (flat L).length ≤ 4000) : ∀ (late : List Int) (st : Int → Nat) (T : List Obj) (mv : List (Int × Int)), Inv L low Rch st T mv → late.Pairwise (· < ·) →
    (∀ t, t ∈ late → 0 ≤ t ∧ st t = 0 ∧ ∃ o, HasSrc L low st T mv t o ∧ PartsOk L low Rch o.parts) →
      ∃ T' mv' st', lateC (flat L) low (flat T, mv) late = (flat T', mv') ∧ lateOK (flat L) low (flat T, mv) late ∧ Inv L low Rch st' T' mv' ∧ (∀ t, t ∈ late → st' t = 1000) ∧ (∀ b, b ∉ late → st' b = st b) ∧ Sub mv mv' ∧ (flat T).length ≤ (flat T').length
  | [], st, T, mv, hi, _, _ => ⟨T, mv, st, rfl, (by have := hi.small; show (flat T).length ≤ 4000; omega), hi, fun t ht => (by cases ht), fun _ _ => rfl, fun _ _ h => h, Nat.le_refl _⟩
  | t :: l, st, T, mv, hi, hp, hall => by
    obtain ⟨hp1, hp2⟩ := List.pairwise_cons.1 hp
    obtain ⟨h0, hst, o, hsrc, hno⟩ := hall t List.mem_cons_self
    obtain ⟨n, rfl⟩ := Int.eq_ofNat_of_zero_le h0
    obtain ⟨T1, mv1, e1, ok1, inv1, sub1, len1, _, has1⟩ := parts_step hL h4 hno hi hsrc hst
    obtain ⟨T2, mv2, st2, e2, ok2, inv2, d2, u2, sub2, len2⟩ := late_step hL h4 l (upd st n 1000) T1 mv1 inv1 hp2 fun t ht => by
      obtain ⟨a1, a2, o2, a3, a4⟩ := hall t (List.mem_cons_of_mem _ ht)
      have := hp1 t ht
      exact ⟨a1, by rw [upd_ne (by omega)]; exact a2, o2, has1 _ _ a3, a4⟩
    have hnl : (n : Int) ∉ l := fun h => by have := hp1 _ h; omega
    refine ⟨T2, mv2, st2, ?_, ⟨h0, ?_, ?_⟩, inv2, fun x hx => ?_, fun b hb => ?_, fun a b h => sub2 a b (sub1 a b h), by omega⟩
    · rw [late_cons, Int.toNat_natCast, e1]; exact e2
    · rw [Int.toNat_natCast]; exact ok1
    · rw [Int.toNat_natCast, e1]; exact ok2
    · rcases List.mem_cons.1 hx with rfl | hx
      · rw [u2 _ hnl, upd_same]
      · exact d2 x hx
    · rw [u2 b fun h => hb (List.mem_cons_of_mem _ h), upd_ne fun e => hb (by rw [e]; exact List.mem_cons_self)]

/-- The roots are turned. -/
theorem roots_step {L : List Obj} {low : Int} {Rch : Int → Prop} (hL : Placed L) (h4 : (flat L).length ≤ 4000) {st : Int → Nat} : ∀ (ws : List Int) (T : List Obj) (mv : List (Int × Int)), Inv L low Rch st T mv → PartsOk L low Rch ws →
      ∃ T' mv', rootsC (flat L) low (flat T, mv) ws = (ws.map (phi low mv'), flat T', mv') ∧ rootsOK (flat L) low (flat T, mv) ws ∧ Inv L low Rch st T' mv' ∧ (∀ w, w ∈ ws → Known low mv' w) ∧ Sub mv mv' ∧ (flat T).length ≤ (flat T').length
  | [], T, mv, hi, _ => ⟨T, mv, rfl, (by have := hi.small; show (flat T).length ≤ 4000; omega), hi, fun t ht => (by cases ht), fun _ _ h => h, Nat.le_refl _⟩
  | w :: l, T, mv, hi, hok => by
    obtain ⟨hn, hr⟩ := hok w List.mem_cons_self
    obtain ⟨T1, mv1, e1, ok1, inv1, kn1, sub1, len1, _⟩ := word_step hL h4 hi hn hr
    obtain ⟨T2, mv2, e2, ok2, inv2, kn2, sub2, len2⟩ := roots_step hL h4 l T1 mv1 inv1 fun w hw => hok w (List.mem_cons_of_mem _ hw)
    refine ⟨T2, mv2, ?_, ⟨show (flat T).length ≤ 4000 by have := hi.small; omega, ok1, by rw [e1]; exact ok2⟩, inv2, fun x hx => ?_, fun a b h => sub2 a b (sub1 a b h), by omega⟩
    · show ((wordC (flat L) low (flat T, mv) w).1 :: (rootsC (flat L) low (wordC (flat L) low (flat T, mv) w).2 l).1, (rootsC (flat L) low (wordC (flat L) low (flat T, mv) w).2 l).2) = _
      rw [e1]
      simp only
      rw [e2]
      simp only [List.map_cons]
      rw [phi_sub sub2 kn1]
    · rcases List.mem_cons.1 hx with rfl | hx
      · exact known_sub sub2 kn1
      · exact kn2 x hx

theorem no_start {T : List Obj} {x y : Obj} (hT : Placed T) (hx : x ∈ T) (hy : y ∈ T) (h : x.at_ < y.at_) : x.at_ + (encW x).length ≤ y.at_ := by
  obtain ⟨P, Q, rfl, ha⟩ := placed_split hT hx
  obtain ⟨_, hP, hQ, _⟩ := placed_parts hT
  rcases List.mem_append.1 hy with hy | hy
  · obtain ⟨n, e1, e2⟩ := placed_len hP hy
    omega
  · rcases List.mem_cons.1 hy with rfl | hy
    · omega
    · exact hQ y hy

theorem next_start {T : List Obj} {x : Obj} (hT : Placed T) (hx : x ∈ T) : x.at_ + (encW x).length = (flat T).length ∨ ∃ y, y ∈ T ∧ y.at_ = x.at_ + (encW x).length := by
  obtain ⟨P, Q, rfl, ha⟩ := placed_split hT hx
  obtain ⟨_, hP, hQ, hq⟩ := placed_parts hT
  cases Q with
  | nil =>
    left
    rw [flat_append, show flat [x] = encW x ++ [] from rfl, List.append_nil, List.length_append, ha]; omega
  | cons y Q =>
    right
    refine ⟨y, by simp, ?_⟩
    have := (List.cons.inj hq).1
    rw [← this, ha]
    show (((flat P).length + (encW x).length : Nat) : Int) = _
    omega

theorem Inv.congr {L : List Obj} {low : Int} {Rch : Int → Prop} {st st' : Int → Nat} {T : List Obj} {mv : List (Int × Int)} (hi : Inv L low Rch st T mv) (h1 : ∀ x, x ∈ T → st' x.at_ = st x.at_) (h2 : ∀ a : Int, ((flat T).length : Int) ≤ a → st' a = 0) : Inv L low Rch st' T mv := by
  refine ⟨hi.placed, fun x hx => ?_, hi.dst, hi.kept, hi.lowT, h2, hi.size, hi.inj⟩
  obtain ⟨o, h⟩ := hi.src x hx
  have e := h1 x hx
  exact ⟨o, h.mem, h.lo, h.hi, h.kind, h.num, h.text, by rw [e]; exact h.parts, by rw [e]; exact h.known⟩

/-- What is not yet turned is turned. -/
theorem scan_step {L : List Obj} {low : Int} {Rch : Int → Prop} (hL : Placed L) (h4 : (flat L).length ≤ 4000) (hcl : ∀ o, o ∈ L → Rch o.at_ → PartsOk L low Rch o.parts) :
    ∀ (f : Nat) (st : Int → Nat) (T : List Obj) (mv : List (Int × Int)) (n : Nat), Inv L low Rch st T mv → ((flat T).length = n ∨ ∃ x, x ∈ T ∧ x.at_ = n) → (flat L).length ≤ f + n → low ≤ n → (∀ b : Int, n ≤ b → st b = 0) → (∀ b : Int, low ≤ b → b < n → st b = 1000) →
      ∃ T' mv' st', scanC (flat L) low f (flat T, mv) n = (flat T', mv') ∧ scanOK (flat L) low f (flat T, mv) n ∧ Inv L low Rch st' T' mv' ∧ (∀ x, x ∈ T' → low ≤ x.at_ → st' x.at_ = 1000) ∧ (∀ b, b < low → st' b = st b) ∧ Sub mv mv'
  | 0, st, T, mv, n, hi, hb, hf, hln, hz, hd => by
    have hsm := hi.small
    have hle : (flat T).length ≤ n := by omega
    exact ⟨T, mv, st, rfl, hle, hi, fun x hx hl => hd _ hl (by
      obtain ⟨m, e1, e2⟩ := placed_len hi.placed hx
      have hpos : 1 ≤ (encW x).length := by simp [encW]
      omega), fun _ _ => rfl, fun _ _ h => h⟩
  | f + 1, st, T, mv, n, hi, hb, hf, hln, hz, hd => by
    by_cases hc : n < (flat T).length
    · obtain ⟨x, hx, hxa⟩ := hb.resolve_left (by omega)
      obtain ⟨o, ho⟩ := hi.src x hx
      obtain ⟨ho1, ho2⟩ := ho.hi (by omega)
      have hno := hcl o ho.mem (hi.dst _ _ ho2).1
      have hst : st n = 0 := hz n (Int.le_refl _)
      obtain ⟨T1, mv1, e1, ok1, inv1, sub1, len1, hnl, has1⟩ := parts_step hL h4 hno hi ⟨x, hx, hxa, ho⟩ hst
      obtain ⟨x1, hx1, hxa1, hs1⟩ := has1 n o ⟨x, hx, hxa, ho⟩
      have hel := hs1.encl
      have hpos : 1 ≤ (encW o).length := by simp [encW]
      have inv2 : Inv L low Rch (fun b => if (n : Int) ≤ b ∧ b < ((n + (encW o).length : Nat) : Int) then 1000 else st b) T1 mv1 := by
        refine inv1.congr (fun y hy => ?_) fun a ha => ?_
        · by_cases h1 : y.at_ = n
          · rw [if_pos (by omega), h1, upd_same]
          · rw [upd_ne h1, if_neg]
            intro h2
            have := no_start inv1.placed hx1 hy (by omega)
            omega
        · rw [if_neg (by omega)]
          exact hi.fresh a (by omega)
      have hb1 : (flat T1).length = n + (encW o).length ∨ ∃ y, y ∈ T1 ∧ y.at_ = ((n + (encW o).length : Nat) : Int) := by
        rcases next_start inv1.placed hx1 with h | ⟨y, hy, h⟩
        · left; rw [hel] at h; omega
        · right; exact ⟨y, hy, by rw [h, hxa1, hel]; omega⟩
      obtain ⟨T2, mv2, st2, e2, ok2, inv3, d2, u2, sub2⟩ := scan_step hL h4 hcl f _ T1 mv1 (n + (encW o).length) inv2 hb1 (by omega) (by omega)
        (fun b hb => by show (if _ then _ else _) = _; rw [if_neg (by omega)]; exact hz b (by omega))
        (fun b hb1 hb2 => by
          show (if _ then _ else _) = _
          by_cases h : (n : Int) ≤ b
          · rw [if_pos ⟨h, hb2⟩]
          · rw [if_neg (by omega)]; exact hd b hb1 (by omega))
      refine ⟨T2, mv2, st2, ?_, fun _ => ⟨ok1, by rw [e1]; exact ok2⟩, inv3, d2, fun b hb => ?_, fun a b h => sub2 a b (sub1 a b h)⟩
      · rw [scanC, if_pos (show n < (flat T).length from hc), e1]; exact e2
      · rw [u2 b hb]
        show (if _ then _ else _) = _
        rw [if_neg (by omega)]
    · refine ⟨T, mv, st, ?_, fun h => absurd h hc, hi, fun x hx hl => hd _ hl (by
        obtain ⟨m, e1, e2⟩ := placed_len hi.placed hx
        have hpos : 1 ≤ (encW x).length := by simp [encW]
        omega), fun _ _ => rfl, fun _ _ h => h⟩
      rw [scanC, if_neg (show ¬ n < (flat T).length from hc)]
end Go.Proofs.Ytagphggcdmjlpaa.P

/- Minor, its roots an own row: a contract. -/
namespace Go.Proofs.Ytagphggcdmjlpaa.P
open Go.Ab Go.Proofs.Ytagphggcdmjlpaa.T


set_option maxRecDepth 100000 in
theorem minorO (h : List Int) (n : Nat) (late ws : List Int) (f : Nat) (hnm : ACallP Try.prog 66 [agesD h n late, words ws] (iD 0)) (hg : h.length ≤ 4000) (hn : n ≤ h.length) (hok : ∀ w, w ∈ h → WordOk w) (hws : ws.length ≤ 100000) (hlate : late.length ≤ maxLen)
    (h1 : lateOK h n (h.take n, []) late) (h2 : rootsOK h n (lateC h n (h.take n, []) late) ws) (h3 : scanOK h n f (rootsC h n (lateC h n (h.take n, []) late) ws).2 n) :
    ACalls Try.prog 38 [agesD h n late, words ws] [] (fun r obs' => r = .tup [.agg [words (scanC h n f (rootsC h n (lateC h n (h.take n, []) late) ws).2 n).1, iD (scanC h n f (rootsC h n (lateC h n (h.take n, []) late) ws).2 n).1.length, .p (.sl [])], .ref 0 0 ws.length, iD 0] ∧ obs' = [.row 1 ((rootsC h n (lateC h n (h.take n, []) late) ws).1.map wrow)]) := by
  have htl : (h.take n).length = n := by rw [List.length_take]; omega
  have e0 : ((h.take n, []) : CS).1.length = n := htl
  have hrun := runCc h n (h.take n, []) late ws f (by simp [maxLen]; omega) hok (by rw [htl]; omega) hlate hws h1 h2 (by rw [e0]; exact h3)
  unfold copA at hrun
  rw [e0] at hrun
  clear h3 h2 h1
  generalize lateC h n (h.take n, []) late = A at hrun ⊢
  have hBl := roots_len h n ws A
  generalize rootsC h n A ws = B at hrun hBl ⊢
  have htB : List.take ws.length (B.1.map wrow) = B.1.map wrow := List.take_of_length_le (by simp [hBl])
  generalize scanC h n f B.2 n = C at hrun ⊢
  have htC : List.take C.1.length (C.1.map wrow) = C.1.map wrow := List.take_of_length_le (by simp)
  have hcl := cloneH (List.take n (h.map wrow)) (fun x hx => wrow1 h x (List.mem_of_mem_take hx)) (by simp; omega)
  have htn : (List.take n (h.map wrow)).length = n := by simp; omega
  rw [htn, ← List.map_take] at hcl
  have hcl : ACalls Try.prog 43 [.p (.sl (List.take n (h.map wrow)))] [] (fun r obs => r = .ref 0 0 n ∧ obs = [.row 1 ((h.take n).map wrow)]) := by rw [← List.map_take]; exact hcl
  have hn0 : (0 : Int) ≤ (n : Int) := Int.natCast_nonneg n
  have hnl : (n : Int) ≤ (h.length : Int) := by omega
  refine acallm_fnv [.cell 4 64, .tmp 5, .tmp 6] Try.func38 rfl rfl Try.ntmps38 (by simp) (by simp) fun R hR => ?_
  (refine awp_reg_seq [1, 2, 4] fun K hK => ?_; (repeat' ((refine al_r rfl fun K' hK' => ?_); (repeat (simp only [go_sem, simprocAttr, bne_self_eq_false, List.length_map])); ((refine hK' _ _ ?_) <;> clear hK' K'))); all_goals (refine al_nil ?_; (simp only [go_sem, simprocAttr, bne_self_eq_false, List.length_map]); refine hK _ ?_; clear hK K))
  (refine awp_frz [1, 2, 4] [1] (by decide) (by (simp; done)) ?_; simp only [go_sem, simprocAttr, bne_self_eq_false, List.length_map])
  refine awp_seq_k fun K hK => ?_
  (refine awp_reg_seq [1, 2, 4, 7] fun K hK => ?_; (repeat' ((refine al_r rfl fun K' hK' => ?_); (repeat (simp only [go_sem, simprocAttr, bne_self_eq_false, List.length_map])); (first | ((refine hK' _ _ ?_) <;> clear hK' K') | ((show AC _ _ (D.fn 66 _) _ _); refine acall_g (f := 66) (e := rfl) (hr := rfl) (hf := by simp [D.all, D.allL, flatL, flatPV]) (k := hK' _ _ ?_) (hc := Try.call66) (h := hnm); clear hK' K')))); all_goals (refine al_nil ?_; (simp only [go_sem, simprocAttr, bne_self_eq_false, List.length_map]); refine hK _ ?_; clear hK K))
  (refine awp_reg_seq [1, 2, 4, 7, 14] fun K hK => ?_; (repeat' ((refine al_r rfl fun K' hK' => ?_); (repeat (simp only [go_sem, simprocAttr, bne_self_eq_false, List.length_map])); ((refine hK' _ _ ?_) <;> clear hK' K'))); all_goals (refine al_nil ?_; (simp only [go_sem, simprocAttr, bne_self_eq_false, List.length_map]); refine hK _ ?_; clear hK K))
  refine awp_if (_) rfl (fun hc => ?_) (fun hc => ?_)
  · cases hc
  · refine awp_skip ?_
    refine hK _ ?_; clear hK K

    refine awp_suff ⟨ofL [(1, words ws), (2, .rd [.sl (h.map wrow), .lit (.int .i64 n), .sl (late.map irow)] 0), (4, .ptr 0 0 0), (8, .ptr 1 0 0)], [.box [.nil, iD 0, .nil], .box [words h, iD n, .ref 2 0 n, .mp 3], .row 1 ((h.take n).map wrow), .map []], 0⟩ ?_ (fun keyA => ?_)
    rotate_left
    · refine awp_draw_seq (by kernel_rfl) [1, 2, 4, 8] fun K hK => ?_
      ((refine ah_r 0 rfl (by kernel_rfl) rfl fun K' hK' => ?_); (simp only [go_sem, simprocAttr, bne_self_eq_false, List.length_map, hn0, hnl, Int.toNat_natCast, List.drop_zero]); ((refine hK' _ ?_); clear hK' K'))
      ((refine ah_r 1 rfl (by kernel_rfl) rfl fun K' hK' => ?_); (simp only [go_sem, simprocAttr, bne_self_eq_false, List.length_map, hn0, hnl, Int.toNat_natCast, List.drop_zero]); ((refine hK' _ ?_); clear hK' K'))
      ((refine ah_r 2 rfl (by kernel_rfl) rfl fun K' hK' => ?_); (simp only [go_sem, simprocAttr, bne_self_eq_false, List.length_map, hn0, hnl, Int.toNat_natCast, List.drop_zero]); ((refine hK' _ ?_); clear hK' K'))
      ((refine ah_r 3 rfl (by kernel_rfl) rfl fun K' hK' => ?_); (simp only [go_sem, simprocAttr, bne_self_eq_false, List.length_map, hn0, hnl, Int.toNat_natCast, List.drop_zero]); ((refine hK' _ ?_); clear hK' K'))
      ((refine ah_r 4 rfl (by kernel_rfl) rfl fun K' hK' => ?_); (simp only [go_sem, simprocAttr, bne_self_eq_false, List.length_map, hn0, hnl, Int.toNat_natCast, List.drop_zero]); ((refine hK' _ ?_); clear hK' K'))
      ((refine ah_r 5 rfl (by kernel_rfl) rfl fun K' hK' => ?_); (simp only [go_sem, simprocAttr, bne_self_eq_false, List.length_map, hn0, hnl, Int.toNat_natCast, List.drop_zero]); ((refine hK' _ ?_); clear hK' K'))
      ((refine ah_r 6 rfl (by kernel_rfl) rfl fun K' hK' => ?_); (simp only [go_sem, simprocAttr, bne_self_eq_false, List.length_map, hn0, hnl, Int.toNat_natCast, List.drop_zero]); ((refine hK' _ ?_); clear hK' K'))
      ((refine ah_r 7 rfl (by kernel_rfl) rfl fun K' hK' => ?_); (simp only [go_sem, simprocAttr, bne_self_eq_false, List.length_map, hn0, hnl, Int.toNat_natCast, List.drop_zero]); ((refine hK' _ ?_); clear hK' K'))
      refine ah_two 8 10 rfl rfl (by kernel_rfl) ?_ ?_
      · ((repeat' ((refine al_r rfl fun K' hK' => ?_); (repeat (simp only [go_sem, simprocAttr, bne_self_eq_false, List.length_map, hn0, hnl, Int.toNat_natCast, List.drop_zero])); ((refine ⟨?_, hK' _ _ ?_⟩) <;> clear hK' K' <;> (first | (show alist _ _ _ _ _ _; skip) | (simp; done))))); all_goals refine al_nil ?_)
        refine ah_two 9 10 rfl rfl (by kernel_rfl) ?_ ?_
        · ((repeat' ((refine al_r rfl fun K' hK' => ?_); (repeat (simp only [go_sem, simprocAttr, bne_self_eq_false, List.length_map, hn0, hnl, Int.toNat_natCast, List.drop_zero])); ((show AC _ _ (D.fn 43 _) _ _); refine acall_new (f := 43) Try.call43 hcl rfl ?_; rintro r obs' ⟨rfl, rfl⟩; (simp only [go_sem, simprocAttr, bne_self_eq_false, List.length_map, hn0, hnl, Int.toNat_natCast, List.drop_zero]); refine hK' _ _ ?_; clear hK' K'))); all_goals refine al_nil ?_)
          (refine ah_one 10 rfl (by kernel_rfl) ?_; (repeat' ((refine al_r rfl fun K' hK' => ?_); (repeat (simp only [go_sem, simprocAttr, bne_self_eq_false, List.length_map, hn0, hnl, Int.toNat_natCast, List.drop_zero])); ((refine hK' _ _ ?_) <;> clear hK' K'))); all_goals refine al_nil ?_)
          (refine ah_one 11 rfl (by kernel_rfl) ?_; (repeat' ((refine al_r rfl fun K' hK' => ?_); (repeat (simp only [go_sem, simprocAttr, bne_self_eq_false, List.length_map, hn0, hnl, Int.toNat_natCast, List.drop_zero])); ((refine hK' _ _ ?_) <;> clear hK' K'))); all_goals refine al_nil ?_)
          (refine ah_one 12 rfl (by kernel_rfl) ?_; (repeat' ((refine al_r rfl fun K' hK' => ?_); (repeat (simp only [go_sem, simprocAttr, bne_self_eq_false, List.length_map, hn0, hnl, Int.toNat_natCast, List.drop_zero])); ((refine hK' _ _ ?_) <;> clear hK' K'))); all_goals refine al_nil ?_)
          ((refine ah_r 13 rfl (by kernel_rfl) rfl fun K' hK' => ?_); (simp only [go_sem, simprocAttr, bne_self_eq_false, List.length_map, hn0, hnl, Int.toNat_natCast, List.drop_zero]); ((refine hK' _ ?_); clear hK' K'))
          (refine ah_done (by kernel_rfl) ?_; (simp only [go_sem, simprocAttr, bne_self_eq_false, List.length_map, hn0, hnl, Int.toNat_natCast, List.drop_zero]); refine hK _ ?_; clear hK K)
          (refine awp_frz [1, 2, 4, 8] [0, 3, 1, 2] (by decide) (by (simp; done)) ?_; simp only [go_sem, simprocAttr, bne_self_eq_false, List.length_map, hn0, hnl, Int.toNat_natCast, List.drop_zero])
          exact keyA
        · ((repeat' ((refine al_r rfl fun K' hK' => ?_); (repeat (simp only [go_sem, simprocAttr, bne_self_eq_false, List.length_map, hn0, hnl, Int.toNat_natCast, List.drop_zero])); ((refine hK' _ _ ?_) <;> clear hK' K'))); all_goals refine al_nil ?_)
          (refine ah_one 9 rfl (by kernel_rfl) ?_; (repeat' ((refine al_r rfl fun K' hK' => ?_); (repeat (simp only [go_sem, simprocAttr, bne_self_eq_false, List.length_map, hn0, hnl, Int.toNat_natCast, List.drop_zero])); ((show AC _ _ (D.fn 43 _) _ _); refine acall_new (f := 43) Try.call43 hcl rfl ?_; rintro r obs' ⟨rfl, rfl⟩; (simp only [go_sem, simprocAttr, bne_self_eq_false, List.length_map, hn0, hnl, Int.toNat_natCast, List.drop_zero]); refine hK' _ _ ?_; clear hK' K'))); all_goals refine al_nil ?_)
          (refine ah_one 11 rfl (by kernel_rfl) ?_; (repeat' ((refine al_r rfl fun K' hK' => ?_); (repeat (simp only [go_sem, simprocAttr, bne_self_eq_false, List.length_map, hn0, hnl, Int.toNat_natCast, List.drop_zero])); ((refine hK' _ _ ?_) <;> clear hK' K'))); all_goals refine al_nil ?_)
          (refine ah_one 12 rfl (by kernel_rfl) ?_; (repeat' ((refine al_r rfl fun K' hK' => ?_); (repeat (simp only [go_sem, simprocAttr, bne_self_eq_false, List.length_map, hn0, hnl, Int.toNat_natCast, List.drop_zero])); ((refine hK' _ _ ?_) <;> clear hK' K'))); all_goals refine al_nil ?_)
          ((refine ah_r 13 rfl (by kernel_rfl) rfl fun K' hK' => ?_); (simp only [go_sem, simprocAttr, bne_self_eq_false, List.length_map, hn0, hnl, Int.toNat_natCast, List.drop_zero]); ((refine hK' _ ?_); clear hK' K'))
          (refine ah_done (by kernel_rfl) ?_; (simp only [go_sem, simprocAttr, bne_self_eq_false, List.length_map, hn0, hnl, Int.toNat_natCast, List.drop_zero]); refine hK _ ?_; clear hK K)
          (refine awp_frz [1, 2, 4, 8] [0, 3, 2, 1] (by decide) (by (simp; done)) ?_; simp only [go_sem, simprocAttr, bne_self_eq_false, List.length_map, hn0, hnl, Int.toNat_natCast, List.drop_zero])
          exact keyA
      · ((repeat' ((refine al_r rfl fun K' hK' => ?_); (repeat (simp only [go_sem, simprocAttr, bne_self_eq_false, List.length_map, hn0, hnl, Int.toNat_natCast, List.drop_zero])); ((refine hK' _ _ ?_) <;> clear hK' K'))); all_goals refine al_nil ?_)
        (refine ah_one 8 rfl (by kernel_rfl) ?_; (repeat' ((refine al_r rfl fun K' hK' => ?_); (repeat (simp only [go_sem, simprocAttr, bne_self_eq_false, List.length_map, hn0, hnl, Int.toNat_natCast, List.drop_zero])); ((refine ⟨?_, hK' _ _ ?_⟩) <;> clear hK' K' <;> (first | (show alist _ _ _ _ _ _; skip) | (simp; done))))); all_goals refine al_nil ?_)
        (refine ah_one 9 rfl (by kernel_rfl) ?_; (repeat' ((refine al_r rfl fun K' hK' => ?_); (repeat (simp only [go_sem, simprocAttr, bne_self_eq_false, List.length_map, hn0, hnl, Int.toNat_natCast, List.drop_zero])); ((show AC _ _ (D.fn 43 _) _ _); refine acall_new (f := 43) Try.call43 hcl rfl ?_; rintro r obs' ⟨rfl, rfl⟩; (simp only [go_sem, simprocAttr, bne_self_eq_false, List.length_map, hn0, hnl, Int.toNat_natCast, List.drop_zero]); refine hK' _ _ ?_; clear hK' K'))); all_goals refine al_nil ?_)
        (refine ah_one 11 rfl (by kernel_rfl) ?_; (repeat' ((refine al_r rfl fun K' hK' => ?_); (repeat (simp only [go_sem, simprocAttr, bne_self_eq_false, List.length_map, hn0, hnl, Int.toNat_natCast, List.drop_zero])); ((refine hK' _ _ ?_) <;> clear hK' K'))); all_goals refine al_nil ?_)
        (refine ah_one 12 rfl (by kernel_rfl) ?_; (repeat' ((refine al_r rfl fun K' hK' => ?_); (repeat (simp only [go_sem, simprocAttr, bne_self_eq_false, List.length_map, hn0, hnl, Int.toNat_natCast, List.drop_zero])); ((refine hK' _ _ ?_) <;> clear hK' K'))); all_goals refine al_nil ?_)
        ((refine ah_r 13 rfl (by kernel_rfl) rfl fun K' hK' => ?_); (simp only [go_sem, simprocAttr, bne_self_eq_false, List.length_map, hn0, hnl, Int.toNat_natCast, List.drop_zero]); ((refine hK' _ ?_); clear hK' K'))
        (refine ah_done (by kernel_rfl) ?_; (simp only [go_sem, simprocAttr, bne_self_eq_false, List.length_map, hn0, hnl, Int.toNat_natCast, List.drop_zero]); refine hK _ ?_; clear hK K)
        (refine awp_frz [1, 2, 4, 8] [0, 3, 2, 1] (by decide) (by (simp; done)) ?_; simp only [go_sem, simprocAttr, bne_self_eq_false, List.length_map, hn0, hnl, Int.toNat_natCast, List.drop_zero])
        exact keyA
    (refine awp_reg_seq [4, 8, 9] fun K hK => ?_; (repeat' ((refine al_r rfl fun K' hK' => ?_); (repeat (simp only [go_sem, simprocAttr, bne_self_eq_false, List.length_map, hn0, hnl, Int.toNat_natCast, List.drop_zero])); (first | ((refine hK' _ _ ?_) <;> clear hK' K') | ((show AC _ _ (D.fn 73 _) _ _); refine acall_m (f := 73) [1, 2, 3] Try.call73 hrun rfl rfl (by decide) (by simp) ?_; rintro r obs' ⟨rfl, rfl⟩; refine ⟨by simp, ?_⟩; (simp only [go_sem, simprocAttr, bne_self_eq_false, List.length_map, hn0, hnl, Int.toNat_natCast, List.drop_zero]); refine hK' _ _ ?_; clear hK' K')))); all_goals (refine al_nil ?_; (simp only [go_sem, simprocAttr, bne_self_eq_false, List.length_map, hn0, hnl, Int.toNat_natCast, List.drop_zero]); refine hK _ ?_; clear hK K))
    refine awp_draw_seq (by kernel_rfl) [4, 5, 6] fun K hK => ?_
    ((refine ah_r 0 rfl (by kernel_rfl) rfl fun K' hK' => ?_); (simp only [go_sem, simprocAttr, bne_self_eq_false, List.length_map, hn0, hnl, Int.toNat_natCast, List.drop_zero]); ((refine hK' _ ?_); clear hK' K'))
    ((refine ah_r 4 rfl (by kernel_rfl) rfl fun K' hK' => ?_); (simp only [go_sem, simprocAttr, bne_self_eq_false, List.length_map, hn0, hnl, Int.toNat_natCast, List.drop_zero]); ((refine hK' _ ?_); clear hK' K'))
    ((refine ah_r 10 rfl (by kernel_rfl) rfl fun K' hK' => ?_); (simp only [go_sem, simprocAttr, bne_self_eq_false, List.length_map, hn0, hnl, Int.toNat_natCast, List.drop_zero]); ((refine hK' _ ?_); clear hK' K'))
    refine ah_two 1 5 rfl rfl (by kernel_rfl) ?_ ?_
    · ((repeat' ((refine al_r rfl fun K' hK' => ?_); (repeat (simp only [go_sem, simprocAttr, bne_self_eq_false, List.length_map, hn0, hnl, Int.toNat_natCast, List.drop_zero])); ((refine hK' _ _ ?_) <;> clear hK' K'))); all_goals refine al_nil ?_)
      ((refine ah_r 2 rfl (by kernel_rfl) rfl fun K' hK' => ?_); (simp only [go_sem, simprocAttr, bne_self_eq_false, List.length_map, hn0, hnl, Int.toNat_natCast, List.drop_zero]); ((refine hK' _ ?_); clear hK' K'))
      refine ah_two 3 5 rfl rfl (by kernel_rfl) ?_ ?_
      · ((repeat' ((refine al_r rfl fun K' hK' => ?_); (repeat (simp only [go_sem, simprocAttr, bne_self_eq_false, List.length_map, hn0, hnl, Int.toNat_natCast, List.drop_zero])); ((refine hK' _ _ ?_) <;> clear hK' K'))); all_goals refine al_nil ?_)
        (refine ah_one 5 rfl (by kernel_rfl) ?_; (repeat' ((refine al_r rfl fun K' hK' => ?_); (repeat (simp only [go_sem, simprocAttr, bne_self_eq_false, List.length_map, hn0, hnl, Int.toNat_natCast, List.drop_zero])); ((refine hK' _ _ ?_) <;> clear hK' K'))); all_goals refine al_nil ?_)
        ((refine ah_r 6 rfl (by kernel_rfl) rfl fun K' hK' => ?_); (simp only [go_sem, simprocAttr, bne_self_eq_false, List.length_map, hn0, hnl, Int.toNat_natCast, List.drop_zero]); ((refine hK' _ ?_); clear hK' K'))
        (refine ah_one 7 rfl (by kernel_rfl) ?_; (repeat' ((refine al_r rfl fun K' hK' => ?_); (repeat (simp only [go_sem, simprocAttr, bne_self_eq_false, List.length_map, hn0, hnl, Int.toNat_natCast, List.drop_zero])); ((refine hK' _ _ ?_) <;> clear hK' K'))); all_goals refine al_nil ?_)
        ((refine ah_r 8 rfl (by kernel_rfl) rfl fun K' hK' => ?_); (simp only [go_sem, simprocAttr, bne_self_eq_false, List.length_map, hn0, hnl, Int.toNat_natCast, List.drop_zero]); ((refine ⟨?_, hK' _ ?_⟩) <;> clear hK' K' <;> (first | (intro s hs; cases hs; done) | skip)))
        (refine ah_one 9 rfl (by kernel_rfl) ?_; (repeat' ((refine al_r rfl fun K' hK' => ?_); (repeat (simp only [go_sem, simprocAttr, bne_self_eq_false, List.length_map, hn0, hnl, Int.toNat_natCast, List.drop_zero])); ((refine hK' _ _ ?_) <;> clear hK' K'))); all_goals refine al_nil ?_)
        (refine ah_one 11 rfl (by kernel_rfl) ?_; (repeat' ((refine al_d rfl fun K' hK' => ?_); (repeat (first | (simp only [go_sem, simprocAttr, bne_self_eq_false, List.length_map, hn0, hnl, Int.toNat_natCast, List.drop_zero]) | refine AS.mk ?_)); ((refine ⟨?_, hK' _ _ ?_⟩) <;> clear hK' K' <;> (first | (show alist _ _ _ _ _ _; skip) | (simp; done))))); all_goals refine al_nil ?_)
        ((refine ah_r 12 rfl (by kernel_rfl) rfl fun K' hK' => ?_); (simp only [go_sem, simprocAttr, bne_self_eq_false, List.length_map, hn0, hnl, Int.toNat_natCast, List.drop_zero]); ((refine hK' _ ?_); clear hK' K'))
        ((refine ah_r 13 rfl (by kernel_rfl) rfl fun K' hK' => ?_); (simp only [go_sem, simprocAttr, bne_self_eq_false, List.length_map, hn0, hnl, Int.toNat_natCast, List.drop_zero]); ((refine hK' _ ?_); clear hK' K'))
        (refine ah_done (by kernel_rfl) ?_; (simp only [go_sem, simprocAttr, bne_self_eq_false, List.length_map, hn0, hnl, Int.toNat_natCast, List.drop_zero]); refine hK _ ?_; clear hK K)
        (refine awp_frz [4, 5, 6] [5] (by decide) (by (simp; done)) ?_; simp only [go_sem, simprocAttr, bne_self_eq_false, List.length_map, hn0, hnl, Int.toNat_natCast, List.drop_zero])
        simp only [htC]
        refine awp_ret (hR _ _ (.inl rfl) rfl ⟨[0], (.tup [.agg [words C.1, iD C.1.length, .p (.sl [])], .ref 0 0 ws.length, iD 0]), by decide, by simp only [List.length_cons, List.length_nil]; decide, ?_, ?_⟩)
        · simp only [go_sem, simprocAttr, bne_self_eq_false, List.length_map, hn0, hnl, Int.toNat_natCast, List.drop_zero]
        · refine ⟨?_, ?_⟩ <;> simp only [go_sem, simprocAttr, bne_self_eq_false, List.length_map, hn0, hnl, Int.toNat_natCast, List.drop_zero]
      · ((repeat' ((refine al_r rfl fun K' hK' => ?_); (repeat (simp only [go_sem, simprocAttr, bne_self_eq_false, List.length_map, hn0, hnl, Int.toNat_natCast, List.drop_zero])); ((refine hK' _ _ ?_) <;> clear hK' K'))); all_goals refine al_nil ?_)
        ((refine ah_r 6 rfl (by kernel_rfl) rfl fun K' hK' => ?_); (simp only [go_sem, simprocAttr, bne_self_eq_false, List.length_map, hn0, hnl, Int.toNat_natCast, List.drop_zero]); ((refine hK' _ ?_); clear hK' K'))
        refine ah_two 3 7 rfl rfl (by kernel_rfl) ?_ ?_
        · ((repeat' ((refine al_r rfl fun K' hK' => ?_); (repeat (simp only [go_sem, simprocAttr, bne_self_eq_false, List.length_map, hn0, hnl, Int.toNat_natCast, List.drop_zero])); ((refine hK' _ _ ?_) <;> clear hK' K'))); all_goals refine al_nil ?_)
          (refine ah_one 7 rfl (by kernel_rfl) ?_; (repeat' ((refine al_r rfl fun K' hK' => ?_); (repeat (simp only [go_sem, simprocAttr, bne_self_eq_false, List.length_map, hn0, hnl, Int.toNat_natCast, List.drop_zero])); ((refine hK' _ _ ?_) <;> clear hK' K'))); all_goals refine al_nil ?_)
          ((refine ah_r 8 rfl (by kernel_rfl) rfl fun K' hK' => ?_); (simp only [go_sem, simprocAttr, bne_self_eq_false, List.length_map, hn0, hnl, Int.toNat_natCast, List.drop_zero]); ((refine ⟨?_, hK' _ ?_⟩) <;> clear hK' K' <;> (first | (intro s hs; cases hs; done) | skip)))
          (refine ah_one 9 rfl (by kernel_rfl) ?_; (repeat' ((refine al_r rfl fun K' hK' => ?_); (repeat (simp only [go_sem, simprocAttr, bne_self_eq_false, List.length_map, hn0, hnl, Int.toNat_natCast, List.drop_zero])); ((refine hK' _ _ ?_) <;> clear hK' K'))); all_goals refine al_nil ?_)
          (refine ah_one 11 rfl (by kernel_rfl) ?_; (repeat' ((refine al_d rfl fun K' hK' => ?_); (repeat (first | (simp only [go_sem, simprocAttr, bne_self_eq_false, List.length_map, hn0, hnl, Int.toNat_natCast, List.drop_zero]) | refine AS.mk ?_)); ((refine ⟨?_, hK' _ _ ?_⟩) <;> clear hK' K' <;> (first | (show alist _ _ _ _ _ _; skip) | (simp; done))))); all_goals refine al_nil ?_)
          ((refine ah_r 12 rfl (by kernel_rfl) rfl fun K' hK' => ?_); (simp only [go_sem, simprocAttr, bne_self_eq_false, List.length_map, hn0, hnl, Int.toNat_natCast, List.drop_zero]); ((refine hK' _ ?_); clear hK' K'))
          ((refine ah_r 13 rfl (by kernel_rfl) rfl fun K' hK' => ?_); (simp only [go_sem, simprocAttr, bne_self_eq_false, List.length_map, hn0, hnl, Int.toNat_natCast, List.drop_zero]); ((refine hK' _ ?_); clear hK' K'))
          (refine ah_done (by kernel_rfl) ?_; (simp only [go_sem, simprocAttr, bne_self_eq_false, List.length_map, hn0, hnl, Int.toNat_natCast, List.drop_zero]); refine hK _ ?_; clear hK K)
          (refine awp_frz [4, 5, 6] [5] (by decide) (by (simp; done)) ?_; simp only [go_sem, simprocAttr, bne_self_eq_false, List.length_map, hn0, hnl, Int.toNat_natCast, List.drop_zero])
          simp only [htC]
          refine awp_ret (hR _ _ (.inl rfl) rfl ⟨[0], (.tup [.agg [words C.1, iD C.1.length, .p (.sl [])], .ref 0 0 ws.length, iD 0]), by decide, by simp only [List.length_cons, List.length_nil]; decide, ?_, ?_⟩)
          · simp only [go_sem, simprocAttr, bne_self_eq_false, List.length_map, hn0, hnl, Int.toNat_natCast, List.drop_zero]
          · refine ⟨?_, ?_⟩ <;> simp only [go_sem, simprocAttr, bne_self_eq_false, List.length_map, hn0, hnl, Int.toNat_natCast, List.drop_zero]
        · ((repeat' ((refine al_r rfl fun K' hK' => ?_); (repeat (simp only [go_sem, simprocAttr, bne_self_eq_false, List.length_map, hn0, hnl, Int.toNat_natCast, List.drop_zero])); ((refine hK' _ _ ?_) <;> clear hK' K'))); all_goals refine al_nil ?_)
          ((refine ah_r 8 rfl (by kernel_rfl) rfl fun K' hK' => ?_); (simp only [go_sem, simprocAttr, bne_self_eq_false, List.length_map, hn0, hnl, Int.toNat_natCast, List.drop_zero]); ((refine ⟨?_, hK' _ ?_⟩) <;> clear hK' K' <;> (first | (intro s hs; cases hs; done) | skip)))
          (refine ah_one 3 rfl (by kernel_rfl) ?_; (repeat' ((refine al_r rfl fun K' hK' => ?_); (repeat (simp only [go_sem, simprocAttr, bne_self_eq_false, List.length_map, hn0, hnl, Int.toNat_natCast, List.drop_zero])); ((refine hK' _ _ ?_) <;> clear hK' K'))); all_goals refine al_nil ?_)
          (refine ah_one 9 rfl (by kernel_rfl) ?_; (repeat' ((refine al_r rfl fun K' hK' => ?_); (repeat (simp only [go_sem, simprocAttr, bne_self_eq_false, List.length_map, hn0, hnl, Int.toNat_natCast, List.drop_zero])); ((refine hK' _ _ ?_) <;> clear hK' K'))); all_goals refine al_nil ?_)
          (refine ah_one 11 rfl (by kernel_rfl) ?_; (repeat' ((refine al_d rfl fun K' hK' => ?_); (repeat (first | (simp only [go_sem, simprocAttr, bne_self_eq_false, List.length_map, hn0, hnl, Int.toNat_natCast, List.drop_zero]) | refine AS.mk ?_)); ((refine ⟨?_, hK' _ _ ?_⟩) <;> clear hK' K' <;> (first | (show alist _ _ _ _ _ _; skip) | (simp; done))))); all_goals refine al_nil ?_)
          ((refine ah_r 12 rfl (by kernel_rfl) rfl fun K' hK' => ?_); (simp only [go_sem, simprocAttr, bne_self_eq_false, List.length_map, hn0, hnl, Int.toNat_natCast, List.drop_zero]); ((refine hK' _ ?_); clear hK' K'))
          ((refine ah_r 13 rfl (by kernel_rfl) rfl fun K' hK' => ?_); (simp only [go_sem, simprocAttr, bne_self_eq_false, List.length_map, hn0, hnl, Int.toNat_natCast, List.drop_zero]); ((refine hK' _ ?_); clear hK' K'))
          (refine ah_done (by kernel_rfl) ?_; (simp only [go_sem, simprocAttr, bne_self_eq_false, List.length_map, hn0, hnl, Int.toNat_natCast, List.drop_zero]); refine hK _ ?_; clear hK K)
          (refine awp_frz [4, 5, 6] [5] (by decide) (by (simp; done)) ?_; simp only [go_sem, simprocAttr, bne_self_eq_false, List.length_map, hn0, hnl, Int.toNat_natCast, List.drop_zero])
          simp only [htC]
          refine awp_ret (hR _ _ (.inl rfl) rfl ⟨[0], (.tup [.agg [words C.1, iD C.1.length, .p (.sl [])], .ref 0 0 ws.length, iD 0]), by decide, by simp only [List.length_cons, List.length_nil]; decide, ?_, ?_⟩)
          · simp only [go_sem, simprocAttr, bne_self_eq_false, List.length_map, hn0, hnl, Int.toNat_natCast, List.drop_zero]
          · refine ⟨?_, ?_⟩ <;> simp only [go_sem, simprocAttr, bne_self_eq_false, List.length_map, hn0, hnl, Int.toNat_natCast, List.drop_zero]
    · ((repeat' ((refine al_r rfl fun K' hK' => ?_); (repeat (simp only [go_sem, simprocAttr, bne_self_eq_false, List.length_map, hn0, hnl, Int.toNat_natCast, List.drop_zero])); ((refine hK' _ _ ?_) <;> clear hK' K'))); all_goals refine al_nil ?_)
      ((refine ah_r 6 rfl (by kernel_rfl) rfl fun K' hK' => ?_); (simp only [go_sem, simprocAttr, bne_self_eq_false, List.length_map, hn0, hnl, Int.toNat_natCast, List.drop_zero]); ((refine hK' _ ?_); clear hK' K'))
      refine ah_two 1 7 rfl rfl (by kernel_rfl) ?_ ?_
      · ((repeat' ((refine al_r rfl fun K' hK' => ?_); (repeat (simp only [go_sem, simprocAttr, bne_self_eq_false, List.length_map, hn0, hnl, Int.toNat_natCast, List.drop_zero])); ((refine hK' _ _ ?_) <;> clear hK' K'))); all_goals refine al_nil ?_)
        ((refine ah_r 2 rfl (by kernel_rfl) rfl fun K' hK' => ?_); (simp only [go_sem, simprocAttr, bne_self_eq_false, List.length_map, hn0, hnl, Int.toNat_natCast, List.drop_zero]); ((refine hK' _ ?_); clear hK' K'))
        refine ah_two 3 7 rfl rfl (by kernel_rfl) ?_ ?_
        · ((repeat' ((refine al_r rfl fun K' hK' => ?_); (repeat (simp only [go_sem, simprocAttr, bne_self_eq_false, List.length_map, hn0, hnl, Int.toNat_natCast, List.drop_zero])); ((refine hK' _ _ ?_) <;> clear hK' K'))); all_goals refine al_nil ?_)
          (refine ah_one 7 rfl (by kernel_rfl) ?_; (repeat' ((refine al_r rfl fun K' hK' => ?_); (repeat (simp only [go_sem, simprocAttr, bne_self_eq_false, List.length_map, hn0, hnl, Int.toNat_natCast, List.drop_zero])); ((refine hK' _ _ ?_) <;> clear hK' K'))); all_goals refine al_nil ?_)
          ((refine ah_r 8 rfl (by kernel_rfl) rfl fun K' hK' => ?_); (simp only [go_sem, simprocAttr, bne_self_eq_false, List.length_map, hn0, hnl, Int.toNat_natCast, List.drop_zero]); ((refine ⟨?_, hK' _ ?_⟩) <;> clear hK' K' <;> (first | (intro s hs; cases hs; done) | skip)))
          (refine ah_one 9 rfl (by kernel_rfl) ?_; (repeat' ((refine al_r rfl fun K' hK' => ?_); (repeat (simp only [go_sem, simprocAttr, bne_self_eq_false, List.length_map, hn0, hnl, Int.toNat_natCast, List.drop_zero])); ((refine hK' _ _ ?_) <;> clear hK' K'))); all_goals refine al_nil ?_)
          (refine ah_one 11 rfl (by kernel_rfl) ?_; (repeat' ((refine al_d rfl fun K' hK' => ?_); (repeat (first | (simp only [go_sem, simprocAttr, bne_self_eq_false, List.length_map, hn0, hnl, Int.toNat_natCast, List.drop_zero]) | refine AS.mk ?_)); ((refine ⟨?_, hK' _ _ ?_⟩) <;> clear hK' K' <;> (first | (show alist _ _ _ _ _ _; skip) | (simp; done))))); all_goals refine al_nil ?_)
          ((refine ah_r 12 rfl (by kernel_rfl) rfl fun K' hK' => ?_); (simp only [go_sem, simprocAttr, bne_self_eq_false, List.length_map, hn0, hnl, Int.toNat_natCast, List.drop_zero]); ((refine hK' _ ?_); clear hK' K'))
          ((refine ah_r 13 rfl (by kernel_rfl) rfl fun K' hK' => ?_); (simp only [go_sem, simprocAttr, bne_self_eq_false, List.length_map, hn0, hnl, Int.toNat_natCast, List.drop_zero]); ((refine hK' _ ?_); clear hK' K'))
          (refine ah_done (by kernel_rfl) ?_; (simp only [go_sem, simprocAttr, bne_self_eq_false, List.length_map, hn0, hnl, Int.toNat_natCast, List.drop_zero]); refine hK _ ?_; clear hK K)
          (refine awp_frz [4, 5, 6] [5] (by decide) (by (simp; done)) ?_; simp only [go_sem, simprocAttr, bne_self_eq_false, List.length_map, hn0, hnl, Int.toNat_natCast, List.drop_zero])
          simp only [htC]
          refine awp_ret (hR _ _ (.inl rfl) rfl ⟨[0], (.tup [.agg [words C.1, iD C.1.length, .p (.sl [])], .ref 0 0 ws.length, iD 0]), by decide, by simp only [List.length_cons, List.length_nil]; decide, ?_, ?_⟩)
          · simp only [go_sem, simprocAttr, bne_self_eq_false, List.length_map, hn0, hnl, Int.toNat_natCast, List.drop_zero]
          · refine ⟨?_, ?_⟩ <;> simp only [go_sem, simprocAttr, bne_self_eq_false, List.length_map, hn0, hnl, Int.toNat_natCast, List.drop_zero]
        · ((repeat' ((refine al_r rfl fun K' hK' => ?_); (repeat (simp only [go_sem, simprocAttr, bne_self_eq_false, List.length_map, hn0, hnl, Int.toNat_natCast, List.drop_zero])); ((refine hK' _ _ ?_) <;> clear hK' K'))); all_goals refine al_nil ?_)
          ((refine ah_r 8 rfl (by kernel_rfl) rfl fun K' hK' => ?_); (simp only [go_sem, simprocAttr, bne_self_eq_false, List.length_map, hn0, hnl, Int.toNat_natCast, List.drop_zero]); ((refine ⟨?_, hK' _ ?_⟩) <;> clear hK' K' <;> (first | (intro s hs; cases hs; done) | skip)))
          (refine ah_one 3 rfl (by kernel_rfl) ?_; (repeat' ((refine al_r rfl fun K' hK' => ?_); (repeat (simp only [go_sem, simprocAttr, bne_self_eq_false, List.length_map, hn0, hnl, Int.toNat_natCast, List.drop_zero])); ((refine hK' _ _ ?_) <;> clear hK' K'))); all_goals refine al_nil ?_)
          (refine ah_one 9 rfl (by kernel_rfl) ?_; (repeat' ((refine al_r rfl fun K' hK' => ?_); (repeat (simp only [go_sem, simprocAttr, bne_self_eq_false, List.length_map, hn0, hnl, Int.toNat_natCast, List.drop_zero])); ((refine hK' _ _ ?_) <;> clear hK' K'))); all_goals refine al_nil ?_)
          (refine ah_one 11 rfl (by kernel_rfl) ?_; (repeat' ((refine al_d rfl fun K' hK' => ?_); (repeat (first | (simp only [go_sem, simprocAttr, bne_self_eq_false, List.length_map, hn0, hnl, Int.toNat_natCast, List.drop_zero]) | refine AS.mk ?_)); ((refine ⟨?_, hK' _ _ ?_⟩) <;> clear hK' K' <;> (first | (show alist _ _ _ _ _ _; skip) | (simp; done))))); all_goals refine al_nil ?_)
          ((refine ah_r 12 rfl (by kernel_rfl) rfl fun K' hK' => ?_); (simp only [go_sem, simprocAttr, bne_self_eq_false, List.length_map, hn0, hnl, Int.toNat_natCast, List.drop_zero]); ((refine hK' _ ?_); clear hK' K'))
          ((refine ah_r 13 rfl (by kernel_rfl) rfl fun K' hK' => ?_); (simp only [go_sem, simprocAttr, bne_self_eq_false, List.length_map, hn0, hnl, Int.toNat_natCast, List.drop_zero]); ((refine hK' _ ?_); clear hK' K'))
          (refine ah_done (by kernel_rfl) ?_; (simp only [go_sem, simprocAttr, bne_self_eq_false, List.length_map, hn0, hnl, Int.toNat_natCast, List.drop_zero]); refine hK _ ?_; clear hK K)
          (refine awp_frz [4, 5, 6] [5] (by decide) (by (simp; done)) ?_; simp only [go_sem, simprocAttr, bne_self_eq_false, List.length_map, hn0, hnl, Int.toNat_natCast, List.drop_zero])
          simp only [htC]
          refine awp_ret (hR _ _ (.inl rfl) rfl ⟨[0], (.tup [.agg [words C.1, iD C.1.length, .p (.sl [])], .ref 0 0 ws.length, iD 0]), by decide, by simp only [List.length_cons, List.length_nil]; decide, ?_, ?_⟩)
          · simp only [go_sem, simprocAttr, bne_self_eq_false, List.length_map, hn0, hnl, Int.toNat_natCast, List.drop_zero]
          · refine ⟨?_, ?_⟩ <;> simp only [go_sem, simprocAttr, bne_self_eq_false, List.length_map, hn0, hnl, Int.toNat_natCast, List.drop_zero]
      · ((repeat' ((refine al_r rfl fun K' hK' => ?_); (repeat (simp only [go_sem, simprocAttr, bne_self_eq_false, List.length_map, hn0, hnl, Int.toNat_natCast, List.drop_zero])); ((refine hK' _ _ ?_) <;> clear hK' K'))); all_goals refine al_nil ?_)
        ((refine ah_r 8 rfl (by kernel_rfl) rfl fun K' hK' => ?_); (simp only [go_sem, simprocAttr, bne_self_eq_false, List.length_map, hn0, hnl, Int.toNat_natCast, List.drop_zero]); ((refine ⟨?_, hK' _ ?_⟩) <;> clear hK' K' <;> (first | (intro s hs; cases hs; done) | skip)))
        (refine ah_one 1 rfl (by kernel_rfl) ?_; (repeat' ((refine al_r rfl fun K' hK' => ?_); (repeat (simp only [go_sem, simprocAttr, bne_self_eq_false, List.length_map, hn0, hnl, Int.toNat_natCast, List.drop_zero])); ((refine hK' _ _ ?_) <;> clear hK' K'))); all_goals refine al_nil ?_)
        ((refine ah_r 2 rfl (by kernel_rfl) rfl fun K' hK' => ?_); (simp only [go_sem, simprocAttr, bne_self_eq_false, List.length_map, hn0, hnl, Int.toNat_natCast, List.drop_zero]); ((refine hK' _ ?_); clear hK' K'))
        (refine ah_one 3 rfl (by kernel_rfl) ?_; (repeat' ((refine al_r rfl fun K' hK' => ?_); (repeat (simp only [go_sem, simprocAttr, bne_self_eq_false, List.length_map, hn0, hnl, Int.toNat_natCast, List.drop_zero])); ((refine hK' _ _ ?_) <;> clear hK' K'))); all_goals refine al_nil ?_)
        (refine ah_one 9 rfl (by kernel_rfl) ?_; (repeat' ((refine al_r rfl fun K' hK' => ?_); (repeat (simp only [go_sem, simprocAttr, bne_self_eq_false, List.length_map, hn0, hnl, Int.toNat_natCast, List.drop_zero])); ((refine hK' _ _ ?_) <;> clear hK' K'))); all_goals refine al_nil ?_)
        (refine ah_one 11 rfl (by kernel_rfl) ?_; (repeat' ((refine al_d rfl fun K' hK' => ?_); (repeat (first | (simp only [go_sem, simprocAttr, bne_self_eq_false, List.length_map, hn0, hnl, Int.toNat_natCast, List.drop_zero]) | refine AS.mk ?_)); ((refine ⟨?_, hK' _ _ ?_⟩) <;> clear hK' K' <;> (first | (show alist _ _ _ _ _ _; skip) | (simp; done))))); all_goals refine al_nil ?_)
        ((refine ah_r 12 rfl (by kernel_rfl) rfl fun K' hK' => ?_); (simp only [go_sem, simprocAttr, bne_self_eq_false, List.length_map, hn0, hnl, Int.toNat_natCast, List.drop_zero]); ((refine hK' _ ?_); clear hK' K'))
        ((refine ah_r 13 rfl (by kernel_rfl) rfl fun K' hK' => ?_); (simp only [go_sem, simprocAttr, bne_self_eq_false, List.length_map, hn0, hnl, Int.toNat_natCast, List.drop_zero]); ((refine hK' _ ?_); clear hK' K'))
        (refine ah_done (by kernel_rfl) ?_; (simp only [go_sem, simprocAttr, bne_self_eq_false, List.length_map, hn0, hnl, Int.toNat_natCast, List.drop_zero]); refine hK _ ?_; clear hK K)
        (refine awp_frz [4, 5, 6] [5] (by decide) (by (simp; done)) ?_; simp only [go_sem, simprocAttr, bne_self_eq_false, List.length_map, hn0, hnl, Int.toNat_natCast, List.drop_zero])
        simp only [htC]
        refine awp_ret (hR _ _ (.inl rfl) rfl ⟨[0], (.tup [.agg [words C.1, iD C.1.length, .p (.sl [])], .ref 0 0 ws.length, iD 0]), by decide, by simp only [List.length_cons, List.length_nil]; decide, ?_, ?_⟩)
        · simp only [go_sem, simprocAttr, bne_self_eq_false, List.length_map, hn0, hnl, Int.toNat_natCast, List.drop_zero]
        · refine ⟨?_, ?_⟩ <;> simp only [go_sem, simprocAttr, bne_self_eq_false, List.length_map, hn0, hnl, Int.toNat_natCast, List.drop_zero]
    skip
end Go.Proofs.Ytagphggcdmjlpaa.P

/- A value is read as it lies in a heap: a contract. -/
namespace Go.Proofs.Ytagphggcdmjlpaa.P
open Go.Ab Go.Proofs.Ytagphggcdmjlpaa.T

/-- Words and values, pairwise; how deep at most, how many together. -/
def RepL (R : Int → List PV → Nat → Nat → Prop) : List Int → List (List PV) → Nat → Nat → Prop
  | [], [], d, c => d = 0 ∧ c = 0
  | w :: ws, x :: xs, d, c => ∃ d1 c1 d2 c2, R w x d1 c1 ∧ RepL R ws xs d2 c2 ∧ d = max d1 d2 ∧ c = c1 + c2
  | _, _, _, _ => False

/-- A word of a heap is a value, so deep, of so many nodes. -/
def Rep (g : List Int) : Nat → Int → List PV → Nat → Nat → Prop
  | 0, _, _, _, _ => False
  | f + 1, w, xs, d, c => ∃ k n text args, xs = [.lit (.int .i64 k), .lit (.int .i64 n), .lit (.string text), .sl args] ∧
    (((ofS k n text args).2 = true ∧ w = (ofS k n text args).1 ∧ d = 1 ∧ c = 1) ∨
     (∃ (a : Nat) (o : Obj) (d0 c0 : Nat), a ≤ 4000 ∧ w = (wordS 4 a).1 ∧ atS g a = (o, 0) ∧ rightS o = true ∧ kindsS o.kind = k ∧ o.num = n ∧ o.text = text ∧ RepL (Rep g f) o.parts args d0 c0 ∧ d = d0 + 1 ∧ c = c0 + 1))

theorem RepL.len {R : Int → List PV → Nat → Nat → Prop} : ∀ {ws : List Int} {xs : List (List PV)} {d c : Nat}, RepL R ws xs d c → ws.length = xs.length
  | [], [], _, _, _ => rfl
  | w :: ws, x :: xs, d, c, h => by
    obtain ⟨_, _, _, _, _, h, _⟩ := h
    simp [h.len]

theorem RepL.mono {R R' : Int → List PV → Nat → Nat → Prop} (hR : ∀ w x d c, R w x d c → R' w x d c) : ∀ {ws : List Int} {xs : List (List PV)} {d c : Nat}, RepL R ws xs d c → RepL R' ws xs d c
  | [], [], _, _, h => h
  | w :: ws, x :: xs, d, c, h => by
    obtain ⟨d1, c1, d2, c2, h1, h2, h3, h4⟩ := h
    exact ⟨d1, c1, d2, c2, hR _ _ _ _ h1, h2.mono hR, h3, h4⟩

theorem Rep.mono {g : List Int} : ∀ {f f' : Nat}, f ≤ f' → ∀ w xs d c, Rep g f w xs d c → Rep g f' w xs d c
  | 0, _, _, _, _, _, _, h => h.elim
  | f + 1, 0, hf, _, _, _, _, _ => by omega
  | f + 1, f' + 1, hf, w, xs, d, c, h => by
    obtain ⟨k, n, text, args, e, h | ⟨a, o, d0, c0, h1, h2, h3, h4, h5, h6, h7, h8, h9⟩⟩ := h
    · exact ⟨k, n, text, args, e, .inl h⟩
    · exact ⟨k, n, text, args, e, .inr ⟨a, o, d0, c0, h1, h2, h3, h4, h5, h6, h7, h8.mono (Rep.mono (by omega)), h9⟩⟩

theorem Rep.one {g : List Int} {f : Nat} {w : Int} {xs : List PV} {d c : Nat} (h : Rep g f w xs d c) : 1 ≤ d ∧ 1 ≤ c := by
  cases f with
  | zero => exact h.elim
  | succ f =>
    obtain ⟨k, n, text, args, e, h | ⟨a, o, d0, c0, _, _, _, _, _, _, _, _, h1, h2⟩⟩ := h
    · omega
    · omega

theorem RepL.zero {g : List Int} {f : Nat} {ws : List Int} {xs : List (List PV)} {d c : Nat} (h : RepL (Rep g f) ws xs d c) : ws.length ≤ c := by
  induction ws generalizing xs d c with
  | nil => exact Nat.zero_le _
  | cons w ws ih =>
    cases xs with
    | nil => exact h.elim
    | cons x xs =>
      obtain ⟨d1, c1, d2, c2, h1, h2, h3, h4⟩ := h
      have := ih h2
      have := h1.one
      simp only [List.length_cons]; omega

theorem text_nil {t : ByteArray} (h : (t.toList == (ByteArray.mk #[]).toList) = true) : t = ByteArray.empty := by
  rw [ByteArray.toList_eq, ByteArray.toList_eq] at h
  have h : t.data.toList = [] := by simpa using h
  obtain ⟨d⟩ := t
  have : d = #[] := by simpa using h
  subst this
  rfl

theorem of_leaf {k n : Int} {text : ByteArray} {args : List (List PV)} (h : (ofS k n text args).2 = true) : text = ByteArray.empty ∧ args = [] := by
  unfold ofS at h
  split at h
  · cases h
  · rename_i hc
    simp only [Bool.or_eq_true, not_or, Bool.not_eq_true', Bool.not_eq_false, decide_eq_true_eq] at hc
    exact ⟨text_nil hc.1.2, List.length_eq_zero_iff.1 (by omega)⟩

theorem word4_read {a : Nat} (h : a ≤ 4000) : readS (wordS 4 (a : Int)).1 = (4, (a : Int), 0) := by
  have : fits 4 (a : Int) = true := by
    unfold fits
    have h1 : decide ((a : Int) ≥ 0) = true := by simp
    have h2 : decide ((a : Int) < 1152921504606846976) = true := by simp; omega
    rw [h1, h2]; simp
  exact read_word this

theorem word4_value {a : Nat} (h : a ≤ 4000) : valueS (wordS 4 (a : Int)).1 = (0, 0, false) := by
  unfold valueS
  rw [word4_read h]
  rfl

theorem left_small {l : Int} (h : 1 ≤ l) (h2 : l ≤ 100000) : IntKind.i64.wrap (l - 1) = l - 1 := Go.Ab.wrap_small (by omega) (by omega)


theorem readLeaf (g : List Int) (w k n nest left : Int) (hva : ACallP Try.prog 81 [wD w] (.tup [.agg [iD k, iD n, .p (.lit (.string ByteArray.empty)), .p (.sl [])], bD true])) (hl1 : 1 ≤ left) (hl2 : left ≤ 100000) (hn : 1 ≤ nest) :
    ACalls Try.prog 58 [words g, wD w, iD nest, .ptr 0 0 0] [.box [iD left]] (fun r obs' => r = .tup [valD k n ByteArray.empty [], iD 0] ∧ obs' = [.box [iD (left - 1)]]) := by
  have hwl := left_small hl1 hl2
  have c1 : decide (left - 1 < 0) = false := by simp; omega
  have c2 : decide (nest < 1) = false := by simp; omega
  refine acallm_fnv [.cell 8 38, .tmp 9] Try.func58 rfl rfl Try.ntmps58 (by simp) (by simp) fun R hR => ?_
  (refine awp_reg_seq [0, 1, 2, 3, 8] fun K hK => ?_; (repeat' ((refine al_r rfl fun K' hK' => ?_); (repeat (simp only [go_sem, simprocAttr])); ((refine hK' _ _ ?_) <;> clear hK' K'))); all_goals (refine al_nil ?_; (simp only [go_sem, simprocAttr]); refine hK _ ?_; clear hK K))
  refine awp_seq_k fun K hK => ?_

  (refine awp_reg_seq [0, 1, 2, 3, 8] fun K hK => ?_; (repeat' ((first | refine al_r rfl fun K' hK' => ?_ | refine al_d rfl fun K' hK' => ?_); (repeat (first | (simp only [go_sem, simprocAttr, hwl, c1, c2]) | refine AS.mk ?_)); ((first | refine hK' _ _ ?_ | refine ⟨?_, hK' _ _ ?_⟩) <;> clear hK' K' <;> (first | (show alist _ _ _ _ _ _; skip) | (simp; done))))); all_goals (refine al_nil ?_; (simp only [go_sem, simprocAttr, hwl, c1, c2]); refine hK _ ?_; clear hK K))
  (refine awp_reg_tov [0, 1, 2, 3, 8, 33] [(33, bD false)] (h := ?_) (k := ?_); · ((repeat' ((first | refine al_r rfl fun K' hK' => ?_ | refine al_t rfl rfl fun K' hK' => ?_); (repeat (simp only [go_sem, simprocAttr, hwl, c1, c2])); ((refine hK' _ _ ?_) <;> clear hK' K'))); all_goals (refine al_nil ?_; simp only [go_sem, simprocAttr, hwl, c1, c2, *, Bool.and_true, Bool.and_false, Bool.true_and, Bool.false_and, Bool.or_true, Bool.true_or, Bool.or_false, Bool.false_or, Bool.not_true, Bool.not_false, Bool.false_eq_true]))); intro K hK; (simp only [go_sem, simprocAttr, hwl, c1, c2]); refine hK _ ?_; clear hK K
  refine awp_if (_) rfl (fun hc => ?_) (fun hc => ?_)
  · cases hc
  · refine awp_skip ?_
    refine hK _ ?_; clear hK K
    refine awp_seq_k fun K hK => ?_
    (refine awp_reg_seq [0, 1, 2, 3, 8, 10, 11] fun K hK => ?_; (repeat' ((first | refine al_r rfl fun K' hK' => ?_ | refine al_d rfl fun K' hK' => ?_); (repeat (first | (simp only [go_sem, simprocAttr, hwl, c1, c2]) | refine AS.mk ?_)); (first | ((first | refine hK' _ _ ?_ | refine ⟨?_, hK' _ _ ?_⟩) <;> clear hK' K' <;> (first | (show alist _ _ _ _ _ _; skip) | (simp; done))) | ((show AC _ _ (D.fn 81 _) _ _); refine acall_p (f := 81) (e := rfl) (hr := rfl) (k := hK' _ _ ?_) (hc := Try.call81) (h := hva); clear hK' K')))); all_goals (refine al_nil ?_; (simp only [go_sem, simprocAttr, hwl, c1, c2]); refine hK _ ?_; clear hK K))
    (refine awp_frz [0, 1, 2, 3, 8, 10, 11] [0, 1] (by decide) (by (simp; done)) ?_; simp only [go_sem, simprocAttr, hwl, c1, c2])
    (refine awp_reg_seq [0, 1, 2, 3, 8, 10, 40] fun K hK => ?_; (repeat' ((refine al_r rfl fun K' hK' => ?_); (repeat (simp only [go_sem, simprocAttr, hwl, c1, c2])); ((refine hK' _ _ ?_) <;> clear hK' K'))); all_goals (refine al_nil ?_; (simp only [go_sem, simprocAttr, hwl, c1, c2]); refine hK _ ?_; clear hK K))
    refine awp_if (_) rfl (fun hc => ?_) (fun hc => ?_)
    · (refine awp_reg_seq [8, 9] fun K hK => ?_; (repeat' ((first | refine al_r rfl fun K' hK' => ?_ | refine al_d rfl fun K' hK' => ?_); (repeat (first | (simp only [go_sem, simprocAttr, hwl, c1, c2]) | refine AS.mk ?_)); ((first | refine hK' _ _ ?_ | refine ⟨?_, hK' _ _ ?_⟩) <;> clear hK' K' <;> (first | (show alist _ _ _ _ _ _; skip) | (simp; done))))); all_goals (refine al_nil ?_; (simp only [go_sem, simprocAttr, hwl, c1, c2]); refine hK _ ?_; clear hK K))
      (refine awp_frz [8, 9] [0] (by decide) (by (simp; done)) ?_; simp only [go_sem, simprocAttr, hwl, c1, c2])
      refine awp_ret (hR _ _ (.inl rfl) rfl ⟨[0], (.tup [valD k n ByteArray.empty [], iD 0]), by decide, by simp only [List.length_cons, List.length_nil]; decide, ?_, ?_⟩)
      · simp only [go_sem, simprocAttr, hwl, c1, c2]
      · refine ⟨?_, ?_⟩ <;> simp only [go_sem, simprocAttr, hwl, c1, c2]
    · cases hc
end Go.Proofs.Ytagphggcdmjlpaa.P

/- What Minor and Major answer, of ages that are right. -/
namespace Go.Proofs.Ytagphggcdmjlpaa.P
open Go.Ab Go.Proofs.Ytagphggcdmjlpaa.T

theorem split_low {L : List Obj} (hL : Placed L) {low : Nat} (h : low = (flat L).length ∨ ∃ o, o ∈ L ∧ o.at_ = low) : ∃ K R, L = K ++ R ∧ (flat K).length = low := by
  rcases h with h | ⟨o, ho, ha⟩
  · exact ⟨L, [], (List.append_nil L).symm, h.symm⟩
  · obtain ⟨P, Q, rfl, e⟩ := placed_split hL ho
    exact ⟨P, o :: Q, rfl, by omega⟩

/-- The new heap, when all is turned. -/
structure Copied (L : List Obj) (low : Int) (Rch : Int → Prop) (T : List Obj) (mv : List (Int × Int)) : Prop where
  placed : Placed T
  src : ∀ x, x ∈ T → ∃ o, o ∈ L ∧ (x.at_ < low → o.at_ = x.at_) ∧ (low ≤ x.at_ → low ≤ o.at_ ∧ lk mv o.at_ = some x.at_) ∧ x.kind = o.kind ∧ x.num = o.num ∧ x.text = o.text ∧ x.parts = o.parts.map (phi low mv) ∧ ∀ p, p ∈ o.parts → Known low mv p
  dst : ∀ a t, lk mv a = some t → Rch a ∧ low ≤ t ∧ ∃ x, x ∈ T ∧ x.at_ = t
  kept : ∀ o, o ∈ L → o.at_ < low → ∃ x, x ∈ T ∧ x.at_ = o.at_
  lowT : low ≤ (flat T).length
  size : (flat T).length + restN (leftB low mv) L = (flat L).length
  inj : ∀ a b t, lk mv a = some t → lk mv b = some t → a = b

theorem rest_zero {f : Obj → Bool} : ∀ {l : List Obj}, (∀ o, o ∈ l → f o = false) → restN f l = 0
  | [], _ => rfl
  | o :: l, h => by
    show (if f o then _ else 0) + restN f l = 0
    rw [h o List.mem_cons_self, rest_zero fun x hx => h x (List.mem_cons_of_mem _ hx)]; rfl

theorem rest_full {f : Obj → Bool} : ∀ {l : List Obj}, (∀ o, o ∈ l → f o = true) → restN f l = (flat l).length
  | [], _ => rfl
  | o :: l, h => by
    show (if f o then _ else 0) + restN f l = (encW o ++ flat l).length
    rw [h o List.mem_cons_self, rest_full fun x hx => h x (List.mem_cons_of_mem _ hx), List.length_append]; rfl

theorem copy_all {L : List Obj} {low : Nat} {Rch : Int → Prop} {late ws : List Int} (hL : Placed L) (h4 : (flat L).length ≤ 4000) (hlow : low = (flat L).length ∨ ∃ o, o ∈ L ∧ o.at_ = low)
    (hl1 : late.Pairwise (· < ·)) (hl2 : ∀ t, t ∈ late → t < low ∧ ∃ o, o ∈ L ∧ o.at_ = t) (hkeep : ∀ o, o ∈ L → o.at_ < low → o.at_ ∉ late → ∀ p, p ∈ o.parts → toY low p = false)
    (hcl : ∀ o, o ∈ L → (o.at_ < low ∨ Rch o.at_) → PartsOk L low Rch o.parts) (hws : PartsOk L low Rch ws) :
    ∃ T mv, lateOK (flat L) low ((flat L).take low, []) late ∧ rootsOK (flat L) low (lateC (flat L) low ((flat L).take low, []) late) ws ∧
      scanOK (flat L) low (flat L).length (rootsC (flat L) low (lateC (flat L) low ((flat L).take low, []) late) ws).2 low ∧
      scanC (flat L) low (flat L).length (rootsC (flat L) low (lateC (flat L) low ((flat L).take low, []) late) ws).2 low = (flat T, mv) ∧
      (rootsC (flat L) low (lateC (flat L) low ((flat L).take low, []) late) ws).1 = ws.map (phi low mv) ∧ Copied L low Rch T mv ∧ ∀ w, w ∈ ws → Known low mv w := by
  obtain ⟨K, R, hKR, hKl⟩ := split_low hL hlow
  have htk : (flat L).take low = flat K := by rw [hKR, flat_append, ← hKl, List.take_left]
  rw [htk]
  have hpl := hL.1
  rw [hKR, place_append] at hpl
  obtain ⟨hK1, hR1⟩ := List.append_inj hpl (place_len _ _)
  have hK : Placed K := ⟨hK1, fun o ho => hL.2 o (by rw [hKR]; exact List.mem_append_left _ ho)⟩
  have hKat : ∀ o, o ∈ K → o.at_ < low := fun o ho => by
    obtain ⟨n, e1, e2⟩ := placed_len hK ho
    have hpos : 1 ≤ (encW o).length := by simp [encW]
    omega
  have hRat : ∀ o, o ∈ R → (low : Int) ≤ o.at_ := fun o ho => by
    rw [← hR1] at ho
    have := place_ge ho
    omega
  have hinK : ∀ o, o ∈ L → o.at_ < low → o ∈ K := fun o ho hlt => by
    rw [hKR] at ho
    rcases List.mem_append.1 ho with h | h
    · exact h
    · have := hRat o h; omega
  have hsrcK : ∀ x, x ∈ K → Src L low (fun _ => 0) [] x x := fun x hx => by
    have := hKat x hx
    refine ⟨by rw [hKR]; exact List.mem_append_left _ hx, fun _ => rfl, fun h => by omega, rfl, rfl, rfl, by rw [List.take_zero, List.drop_zero]; rfl, fun p hp => ?_⟩
    rw [List.take_zero] at hp; cases hp
  have inv0 : Inv L low Rch (fun _ => 0) K [] := by
    refine ⟨hK, fun x hx => ⟨x, hsrcK x hx⟩, fun a t h => (by cases h), fun o ho hlt => ⟨o, hinK o ho hlt, rfl⟩, by omega, fun _ _ => rfl, ?_, fun a b t h => (by cases h)⟩
    have e1 : restN (leftB low []) K = 0 := rest_zero fun o ho => by unfold leftB; rw [decide_eq_false (by have := hKat o ho; omega)]; rfl
    have e2 : restN (leftB low []) R = (flat R).length := rest_full fun o ho => by unfold leftB; rw [decide_eq_true (hRat o ho)]; rfl
    rw [hKR, rest_append, e1, e2, flat_append, List.length_append]; omega
  obtain ⟨T1, mv1, st1, e1, ok1, inv1, d1, u1, sub1, len1⟩ := late_step hL h4 late _ K [] inv0 hl1 fun t ht => by
    obtain ⟨a1, o, ho, hoa⟩ := hl2 t ht
    obtain ⟨n, en, _⟩ := placed_len hL ho
    have hk := hinK o ho (by omega)
    exact ⟨by omega, rfl, o, ⟨o, hk, hoa, hsrcK o hk⟩, hcl o ho (.inl (by omega))⟩
  obtain ⟨T2, mv2, e2, ok2, inv2, kn2, sub2, len2⟩ := roots_step hL h4 ws T1 mv1 inv1 hws
  have hb : (flat T2).length = low ∨ ∃ x, x ∈ T2 ∧ x.at_ = low := by
    by_cases hc : (flat T2).length = low
    · exact .inl hc
    · right
      have hex : ∀ {T : List Obj}, Placed T → (∃ x, x ∈ T ∧ (low : Int) ≤ x.at_) → (∀ x, x ∈ T → x.at_ < low → (∃ y, y ∈ K ∧ y.at_ = x.at_ ∧ (encW x).length = (encW y).length)) → True := fun _ _ _ => trivial
      -- the object that begins where the kept ones end
      have hfind : ∀ (l : List Obj) (a : Nat), place a l = l → a ≤ low → low < a + (flat l).length → (∀ x, x ∈ l → x.at_ < low → x.at_ + (encW x).length ≤ low) → ∃ x, x ∈ l ∧ x.at_ = low := by
        intro l
        induction l with
        | nil => intro a _ h1 h2 _; simp [flat] at h2; omega
        | cons o l ih =>
          intro a hp h1 h2 h3
          obtain ⟨p1, p2⟩ := List.cons.inj hp
          have hoa : o.at_ = a := by rw [← p1]; rfl
          by_cases hlt : a < low
          · have h5 := h3 o List.mem_cons_self (by omega)
            have : (flat (o :: l)).length = (encW o).length + (flat l).length := by show (encW o ++ flat l).length = _; rw [List.length_append]
            obtain ⟨x, hx, hxa⟩ := ih (a + (encW o).length) p2 (by omega) (by omega) fun x hx => h3 x (List.mem_cons_of_mem _ hx)
            exact ⟨x, List.mem_cons_of_mem _ hx, hxa⟩
          · exact ⟨o, List.mem_cons_self, by omega⟩
      have hlT := inv2.lowT
      refine hfind T2 0 inv2.placed.1 (Nat.zero_le _) (by omega) fun x hx hlt => ?_
      obtain ⟨o, ho⟩ := inv2.src x hx
      have hoa := ho.lo hlt
      obtain ⟨n, en, hn⟩ := placed_len hK (hinK o ho.mem (by omega))
      rw [ho.encl]; omega
  have hlate0 : ∀ b : Int, low ≤ b → st1 b = 0 := fun b hb => by
    by_cases hm : b ∈ late
    · have := (hl2 b hm).1; omega
    · exact u1 b hm
  obtain ⟨T3, mv3, st3, e3, ok3, inv3, d3, u3, sub3⟩ := scan_step hL h4 (fun o ho hr => hcl o ho (.inr hr)) (flat L).length st1 T2 mv2 low inv2 hb (by omega) (Int.le_refl _) hlate0 (fun b h1 h2 => by omega)
  refine ⟨T3, mv3, ok1, by rw [e1]; exact ok2, by rw [e1, e2]; exact ok3, by rw [e1, e2]; exact e3, ?_, ⟨inv3.placed, fun x hx => ?_, inv3.dst, inv3.kept, inv3.lowT, inv3.size, inv3.inj⟩, fun w hw => known_sub sub3 (kn2 w hw)⟩
  · rw [e1, e2]
    exact List.map_congr_left fun w hw => (phi_sub sub3 (kn2 w hw)).symm
  · obtain ⟨o, ho⟩ := inv3.src x hx
    refine ⟨o, ho.mem, ho.lo, ho.hi, ho.kind, ho.num, ho.text, ?_⟩
    have hall : st3 x.at_ = 1000 → x.parts = o.parts.map (phi low mv3) ∧ ∀ p, p ∈ o.parts → Known low mv3 p := fun he => by
      have hlen : o.parts.length ≤ 1000 := by have := (right_small (hL.2 o ho.mem).1).2; omega
      have h1 := ho.parts
      have h2 := ho.known
      rw [he, List.take_of_length_le hlen] at h1 h2
      rw [List.drop_eq_nil_of_le hlen, List.append_nil] at h1
      exact ⟨h1, h2⟩
    by_cases hlt : x.at_ < low
    · by_cases hm : x.at_ ∈ late
      · exact hall (by rw [u3 _ hlt]; exact d1 _ hm)
      · have h0 : st3 x.at_ = 0 := by rw [u3 _ hlt]; exact u1 _ hm
        have hoa := ho.lo hlt
        have hno := hkeep o ho.mem (by omega) (by rw [hoa]; exact hm)
        have h1 := ho.parts
        rw [h0, List.take_zero, List.drop_zero] at h1
        have h1 : x.parts = o.parts := h1
        refine ⟨?_, fun p hp ht => ?_⟩
        · rw [h1]
          have : o.parts.map (phi low mv3) = o.parts.map id := List.map_congr_left fun p hp => phi_not (hno p hp)
          rw [this, List.map_id]
        · rw [hno p hp] at ht; cases ht
    · exact hall (d3 x hx (by omega))

theorem place_word {t : Nat} (h : t ≤ 4000) : placeS (wordS 4 (t : Int)).1 = ((t : Int), true, 0) := by
  unfold placeS
  rw [word4_read h]
  rfl

/-- A word that was turned names an object. -/
theorem copied_name {L T : List Obj} {low : Int} {Rch : Int → Prop} {mv : List (Int × Int)} {w : Int} (hc : Copied L low Rch T mv) (h4 : (flat L).length ≤ 4000) (h0 : 0 ≤ low) (hn : NameOk L w) (hk : Known low mv w) : NameOk T (phi low mv w) := by
  have hsz := hc.size
  cases ht : toY low w with
  | false =>
    rw [phi_not ht]
    refine ⟨hn.1, fun hi => ?_⟩
    obtain ⟨o, ho, hoa⟩ := hn.2 hi
    unfold toY at ht
    rw [hi, Bool.true_and, decide_eq_false_iff_not] at ht
    obtain ⟨x, hx, hxa⟩ := hc.kept o ho (by omega)
    exact ⟨x, hx, by rw [hxa, hoa]⟩
  | true =>
    obtain ⟨t, e⟩ := hk ht
    obtain ⟨_, hlt, x, hx, hxa⟩ := hc.dst _ _ e
    obtain ⟨n, en, hnl⟩ := placed_len hc.placed hx
    have hpos : 1 ≤ (encW x).length := by simp [encW]
    have htn : t = (n : Int) := by omega
    rw [phi_some ht e, htn]
    unfold NameOk
    rw [place_word (by omega)]
    exact ⟨rfl, fun _ => ⟨x, hx, en⟩⟩

theorem good_parts {L : List Obj} {n old : Int} {late : List Int} (hL : Placed L) (hn : n = (flat L).length) (hg : GoodA n old late L) {o : Obj} (ho : o ∈ L) : ∀ w, w ∈ o.parts → NameOk L w := fun w hw => by
  have h := hg.2.2.2.2 o ho w hw
  unfold partE at h
  split at h
  · cases h
  · rename_i h1
    simp only [Bool.or_eq_true, not_or, bne_iff_ne, ne_eq, Decidable.not_not, Bool.and_eq_true, beq_iff_eq, Bool.not_eq_true', not_and] at h1
    refine ⟨h1.1, fun hi => ?_⟩
    obtain ⟨a, b⟩ := h1.2 hi
    have b : begS n L (placeS w).1 = true := by
      cases hb : begS n L (placeS w).1 with
      | true => rfl
      | false => exact absurd hb b
    rcases begS_iff.1 b with h | h
    · exact absurd h a
    · exact h

theorem good_copied {L T : List Obj} {low n old : Int} {late : List Int} {Rch : Int → Prop} {mv : List (Int × Int)} (hL : Placed L) (hn : n = (flat L).length) (hg : GoodA n old late L) (hc : Copied L low Rch T mv) (h4 : (flat L).length ≤ 4000) (h0 : 0 ≤ low) : GoodA (flat T).length (flat T).length [] T := by
  refine ⟨by omega, begS_iff.2 (.inl rfl), fun t ht => (by cases ht), .nil, fun x hx w hw => ?_⟩
  obtain ⟨o, ho, _, _, _, _, _, hp, hk⟩ := hc.src x hx
  rw [hp] at hw
  obtain ⟨p, hpm, rfl⟩ := List.mem_map.1 hw
  have hnm := copied_name hc h4 h0 (good_parts hL hn hg ho p hpm) (hk p hpm)
  unfold partE
  have hpl : (placeS (phi low mv p)).2.1 = true → ∃ m : Nat, (placeS (phi low mv p)).1 = (m : Int) ∧ m < (flat T).length ∧ begS (flat T).length T (placeS (phi low mv p)).1 = true := fun hi => by
    obtain ⟨y, hy, hya⟩ := hnm.2 hi
    obtain ⟨m, em, hml⟩ := placed_len hc.placed hy
    have hpos : 1 ≤ (encW y).length := by simp [encW]
    exact ⟨m, by rw [← hya, em], by omega, begS_iff.2 (.inr ⟨y, hy, hya⟩)⟩
  rw [if_neg, if_neg]
  · intro h
    simp only [Bool.and_eq_true, decide_eq_true_eq] at h
    obtain ⟨m, e1, e2, _⟩ := hpl h.1.1.1
    omega
  · intro h
    rw [hnm.1] at h
    simp only [bne_self_eq_false, Bool.false_or, Bool.and_eq_true, Bool.or_eq_true, beq_iff_eq, Bool.not_eq_true'] at h
    obtain ⟨m, e1, e2, e3⟩ := hpl h.1
    rcases h.2 with h2 | h2
    · omega
    · rw [e3] at h2; cases h2

/-- Minor, of ages that are right. -/
theorem minor_good {L : List Obj} {old : Int} {late ws : List Int} (hL : Placed L) (h4 : (flat L).length ≤ 4000) (hg : GoodA (flat L).length old late L) (hw : ∀ w, w ∈ ws → NameOk L w) (hwl : ws.length ≤ 100000) :
    ∃ T mv, ACalls Try.prog 38 [agesD (flat L) old late, words ws] [] (fun r obs' => r = .tup [.agg [words (flat T), iD (flat T).length, .p (.sl [])], .ref 0 0 ws.length, iD 0] ∧ obs' = [.row 1 ((ws.map (phi old mv)).map wrow)]) ∧ Copied L old (fun _ => True) T mv ∧ ∀ w, w ∈ ws → Known old mv w := by
  obtain ⟨g1, g2, g3, g5, g6⟩ := hg
  obtain ⟨n, rfl⟩ := Int.eq_ofNat_of_zero_le g1
  have hobj : ∀ t, t < (n : Int) → begS (flat L).length L t = true → ∃ o, o ∈ L ∧ o.at_ = t := fun t ht hb => by
    rcases begS_iff.1 hb with h | h
    · have hnl : (n : Int) ≤ (flat L).length := by
        rcases begS_iff.1 g2 with h | ⟨o, ho, hoa⟩
        · omega
        · obtain ⟨m, e1, e2⟩ := placed_len hL ho; omega
      omega
    · exact h
  have hnl : n ≤ (flat L).length := by
    rcases begS_iff.1 g2 with h | ⟨o, ho, hoa⟩
    · omega
    · obtain ⟨m, e1, e2⟩ := placed_len hL ho; omega
  obtain ⟨T, mv, k1, k2, k3, k4, k5, k6, k7⟩ := copy_all (low := n) (Rch := fun _ => True) (late := late) (ws := ws) hL h4
    (by rcases begS_iff.1 g2 with h | h
        · exact .inl (by omega)
        · exact .inr h) g5 (fun t ht => ⟨(g3 t ht).1, hobj t (g3 t ht).1 (g3 t ht).2⟩)
    (fun o ho hlt hm p hp => by
      have h := g6 o ho p hp
      unfold partE at h
      split at h
      · cases h
      · split at h
        · cases h
        · rename_i h2
          cases ht : toY n p with
          | false => rfl
          | true =>
            unfold toY at ht
            simp only [Bool.and_eq_true, decide_eq_true_eq] at ht
            refine absurd ?_ h2
            have : hasI late o.at_ = false := by
              cases hh : hasI late o.at_ with
              | false => rfl
              | true => exact absurd (hasI_iff.1 hh) hm
            rw [ht.1, this, decide_eq_true hlt, decide_eq_true (show (placeS p).1 ≥ (n : Int) by omega)]
            rfl)
    (fun o ho _ w hw => ⟨good_parts hL rfl ⟨g1, g2, g3, g5, g6⟩ ho w hw, fun _ => trivial⟩) (fun w hwm => ⟨hw w hwm, fun _ => trivial⟩)
  have hok := placed_ok hL
  have hls : late.length ≤ 4001 := late_small ⟨g1, g2, g3, g5, g6⟩ (fun x hx => by
    obtain ⟨m, e1, e2⟩ := placed_len hL hx
    omega) (by omega) (by omega)
  have hnm := namedC (flat L) n late ws (by simp only [maxLen]; omega) hok (by simp only [maxLen]; omega) (by simp only [maxLen]; omega)
  rw [namedY_flat hL h4 ⟨g1, g2, g3, g5, g6⟩ hw] at hnm
  have := minorO (flat L) n late ws (flat L).length hnm h4 hnl hok hwl (by simp only [maxLen]; omega) k1 k2 k3
  rw [k4, k5] at this
  exact ⟨T, mv, this, k6, k7⟩

/-- Major, of ages that are right. -/
theorem major_good {L : List Obj} {old : Int} {late ws : List Int} {Rch : Int → Prop} (hL : Placed L) (h4 : (flat L).length ≤ 4000) (hg : GoodA (flat L).length old late L) (hw : ∀ w, w ∈ ws → NameOk L w) (hwl : ws.length ≤ 100000)
    (hr1 : ∀ w, w ∈ ws → (placeS w).2.1 = true → Rch (placeS w).1) (hr2 : ∀ o, o ∈ L → Rch o.at_ → ∀ w, w ∈ o.parts → (placeS w).2.1 = true → Rch (placeS w).1) :
    ∃ T mv, ACallP Try.prog 39 [agesD (flat L) old late, words ws] (.tup [.agg [words (flat T), iD (flat T).length, .p (.sl [])], words (ws.map (phi 0 mv)), iD 0]) ∧ Copied L 0 Rch T mv ∧ ∀ w, w ∈ ws → Known 0 mv w := by
  have hyi : ∀ w, toY 0 w = true → (placeS w).2.1 = true := fun w h => by unfold toY at h; exact (Bool.and_eq_true _ _ ▸ h : _ ∧ _).1
  have hnl : ∀ o, o ∈ L → 0 ≤ o.at_ := fun o ho => by
    obtain ⟨m, e1, e2⟩ := placed_len hL ho
    omega
  have hlow : 0 = (flat L).length ∨ ∃ o, o ∈ L ∧ o.at_ = ((0 : Nat) : Int) := by
    cases hLc : L with
    | nil => exact .inl rfl
    | cons o l =>
      right
      refine ⟨o, List.mem_cons_self, ?_⟩
      have h := hL.1
      rw [hLc] at h
      rw [← (List.cons.inj h).1]; rfl
  obtain ⟨T, mv, k1, k2, k3, k4, k5, k6, k7⟩ := copy_all (low := 0) (Rch := Rch) (late := []) (ws := ws) hL h4 hlow .nil (fun t ht => (by cases ht))
    (fun o ho hlt => by have := hnl o ho; omega)
    (fun o ho hr w hw => ⟨good_parts hL rfl hg ho w hw, fun ht => by
      rcases hr with hr | hr
      · have := hnl o ho; omega
      · exact hr2 o ho hr w hw (hyi w ht)⟩) (fun w hwm => ⟨hw w hwm, fun ht => hr1 w hwm (hyi w ht)⟩)
  rw [List.take_zero] at k1 k2 k3 k4 k5
  rw [late_nil] at k2 k3 k4 k5
  have hok := placed_ok hL
  have hls : late.length ≤ 4001 := late_small hg (fun x hx => by
    obtain ⟨m, e1, e2⟩ := placed_len hL hx
    omega) (by omega) (by omega)
  have hnm := namedC (flat L) old late ws (by simp only [maxLen]; omega) hok (by simp only [maxLen]; omega) (by simp only [maxLen]; omega)
  rw [namedY_flat hL h4 hg hw] at hnm
  have := majorGood (flat L) old late ws (flat L).length hnm (by simp only [maxLen]; omega) hok hwl k2 k3
  rw [show scanC (flat L) 0 (flat L).length (rootsC (flat L) 0 ([], []) ws).2 0 = (flat T, mv) from k4, show (rootsC (flat L) 0 ([], []) ws).1 = ws.map (phi 0 mv) from k5] at this
  exact ⟨T, mv, this, k6, k7⟩
end Go.Proofs.Ytagphggcdmjlpaa.P

/- What is built in a heap whose words name objects. -/
namespace Go.Proofs.Ytagphggcdmjlpaa.P
open Go.Ab Go.Proofs.Ytagphggcdmjlpaa.T

theorem NameOk.more {L N : List Obj} {w : Int} (h : NameOk L w) : NameOk (L ++ N) w := ⟨h.1, fun hi => by
  obtain ⟨o, ho, ha⟩ := h.2 hi
  exact ⟨o, List.mem_append_left _ ho, ha⟩⟩

theorem kindB_numY {k n : Int} (h : ¬ (n != 0 && (kindB k n).2 == 0) = true) : (kindB k n).2 = n := by
  have : (kindB k n).2 = n ∨ (kindB k n).2 = 0 := by
    unfold kindB
    split
    · exact .inl rfl
    split
    · exact .inr rfl
    split
    · exact .inr rfl
    split
    · exact .inl rfl
    split <;> exact .inr rfl
  rcases this with h1 | h1
  · exact h1
  · rw [h1] at h ⊢
    simp at h
    exact h.symm

/-- What Build does to a heap of objects. -/
def BOk (r : List Int × Int × Int) (L : List Obj) : Prop := r.2.2 ≠ 0 ∨
  (r.2.2 = 0 ∧ WordOk r.2.1 ∧ ∃ N, r.1 = flat (L ++ N) ∧ Placed (L ++ N) ∧ (flat (L ++ N)).length ≤ 4000 ∧ NameOk (L ++ N) r.2.1 ∧ ∀ o, o ∈ N → ∀ p, p ∈ o.parts → NameOk (L ++ N) p)
theorem bok_err {L : List Obj} {e : Int} (he : e ≠ 0) : BOk ([], 0, e) L := .inl he
theorem bok_ok {L : List Obj} {r : List Int} {w e : Int} (he : e = 0) (hw : WordOk w) (N : List Obj) (h1 : r = flat (L ++ N)) (h2 : Placed (L ++ N)) (h3 : (flat (L ++ N)).length ≤ 4000) (h4 : NameOk (L ++ N) w) (h5 : ∀ o, o ∈ N → ∀ p, p ∈ o.parts → NameOk (L ++ N) p) : BOk (r, w, e) L :=
  .inr ⟨he, hw, N, h1, h2, h3, h4, h5⟩
def BuildOk (r : List Obj → List Int × Int × Int) : Prop := ∀ L, Placed L → (flat L).length ≤ 4000 → BOk (r L) L

theorem of_name {L : List Obj} {k n : Int} {text : ByteArray} {args : List (List PV)} (h : (ofS k n text args).2 = true) : NameOk L (ofS k n text args).1 := by
  obtain ⟨h1, _, _⟩ := of_value h
  generalize (ofS k n text args).1 = w at h1
  unfold valueS at h1
  split at h1
  · cases h1
  · rename_i hc
    rw [Bool.or_eq_true, not_or] at hc
    unfold NameOk placeS
    refine ⟨by simpa using hc.1, fun hi => ?_⟩
    rw [Bool.and_eq_true] at hi
    exact absurd hi.2 hc.2

theorem foldB_ok {F : List Int → List PV → List Int × Int × Int} : ∀ (l : List (List PV)) (L : List Obj) (ws : List Int), (∀ x, x ∈ l → BuildOk fun L => F (flat L) x) → Placed L → (flat L).length ≤ 4000 → (foldB F l (flat L) ws).2.2 = 0 →
    ∃ ws1 N, (foldB F l (flat L) ws).2.1 = ws ++ ws1 ∧ (foldB F l (flat L) ws).1 = flat (L ++ N) ∧ Placed (L ++ N) ∧ (flat (L ++ N)).length ≤ 4000 ∧ (∀ w, w ∈ ws1 → WordOk w ∧ NameOk (L ++ N) w) ∧ ∀ o, o ∈ N → ∀ p, p ∈ o.parts → NameOk (L ++ N) p
  | [], L, ws, _, hp, h4, _ => ⟨[], [], by simp [foldB], by simp [foldB], by rw [List.append_nil]; exact hp, by rw [List.append_nil]; exact h4, by simp, by simp⟩
  | x :: l, L, ws, hF, hp, h4, he => by
    have hfd : foldB F (x :: l) (flat L) ws = if (F (flat L) x).2.2 != 0 then ([], [], (F (flat L) x).2.2) else foldB F l (F (flat L) x).1 (ws ++ [(F (flat L) x).2.1]) := rfl
    rw [hfd] at he ⊢
    by_cases hc : ((F (flat L) x).2.2 != 0) = true
    · rw [if_pos hc] at he
      simp at hc
      exact absurd he hc
    · rw [if_neg hc] at he ⊢
      rcases hF x List.mem_cons_self L hp h4 with h1 | ⟨_, h2, N1, h3, h5, h6, h7, h8⟩
      · exact absurd (show (F (flat L) x).2.2 = 0 by simpa using hc) h1
      · have h3 : (F (flat L) x).1 = flat (L ++ N1) := h3
        rw [h3] at he ⊢
        obtain ⟨ws2, N2, r1, r2, r3, r4, r5, r6⟩ := foldB_ok l (L ++ N1) (ws ++ [(F (flat L) x).2.1]) (fun y hy => hF y (List.mem_cons_of_mem _ hy)) h5 h6 he
        rw [List.append_assoc] at r2 r3 r4 r5 r6
        refine ⟨(F (flat L) x).2.1 :: ws2, N1 ++ N2, by rw [r1]; simp, r2, r3, r4, fun w hw => ?_, fun o ho p hpp => ?_⟩
        · rcases List.mem_cons.1 hw with rfl | hw
          · exact ⟨h2, by rw [← List.append_assoc]; exact h7.more⟩
          · exact r5 w hw
        · rcases List.mem_append.1 ho with ho | ho
          · rw [← List.append_assoc]; exact (h8 o ho p hpp).more
          · exact r6 o ho p hpp

theorem buildN_ok {F : List Int → List PV → List Int × Int × Int} {k n : Int} {text : ByteArray} {args : List (List PV)} (hn : NumOk n) (hF : ∀ x, x ∈ args → BuildOk fun L => F (flat L) x) : BuildOk fun L => buildN F (flat L) k n text args := by
  intro L hp h4
  have hofk := ofS_ok k n text args
  have hw4 : ∀ m : Nat, m ≤ 4000 → (wordS 4 (m : Int)).2 = 0 := fun m => word4
  have hwk := wordS_ok
  show BOk (buildN F (flat L) k n text args) L
  unfold buildN
  by_cases h0 : (ofS k n text args).2 = true
  · rw [if_pos h0]
    exact bok_ok rfl hofk [] (by rw [List.append_nil]) (by rw [List.append_nil]; exact hp) (by rw [List.append_nil]; exact h4) (of_name h0) (by simp)
  rw [if_neg h0]
  by_cases h1 : ((kindB k n).1 == 0) = true
  · rw [if_pos h1]; exact bok_err (by decide)
  rw [if_neg h1]
  by_cases h2 : (n != 0 && (kindB k n).2 == 0) = true
  · rw [if_pos h2]; exact bok_err (by decide)
  rw [if_neg h2]
  have hnn := kindB_numY h2
  generalize (kindB k n).1 = kk at *
  generalize (kindB k n).2 = nn at *
  subst hnn
  by_cases h3 : ((foldB F args (flat L) []).2.2 != 0) = true
  · rw [if_pos h3]; exact bok_err (by simpa using h3)
  rw [if_neg h3]
  obtain ⟨ws1, N, r1, r2, r3, r4, r5, r6⟩ := foldB_ok args L [] hF hp h4 (by simpa using h3)
  rw [List.nil_append] at r1
  generalize foldB F args (flat L) [] = Q at *
  obtain ⟨g, ws, e⟩ := Q
  simp only at r1 r2 ⊢
  subst r1 r2
  have hel := enc_len ⟨0, kk, nn, text, ws⟩
  have hnk : NameOk (L ++ (N ++ [(⟨0, kk, nn, text, ws⟩ : Obj).to (flat (L ++ N)).length])) (wordS 4 ((flat (L ++ N)).length : Int)).1 := by
    unfold NameOk
    rw [place_word r4]
    exact ⟨rfl, fun _ => ⟨_, by rw [← List.append_assoc]; exact List.mem_append_right _ (List.mem_singleton.2 rfl), rfl⟩⟩
  unfold putS
  by_cases hr : (!rightS ⟨0, kk, nn, text, ws⟩) = true
  · rw [if_pos hr]
    exact bok_err (by decide)
  rw [if_neg hr]
  have hr : rightS ⟨0, kk, nn, text, ws⟩ = true := by
    generalize rightS (⟨0, kk, nn, text, ws⟩ : Obj) = b at hr ⊢
    simpa using hr
  by_cases hl : decide (((flat (L ++ N)).length : Int) > 4000 - (roomN kk text.size ws.length : Int)) = true
  · rw [if_pos hl]
    exact bok_err (by decide)
  rw [if_neg hl]
  simp only [decide_eq_true_eq] at hl
  simp only at hel ⊢
  have e1 := hw4 (flat (L ++ N)).length r4
  have e2 := hwk 4 ((flat (L ++ N)).length : Int)
  rw [if_neg (by simp)]
  have hok : ObjOk ⟨0, kk, nn, text, ws⟩ := ⟨hr, hn, fun w hw => (r5 w hw).1⟩
  obtain ⟨p1, p2⟩ := placed_snoc r3 hok
  refine bok_ok e1 e2 (N ++ [(⟨0, kk, nn, text, ws⟩ : Obj).to (flat (L ++ N)).length]) ?_ ?_ ?_ hnk fun o ho p hpp => ?_
  · rw [← List.append_assoc, p2]
  · rw [← List.append_assoc]; exact p1
  · rw [← List.append_assoc, p2, List.length_append, hel]; omega
  · rw [← List.append_assoc]
    rcases List.mem_append.1 ho with ho | ho
    · exact (r6 o ho p hpp).more
    · rcases List.mem_singleton.1 ho with rfl
      exact (r5 p hpp).2.more

theorem buildY : ∀ (f : Nat) (xs : List PV), shapeOk Try.prog f 38 xs → ∃ B : List Int → List Int × Int × Int, (∀ h, h.length ≤ 4000 → ACallP Try.prog 23 [words h, .agg (xs.map .p)] (.tup [words (B h).1, wD (B h).2.1, iD (B h).2.2]) ∧ Grown h (B h)) ∧ BuildOk fun L => B (flat L) := by
  intro f
  induction f using Nat.strongRecOn
  rename_i f ih
  intro xs hxs
  obtain ⟨k, n, text, args, g, rfl, hg, hmax, hal, hn, hargs⟩ := sh38 hxs
  have hch : ∀ x : List PV, ∃ B : List Int → List Int × Int × Int, x ∈ args → (∀ h, h.length ≤ 4000 → ACallP Try.prog 23 [words h, .agg (x.map .p)] (.tup [words (B h).1, wD (B h).2.1, iD (B h).2.2]) ∧ Grown h (B h)) ∧ BuildOk fun L => B (flat L) := fun x => by
    by_cases hx : x ∈ args
    · obtain ⟨B, hB⟩ := ih g hg x (hargs x hx).2
      exact ⟨B, fun _ => hB⟩
    · exact ⟨fun _ => ([], 0, 0), fun h => absurd h hx⟩
  obtain ⟨F, hF⟩ : ∃ F : List PV → List Int → List Int × Int × Int, ∀ x, x ∈ args → (∀ h, h.length ≤ 4000 → ACallP Try.prog 23 [words h, .agg (x.map .p)] (.tup [words (F x h).1, wD (F x h).2.1, iD (F x h).2.2]) ∧ Grown h (F x h)) ∧ BuildOk fun L => F x (flat L) :=
    ⟨fun x => Classical.choose (hch x), fun x => Classical.choose_spec (hch x)⟩
  refine ⟨fun h => buildN (fun g x => F x g) h k n text args, fun h h4 => ⟨?_, buildN_grown h4 hn fun x hx g hg4 => ((hF x hx).1 g hg4).2⟩, buildN_ok hn fun x hx => (hF x hx).2⟩
  exact buildL (fun g x => F x g) h k n text args h4 hn (fun x hx => (hargs x hx).1) hal (fun x hx g hg4 => (hF x hx).1 g hg4) (fun x hx => by
    obtain ⟨k, n, t, a, _, e, _⟩ := sh38 (hargs x hx).2
    exact ⟨k, n, t, a, e⟩)
end Go.Proofs.Ytagphggcdmjlpaa.P

/- One of the roots is set to another (roadkeep3's set): contracts. -/
namespace Go.Proofs.Ytagphggcdmjlpaa.P
open Go.Ab Go.Proofs.Ytagphggcdmjlpaa.T

/-- The place of a root that a number names. -/
def ri (n : Nat) (a : Int) : Nat := ((IntKind.u64.wrap a) % (n : Int)).toNat

theorem ri_lt {n : Nat} (hn : 1 ≤ n) (a : Int) : ri n a < n := by
  unfold ri
  have h1 := Int.emod_nonneg (IntKind.u64.wrap a) (show (n : Int) ≠ 0 by omega)
  have h2 := Int.emod_lt_of_pos (IntKind.u64.wrap a) (show (0 : Int) < n by omega)
  generalize IntKind.u64.wrap a % (n : Int) = m at *
  omega

theorem ri_eq {n : Nat} (hn : 1 ≤ n) (hm : n ≤ 100000) (a : Int) : IntKind.i64.wrap ((IntKind.u64.wrap a).tmod (IntKind.u64.wrap (n : Int))) = (ri n a : Int) := by
  have h1 : IntKind.u64.wrap (n : Int) = (n : Int) := u64_small (by omega)
  have h0 : 0 ≤ IntKind.u64.wrap a := by rw [IntKind.wrap_u64]; exact Int.emod_nonneg _ (by decide)
  have h2 := Int.emod_nonneg (IntKind.u64.wrap a) (show (n : Int) ≠ 0 by omega)
  have h3 := Int.emod_lt_of_pos (IntKind.u64.wrap a) (show (0 : Int) < n by omega)
  rw [h1, Int.tmod_eq_emod_of_nonneg h0]
  unfold ri
  generalize IntKind.u64.wrap a % (n : Int) = m at *
  rw [Go.Ab.wrap_small (by omega) (by omega)]
  omega


set_option maxRecDepth 100000 in
theorem setW (h h2 late late2 roots : List Int) (old old2 a b w w2 tag at_ re e : Int) (hlen : 1 ≤ roots.length) (hmax : roots.length ≤ 100000) (hi : roots[ri roots.length a]? = some w) (hk : roots[ri roots.length b]? = some w2)
    (hrd : ACallP Try.prog 62 [wD w] (.tup [iD tag, iD at_, iD re])) (hset : ACallP Try.prog 33 [agesD h old late, iD at_, wD w2] (.tup [agesD h2 old2 late2, iD e])) (h3 late3 : List Int) (old3 : Int)
    (hV : (h3, old3, late3) = if ((re == 0 && tag == 4) && (e == 0)) = true then (h2, old2, late2) else (h, old, late)) :
    ACalls Try.prog 72 [agesD h old late, .ref 0 0 roots.length, .agg [iD a, iD b]] [.row 1 (roots.map wrow)] (fun r obs' => r = agesD h3 old3 late3 ∧ obs' = [.row 1 (roots.map wrow)]) := by
  have ea := ri_eq hlen hmax a
  have eb := ri_eq hlen hmax b
  have la := ri_lt hlen a
  have lb := ri_lt hlen b
  generalize ri roots.length a = i at *
  generalize ri roots.length b = k at *
  have hnz : (IntKind.u64.wrap (roots.length : Int) ≠ 0) = True := by rw [u64_small (by omega)]; exact eq_true (by omega)
  have hi0 : (0 : Int) ≤ (i : Int) := Int.natCast_nonneg i
  have hil : (i : Int) < (roots.length : Int) := by omega
  have hk0 : (0 : Int) ≤ (k : Int) := Int.natCast_nonneg k
  have hkl : (k : Int) < (roots.length : Int) := by omega
  obtain ⟨E, hE⟩ : ∃ E, (re == 0) = E := ⟨_, rfl⟩
  obtain ⟨G, hG⟩ : ∃ G, (tag == 4) = G := ⟨_, rfl⟩
  rw [hE, hG] at hV
  refine acallm_fnv [.cell 6 64] Try.func72 rfl rfl Try.ntmps72 (by simp) (by simp) fun R hR => ?_
  (refine awp_reg_seq [1, 3, 5, 6] fun K hK => ?_; (repeat' ((refine al_r rfl fun K' hK' => ?_); (repeat (simp only [go_sem, simprocAttr, List.length_map])); ((refine hK' _ _ ?_) <;> clear hK' K'))); all_goals (refine al_nil ?_; (simp only [go_sem, simprocAttr, List.length_map]); refine hK _ ?_; clear hK K))
  (refine awp_frz [1, 3, 5, 6] [0, 3] (by decide) (by (simp; done)) ?_; simp only [go_sem, simprocAttr, List.length_map])

  refine awp_draw_seq (by kernel_rfl) [1, 3, 6, 7, 8] fun K hK => ?_
  ((refine ah_r 0 rfl (by kernel_rfl) rfl fun K' hK' => ?_); (simp only [go_sem, simprocAttr, List.length_map, ea, eb, hnz]); ((refine hK' _ ?_); clear hK' K'))
  ((refine ah_r 1 rfl (by kernel_rfl) rfl fun K' hK' => ?_); (simp only [go_sem, simprocAttr, List.length_map, ea, eb, hnz]); ((refine hK' _ ?_); clear hK' K'))
  ((refine ah_r 2 rfl (by kernel_rfl) rfl fun K' hK' => ?_); (simp only [go_sem, simprocAttr, List.length_map, ea, eb, hnz]); ((refine hK' _ ?_); clear hK' K'))
  ((refine ah_r 3 rfl (by kernel_rfl) rfl fun K' hK' => ?_); (simp only [go_sem, simprocAttr, List.length_map, ea, eb, hnz]); ((refine hK' _ ?_); clear hK' K'))
  ((refine ah_r 4 rfl (by kernel_rfl) rfl fun K' hK' => ?_); (simp only [go_sem, simprocAttr, List.length_map, ea, eb, hnz]); ((refine ⟨?_, hK' _ ?_⟩) <;> clear hK' K' <;> (first | (intro s hs; cases hs; done) | skip)))
  ((refine ah_r 5 rfl (by kernel_rfl) rfl fun K' hK' => ?_); (simp only [go_sem, simprocAttr, List.length_map, ea, eb, hnz]); ((refine hK' _ ?_); clear hK' K'))
  ((refine ah_r 6 rfl (by kernel_rfl) rfl fun K' hK' => ?_); (simp only [go_sem, simprocAttr, List.length_map, ea, eb, hnz]); ((refine hK' _ ?_); clear hK' K'))
  ((refine ah_r 7 rfl (by kernel_rfl) rfl fun K' hK' => ?_); (simp only [go_sem, simprocAttr, List.length_map, ea, eb, hnz]); ((refine hK' _ ?_); clear hK' K'))
  ((refine ah_r 8 rfl (by kernel_rfl) rfl fun K' hK' => ?_); (simp only [go_sem, simprocAttr, List.length_map, ea, eb, hnz]); ((refine hK' _ ?_); clear hK' K'))
  ((refine ah_r 9 rfl (by kernel_rfl) rfl fun K' hK' => ?_); (simp only [go_sem, simprocAttr, List.length_map, ea, eb, hnz]); ((refine hK' _ ?_); clear hK' K'))
  ((refine ah_r 10 rfl (by kernel_rfl) rfl fun K' hK' => ?_); (simp only [go_sem, simprocAttr, List.length_map, ea, eb, hnz]); ((refine hK' _ ?_); clear hK' K'))
  ((refine ah_r 11 rfl (by kernel_rfl) rfl fun K' hK' => ?_); (simp only [go_sem, simprocAttr, List.length_map, ea, eb, hnz]); ((refine hK' _ ?_); clear hK' K'))
  ((refine ah_r 12 rfl (by kernel_rfl) rfl fun K' hK' => ?_); (simp only [go_sem, simprocAttr, List.length_map, ea, eb, hnz]); ((refine ⟨?_, hK' _ ?_⟩) <;> clear hK' K' <;> (first | (intro s hs; cases hs; done) | skip)))
  ((refine ah_r 13 rfl (by kernel_rfl) rfl fun K' hK' => ?_); (simp only [go_sem, simprocAttr, List.length_map, ea, eb, hnz]); ((refine hK' _ ?_); clear hK' K'))
  ((refine ah_r 14 rfl (by kernel_rfl) rfl fun K' hK' => ?_); (simp only [go_sem, simprocAttr, List.length_map, ea, eb, hnz]); ((refine hK' _ ?_); clear hK' K'))
  ((refine ah_r 15 rfl (by kernel_rfl) rfl fun K' hK' => ?_); (simp only [go_sem, simprocAttr, List.length_map, ea, eb, hnz]); ((refine hK' _ ?_); clear hK' K'))
  ((refine ah_r 16 rfl (by kernel_rfl) rfl fun K' hK' => ?_); (simp only [go_sem, simprocAttr, List.length_map, ea, eb, hnz]); ((refine hK' _ ?_); clear hK' K'))
  ((refine ah_r 17 rfl (by kernel_rfl) rfl fun K' hK' => ?_); (simp only [go_sem, simprocAttr, List.length_map, ea, eb, hnz]); ((refine hK' _ ?_); clear hK' K'))
  (refine ah_done (by kernel_rfl) ?_; (simp only [go_sem, simprocAttr, List.length_map, ea, eb, hnz]); refine hK _ ?_; clear hK K)
  refine awp_seq_k fun K hK => ?_

  (refine awp_reg_seq [1, 3, 6, 8, 9, 10, 11] fun K hK => ?_; (repeat' ((refine al_r rfl fun K' hK' => ?_); (repeat (simp only [go_sem, simprocAttr, List.length_map, hi, hi0, hil, hE, hG, List.getElem?_map, Option.map_some, Int.toNat_natCast])); (first | ((refine hK' _ _ ?_) <;> clear hK' K') | ((show AC _ _ (D.fn 62 _) _ _); refine acall_p (f := 62) (e := rfl) (hr := rfl) (k := hK' _ _ ?_) (hc := Try.call62) (h := hrd); clear hK' K')))); all_goals (refine al_nil ?_; (simp only [go_sem, simprocAttr, List.length_map, hi, hi0, hil, hE, hG, List.getElem?_map, Option.map_some, Int.toNat_natCast]); refine hK _ ?_; clear hK K))
  refine awp_reg_tov [1, 3, 6, 8, 10, 44] [(44, bD (E && G))] (h := ?_) (k := ?_)
  · cases E <;> cases G
    all_goals ((repeat' (first | ((first | refine al_r rfl fun K' hK' => ?_ | refine al_t rfl rfl fun K' hK' => ?_); (repeat (simp only [go_sem, simprocAttr, List.length_map, hi, hi0, hil, hE, hG, List.getElem?_map, Option.map_some, Int.toNat_natCast])); ((refine hK' _ _ ?_) <;> clear hK' K')) | refine al_e rfl rfl ?_)); all_goals (refine al_nil ?_; (simp only [go_sem, simprocAttr, List.length_map, hi, hi0, hil, hE, hG, List.getElem?_map, Option.map_some, Int.toNat_natCast, *, Bool.and_true, Bool.and_false, Bool.true_and, Bool.false_and, Bool.or_true, Bool.true_or, Bool.or_false, Bool.false_or, Bool.not_true, Bool.not_false, Bool.false_eq_true]; done)))
  (intro K hK; (simp only [go_sem, simprocAttr, List.length_map, hi, hi0, hil, hE, hG, List.getElem?_map, Option.map_some, Int.toNat_natCast]); refine hK _ ?_; clear hK K)
  refine awp_if (E && G) rfl (fun hc => ?_) (fun hc => ?_)
  · have hEG := hc

    refine awp_suff ⟨ofL [(3, .rd [.sl (h.map wrow), .lit (.int .i64 old), .sl (late.map irow)] 0), (6, .ptr 1 0 0), (12, .rd [.sl (h2.map wrow), .lit (.int .i64 old2), .sl (late2.map irow)] 0), (13, iD e)], [.row 1 (roots.map wrow), .box [.nil, iD 0, .nil]], 1⟩ ?_ (fun keyA => ?_)
    rotate_left
    · refine awp_draw_seq (by kernel_rfl) [3, 6, 12, 13] fun K hK => ?_
      ((refine ah_r 0 rfl (by kernel_rfl) rfl fun K' hK' => ?_); (simp only [go_sem, simprocAttr, List.length_map, hk, hk0, hkl, List.getElem?_map, Option.map_some, Int.toNat_natCast]); ((refine hK' _ ?_); clear hK' K'))
      ((refine ah_r 1 rfl (by kernel_rfl) rfl fun K' hK' => ?_); (simp only [go_sem, simprocAttr, List.length_map, hk, hk0, hkl, List.getElem?_map, Option.map_some, Int.toNat_natCast]); ((refine hK' _ ?_); clear hK' K'))
      ((refine ah_r 2 rfl (by kernel_rfl) rfl fun K' hK' => ?_); (simp only [go_sem, simprocAttr, List.length_map, hk, hk0, hkl, List.getElem?_map, Option.map_some, Int.toNat_natCast]); ((refine hK' _ ?_); clear hK' K'))
      ((refine ah_r 3 rfl (by kernel_rfl) rfl fun K' hK' => ?_); (simp only [go_sem, simprocAttr, List.length_map, hk, hk0, hkl, List.getElem?_map, Option.map_some, Int.toNat_natCast]); ((refine hK' _ ?_); clear hK' K'))
      ((refine ah_r 4 rfl (by kernel_rfl) rfl fun K' hK' => ?_); (simp only [go_sem, simprocAttr, List.length_map, hk, hk0, hkl, List.getElem?_map, Option.map_some, Int.toNat_natCast]); ((refine hK' _ ?_); clear hK' K'))
      refine ah_two 5 10 rfl rfl (by kernel_rfl) ?_ ?_
      · ((repeat' ((refine al_r rfl fun K' hK' => ?_); (repeat (simp only [go_sem, simprocAttr, List.length_map, hk, hk0, hkl, List.getElem?_map, Option.map_some, Int.toNat_natCast])); ((refine hK' _ _ ?_) <;> clear hK' K'))); all_goals refine al_nil ?_)
        refine ah_two 6 10 rfl rfl (by kernel_rfl) ?_ ?_
        · ((repeat' ((refine al_r rfl fun K' hK' => ?_); (repeat (simp only [go_sem, simprocAttr, List.length_map, hk, hk0, hkl, List.getElem?_map, Option.map_some, Int.toNat_natCast])); ((show AC _ _ (D.fn 33 _) _ _); refine acall_p (f := 33) (e := rfl) (hr := rfl) (k := hK' _ _ ?_) (hc := Try.call33) (h := hset); clear hK' K'))); all_goals refine al_nil ?_)
          ((refine ah_r 7 rfl (by kernel_rfl) rfl fun K' hK' => ?_); (simp only [go_sem, simprocAttr, List.length_map, hk, hk0, hkl, List.getElem?_map, Option.map_some, Int.toNat_natCast]); ((refine hK' _ ?_); clear hK' K'))
          ((refine ah_r 8 rfl (by kernel_rfl) rfl fun K' hK' => ?_); (simp only [go_sem, simprocAttr, List.length_map, hk, hk0, hkl, List.getElem?_map, Option.map_some, Int.toNat_natCast]); ((refine hK' _ ?_); clear hK' K'))
          ((refine ah_r 9 rfl (by kernel_rfl) rfl fun K' hK' => ?_); (simp only [go_sem, simprocAttr, List.length_map, hk, hk0, hkl, List.getElem?_map, Option.map_some, Int.toNat_natCast]); ((refine hK' _ ?_); clear hK' K'))
          (refine ah_one 10 rfl (by kernel_rfl) ?_; (repeat' ((refine al_r rfl fun K' hK' => ?_); (repeat (simp only [go_sem, simprocAttr, List.length_map, hk, hk0, hkl, List.getElem?_map, Option.map_some, Int.toNat_natCast])); ((refine hK' _ _ ?_) <;> clear hK' K'))); all_goals refine al_nil ?_)
          (refine ah_one 11 rfl (by kernel_rfl) ?_; (repeat' ((refine al_d rfl fun K' hK' => ?_); (repeat (first | (simp only [go_sem, simprocAttr, List.length_map, hk, hk0, hkl, List.getElem?_map, Option.map_some, Int.toNat_natCast]) | refine AS.mk ?_)); ((refine ⟨?_, hK' _ _ ?_⟩) <;> clear hK' K' <;> (first | (show alist _ _ _ _ _ _; skip) | (simp; done))))); all_goals refine al_nil ?_)
          ((refine ah_r 12 rfl (by kernel_rfl) rfl fun K' hK' => ?_); (simp only [go_sem, simprocAttr, List.length_map, hk, hk0, hkl, List.getElem?_map, Option.map_some, Int.toNat_natCast]); ((refine hK' _ ?_); clear hK' K'))
          (refine ah_done (by kernel_rfl) ?_; (simp only [go_sem, simprocAttr, List.length_map, hk, hk0, hkl, List.getElem?_map, Option.map_some, Int.toNat_natCast]); refine hK _ ?_; clear hK K)
          (refine awp_frz [3, 6, 12, 13] [0, 1] (by decide) (by (simp; done)) ?_; simp only [go_sem, simprocAttr, List.length_map, hk, hk0, hkl, List.getElem?_map, Option.map_some, Int.toNat_natCast])
          exact keyA
        · ((repeat' ((refine al_r rfl fun K' hK' => ?_); (repeat (simp only [go_sem, simprocAttr, List.length_map, hk, hk0, hkl, List.getElem?_map, Option.map_some, Int.toNat_natCast])); ((refine hK' _ _ ?_) <;> clear hK' K'))); all_goals refine al_nil ?_)
          (refine ah_one 6 rfl (by kernel_rfl) ?_; (repeat' ((refine al_r rfl fun K' hK' => ?_); (repeat (simp only [go_sem, simprocAttr, List.length_map, hk, hk0, hkl, List.getElem?_map, Option.map_some, Int.toNat_natCast])); ((show AC _ _ (D.fn 33 _) _ _); refine acall_p (f := 33) (e := rfl) (hr := rfl) (k := hK' _ _ ?_) (hc := Try.call33) (h := hset); clear hK' K'))); all_goals refine al_nil ?_)
          ((refine ah_r 7 rfl (by kernel_rfl) rfl fun K' hK' => ?_); (simp only [go_sem, simprocAttr, List.length_map, hk, hk0, hkl, List.getElem?_map, Option.map_some, Int.toNat_natCast]); ((refine hK' _ ?_); clear hK' K'))
          ((refine ah_r 8 rfl (by kernel_rfl) rfl fun K' hK' => ?_); (simp only [go_sem, simprocAttr, List.length_map, hk, hk0, hkl, List.getElem?_map, Option.map_some, Int.toNat_natCast]); ((refine hK' _ ?_); clear hK' K'))
          ((refine ah_r 9 rfl (by kernel_rfl) rfl fun K' hK' => ?_); (simp only [go_sem, simprocAttr, List.length_map, hk, hk0, hkl, List.getElem?_map, Option.map_some, Int.toNat_natCast]); ((refine hK' _ ?_); clear hK' K'))
          (refine ah_one 11 rfl (by kernel_rfl) ?_; (repeat' ((refine al_d rfl fun K' hK' => ?_); (repeat (first | (simp only [go_sem, simprocAttr, List.length_map, hk, hk0, hkl, List.getElem?_map, Option.map_some, Int.toNat_natCast]) | refine AS.mk ?_)); ((refine ⟨?_, hK' _ _ ?_⟩) <;> clear hK' K' <;> (first | (show alist _ _ _ _ _ _; skip) | (simp; done))))); all_goals refine al_nil ?_)
          ((refine ah_r 12 rfl (by kernel_rfl) rfl fun K' hK' => ?_); (simp only [go_sem, simprocAttr, List.length_map, hk, hk0, hkl, List.getElem?_map, Option.map_some, Int.toNat_natCast]); ((refine hK' _ ?_); clear hK' K'))
          (refine ah_done (by kernel_rfl) ?_; (simp only [go_sem, simprocAttr, List.length_map, hk, hk0, hkl, List.getElem?_map, Option.map_some, Int.toNat_natCast]); refine hK _ ?_; clear hK K)
          (refine awp_frz [3, 6, 12, 13] [0, 1] (by decide) (by (simp; done)) ?_; simp only [go_sem, simprocAttr, List.length_map, hk, hk0, hkl, List.getElem?_map, Option.map_some, Int.toNat_natCast])
          exact keyA
      · ((repeat' ((refine al_r rfl fun K' hK' => ?_); (repeat (simp only [go_sem, simprocAttr, List.length_map, hk, hk0, hkl, List.getElem?_map, Option.map_some, Int.toNat_natCast])); ((refine hK' _ _ ?_) <;> clear hK' K'))); all_goals refine al_nil ?_)
        (refine ah_one 5 rfl (by kernel_rfl) ?_; (repeat' ((refine al_r rfl fun K' hK' => ?_); (repeat (simp only [go_sem, simprocAttr, List.length_map, hk, hk0, hkl, List.getElem?_map, Option.map_some, Int.toNat_natCast])); ((refine hK' _ _ ?_) <;> clear hK' K'))); all_goals refine al_nil ?_)
        (refine ah_one 6 rfl (by kernel_rfl) ?_; (repeat' ((refine al_r rfl fun K' hK' => ?_); (repeat (simp only [go_sem, simprocAttr, List.length_map, hk, hk0, hkl, List.getElem?_map, Option.map_some, Int.toNat_natCast])); ((show AC _ _ (D.fn 33 _) _ _); refine acall_p (f := 33) (e := rfl) (hr := rfl) (k := hK' _ _ ?_) (hc := Try.call33) (h := hset); clear hK' K'))); all_goals refine al_nil ?_)
        ((refine ah_r 7 rfl (by kernel_rfl) rfl fun K' hK' => ?_); (simp only [go_sem, simprocAttr, List.length_map, hk, hk0, hkl, List.getElem?_map, Option.map_some, Int.toNat_natCast]); ((refine hK' _ ?_); clear hK' K'))
        ((refine ah_r 8 rfl (by kernel_rfl) rfl fun K' hK' => ?_); (simp only [go_sem, simprocAttr, List.length_map, hk, hk0, hkl, List.getElem?_map, Option.map_some, Int.toNat_natCast]); ((refine hK' _ ?_); clear hK' K'))
        ((refine ah_r 9 rfl (by kernel_rfl) rfl fun K' hK' => ?_); (simp only [go_sem, simprocAttr, List.length_map, hk, hk0, hkl, List.getElem?_map, Option.map_some, Int.toNat_natCast]); ((refine hK' _ ?_); clear hK' K'))
        (refine ah_one 11 rfl (by kernel_rfl) ?_; (repeat' ((refine al_d rfl fun K' hK' => ?_); (repeat (first | (simp only [go_sem, simprocAttr, List.length_map, hk, hk0, hkl, List.getElem?_map, Option.map_some, Int.toNat_natCast]) | refine AS.mk ?_)); ((refine ⟨?_, hK' _ _ ?_⟩) <;> clear hK' K' <;> (first | (show alist _ _ _ _ _ _; skip) | (simp; done))))); all_goals refine al_nil ?_)
        ((refine ah_r 12 rfl (by kernel_rfl) rfl fun K' hK' => ?_); (simp only [go_sem, simprocAttr, List.length_map, hk, hk0, hkl, List.getElem?_map, Option.map_some, Int.toNat_natCast]); ((refine hK' _ ?_); clear hK' K'))
        (refine ah_done (by kernel_rfl) ?_; (simp only [go_sem, simprocAttr, List.length_map, hk, hk0, hkl, List.getElem?_map, Option.map_some, Int.toNat_natCast]); refine hK _ ?_; clear hK K)
        (refine awp_frz [3, 6, 12, 13] [0, 1] (by decide) (by (simp; done)) ?_; simp only [go_sem, simprocAttr, List.length_map, hk, hk0, hkl, List.getElem?_map, Option.map_some, Int.toNat_natCast])
        exact keyA
    (refine awp_reg_seq [3, 6, 12, 56] fun K hK => ?_; (repeat' ((refine al_r rfl fun K' hK' => ?_); (repeat (simp only [go_sem, simprocAttr, List.length_map, hk, hk0, hkl, List.getElem?_map, Option.map_some, Int.toNat_natCast])); ((refine hK' _ _ ?_) <;> clear hK' K'))); all_goals (refine al_nil ?_; (simp only [go_sem, simprocAttr, List.length_map, hk, hk0, hkl, List.getElem?_map, Option.map_some, Int.toNat_natCast]); refine hK _ ?_; clear hK K))
    refine awp_if (e == 0) rfl (fun hc => ?_) (fun hc => ?_)
    · rw [hEG, hc, Bool.and_self, if_pos rfl] at hV
      obtain ⟨e1, e2⟩ := Prod.mk.inj hV
      obtain ⟨e3, e4⟩ := Prod.mk.inj e2
      (refine awp_reg_seq [6] fun K hK => ?_; (repeat' ((first | refine al_r rfl fun K' hK' => ?_ | refine al_d rfl fun K' hK' => ?_); (repeat (first | (simp only [go_sem, simprocAttr, List.length_map, hk, hk0, hkl, List.getElem?_map, Option.map_some, Int.toNat_natCast]) | refine AS.mk ?_)); ((first | refine hK' _ _ ?_ | refine ⟨?_, hK' _ _ ?_⟩) <;> clear hK' K' <;> (first | (show alist _ _ _ _ _ _; skip) | (simp; done))))); all_goals (refine al_nil ?_; (simp only [go_sem, simprocAttr, List.length_map, hk, hk0, hkl, List.getElem?_map, Option.map_some, Int.toNat_natCast]); refine hK _ ?_; clear hK K))
      (refine awp_frz [6] [0] (by decide) (by (simp; done)) ?_; simp only [go_sem, simprocAttr, List.length_map, hk, hk0, hkl, List.getElem?_map, Option.map_some, Int.toNat_natCast])
      refine awp_ret (hR _ _ (.inl rfl) rfl ⟨[0], (agesD h3 old3 late3), by decide, by simp only [List.length_cons, List.length_nil]; decide, ?_, ?_⟩)
      · simp only [go_sem, simprocAttr, List.length_map, hk, hk0, hkl, List.getElem?_map, Option.map_some, Int.toNat_natCast, e1, e3, e4]
      · refine ⟨?_, ?_⟩ <;> simp only [go_sem, simprocAttr, List.length_map, hk, hk0, hkl, List.getElem?_map, Option.map_some, Int.toNat_natCast]
    · rw [hEG, hc, Bool.and_false, if_neg Bool.false_ne_true] at hV
      obtain ⟨e1, e2⟩ := Prod.mk.inj hV
      obtain ⟨e3, e4⟩ := Prod.mk.inj e2
      refine awp_skip ?_
      refine hK _ ?_; clear hK K
      (refine awp_reg_seq [6] fun K hK => ?_; (repeat' ((first | refine al_r rfl fun K' hK' => ?_ | refine al_d rfl fun K' hK' => ?_); (repeat (first | (simp only [go_sem, simprocAttr, List.length_map, hk, hk0, hkl, List.getElem?_map, Option.map_some, Int.toNat_natCast]) | refine AS.mk ?_)); ((first | refine hK' _ _ ?_ | refine ⟨?_, hK' _ _ ?_⟩) <;> clear hK' K' <;> (first | (show alist _ _ _ _ _ _; skip) | (simp; done))))); all_goals (refine al_nil ?_; (simp only [go_sem, simprocAttr, List.length_map, hk, hk0, hkl, List.getElem?_map, Option.map_some, Int.toNat_natCast]); refine hK _ ?_; clear hK K))
      (refine awp_frz [6] [0] (by decide) (by (simp; done)) ?_; simp only [go_sem, simprocAttr, List.length_map, hk, hk0, hkl, List.getElem?_map, Option.map_some, Int.toNat_natCast])
      refine awp_ret (hR _ _ (.inl rfl) rfl ⟨[0], (agesD h3 old3 late3), by decide, by simp only [List.length_cons, List.length_nil]; decide, ?_, ?_⟩)
      · simp only [go_sem, simprocAttr, List.length_map, hk, hk0, hkl, List.getElem?_map, Option.map_some, Int.toNat_natCast, e1, e3, e4]
      · refine ⟨?_, ?_⟩ <;> simp only [go_sem, simprocAttr, List.length_map, hk, hk0, hkl, List.getElem?_map, Option.map_some, Int.toNat_natCast]
  · rw [hc, Bool.false_and, if_neg Bool.false_ne_true] at hV
    obtain ⟨e1, e2⟩ := Prod.mk.inj hV
    obtain ⟨e3, e4⟩ := Prod.mk.inj e2
    refine awp_skip ?_
    refine hK _ ?_; clear hK K
    (refine awp_reg_seq [6] fun K hK => ?_; (repeat' ((first | refine al_r rfl fun K' hK' => ?_ | refine al_d rfl fun K' hK' => ?_); (repeat (first | (simp only [go_sem, simprocAttr, List.length_map, hk, hk0, hkl, List.getElem?_map, Option.map_some, Int.toNat_natCast]) | refine AS.mk ?_)); ((first | refine hK' _ _ ?_ | refine ⟨?_, hK' _ _ ?_⟩) <;> clear hK' K' <;> (first | (show alist _ _ _ _ _ _; skip) | (simp; done))))); all_goals (refine al_nil ?_; (simp only [go_sem, simprocAttr, List.length_map, hk, hk0, hkl, List.getElem?_map, Option.map_some, Int.toNat_natCast]); refine hK _ ?_; clear hK K))
    (refine awp_frz [6] [0] (by decide) (by (simp; done)) ?_; simp only [go_sem, simprocAttr, List.length_map, hk, hk0, hkl, List.getElem?_map, Option.map_some, Int.toNat_natCast])
    refine awp_ret (hR _ _ (.inl rfl) rfl ⟨[0], (agesD h3 old3 late3), by decide, by simp only [List.length_cons, List.length_nil]; decide, ?_, ?_⟩)
    · simp only [go_sem, simprocAttr, List.length_map, hk, hk0, hkl, List.getElem?_map, Option.map_some, Int.toNat_natCast, e1, e3, e4]
    · refine ⟨?_, ?_⟩ <;> simp only [go_sem, simprocAttr, List.length_map, hk, hk0, hkl, List.getElem?_map, Option.map_some, Int.toNat_natCast]
end Go.Proofs.Ytagphggcdmjlpaa.P

/- Ages that are right stay so: Add, set, Minor. -/
namespace Go.Proofs.Ytagphggcdmjlpaa.P
open Go.Ab Go.Proofs.Ytagphggcdmjlpaa.T

/-- Ages that are right, and roots that name objects of theirs. -/
def GoodS (h : List Int) (old : Int) (late roots : List Int) : Prop :=
  ∃ L, Placed L ∧ h = flat L ∧ (flat L).length ≤ 4000 ∧ GoodA (flat L).length old late L ∧ ∀ w, w ∈ roots → NameOk L w ∧ WordOk w

theorem goodS_nil : GoodS [] 0 [] [] := ⟨[], ⟨rfl, fun _ h => (by cases h)⟩, rfl, by simp [flat], ⟨by omega, rfl, fun _ h => (by cases h), .nil, fun _ h => (by cases h)⟩, fun _ h => (by cases h)⟩

theorem placed_lt {L : List Obj} (hL : Placed L) {o : Obj} (ho : o ∈ L) : 0 ≤ o.at_ ∧ o.at_ < (flat L).length := by
  obtain ⟨n, e1, e2⟩ := placed_len hL ho
  have hpos : 1 ≤ (encW o).length := by simp [encW]
  omega

theorem partE_of {L : List Obj} {n old : Int} {late : List Int} {o : Obj} {w : Int} (hL : Placed L) (hn : n = (flat L).length) (h1 : NameOk L w) (h2 : (placeS w).2.1 = true → o.at_ < old → (placeS w).1 ≥ old → o.at_ ∈ late) : partE n old (begS n L) late o w = 0 := by
  unfold partE
  rw [if_neg, if_neg]
  · intro h
    simp only [Bool.and_eq_true, decide_eq_true_eq, Bool.not_eq_true'] at h
    have := hasI_iff.2 (h2 h.1.1.1 h.1.1.2 h.1.2)
    rw [this] at h
    exact absurd h.2 (by simp)
  · intro h
    rw [h1.1] at h
    simp only [bne_self_eq_false, Bool.false_or, Bool.and_eq_true, Bool.or_eq_true, beq_iff_eq, Bool.not_eq_true'] at h
    obtain ⟨x, hx, hxa⟩ := h1.2 h.1
    have := placed_lt hL hx
    rcases h.2 with h3 | h3
    · omega
    · rw [begS_iff.2 (.inr ⟨x, hx, hxa⟩)] at h3; cases h3

theorem partE_late {n old : Int} {beg : Int → Bool} {late : List Int} {o : Obj} {w : Int} (h : partE n old beg late o w = 0) (h1 : (placeS w).2.1 = true) (h2 : o.at_ < old) (h3 : (placeS w).1 ≥ old) : o.at_ ∈ late := by
  unfold partE at h
  split at h
  · cases h
  · split at h
    · cases h
    · rename_i hc
      cases hh : hasI late o.at_ with
      | true => exact hasI_iff.1 hh
      | false =>
        refine absurd ?_ hc
        rw [h1, hh, decide_eq_true h2, decide_eq_true h3]
        rfl

theorem beg_more {L N : List Obj} (hp : Placed (L ++ N)) {t : Int} (h : begS (flat L).length L t = true) : begS (flat (L ++ N)).length (L ++ N) t = true := by
  rcases begS_iff.1 h with h | ⟨o, ho, h⟩
  · cases N with
    | nil => rw [List.append_nil]; exact begS_iff.2 (.inl h)
    | cons x N =>
      obtain ⟨ha, _⟩ := placed_parts hp
      exact begS_iff.2 (.inr ⟨x, by simp, by rw [ha, h]⟩)
  · exact begS_iff.2 (.inr ⟨o, List.mem_append_left _ ho, h⟩)

theorem good_more {L N : List Obj} {old : Int} {late : List Int} (hL : Placed L) (hp : Placed (L ++ N)) (hg : GoodA (flat L).length old late L) (hN : ∀ o, o ∈ N → ∀ p, p ∈ o.parts → NameOk (L ++ N) p) : GoodA (flat (L ++ N)).length old late (L ++ N) := by
  obtain ⟨g1, g2, g3, g4, g5⟩ := hg
  refine ⟨g1, beg_more hp g2, fun t ht => ⟨(g3 t ht).1, beg_more hp (g3 t ht).2⟩, g4, fun o ho w hw => ?_⟩
  rcases List.mem_append.1 ho with h | h
  · exact partE_of hp rfl (good_parts hL rfl ⟨g1, g2, g3, g4, g5⟩ h w hw).more fun a b c => partE_late (g5 o h w hw) a b c
  · refine partE_of hp rfl (hN o h w hw) fun _ hlt _ => ?_
    have h1 : old ≤ (flat L).length := by
      rcases begS_iff.1 g2 with e | ⟨x, hx, e⟩
      · omega
      · have := placed_lt hL hx; omega
    have h2 : ((flat L).length : Int) ≤ o.at_ := by
      have e := hp.1
      rw [place_append] at e
      have := (List.append_inj e (place_len _ _)).2
      rw [← this] at h
      have := place_ge h
      omega
    omega

theorem goodS_late {h late roots : List Int} {old : Int} (hg : GoodS h old late roots) : late.length ≤ 4001 ∧ h.length ≤ 4000 ∧ ∀ w, w ∈ h → WordOk w := by
  obtain ⟨L, hL, rfl, h4, hA, _⟩ := hg
  exact ⟨late_small hA (fun x hx => by have := placed_lt hL hx; omega) (by omega) (by omega), h4, placed_ok hL⟩

/-- A value is added. -/
theorem addS {h late roots : List Int} {old : Int} (hg : GoodS h old late roots) {f : Nat} {xs : List PV} (hx : shapeOk Try.prog f 38 xs) :
    ∃ g old2 late2 w e, ACallP Try.prog 71 [agesD h old late, .agg (xs.map .p)] (.tup [agesD g old2 late2, wD w, iD e]) ∧ (e ≠ 0 ∨ (e = 0 ∧ GoodS g old2 late2 (roots ++ [w]))) := by
  obtain ⟨B, hB, hBo⟩ := buildY f xs hx
  obtain ⟨k, n, text, args, _, rfl, _⟩ := sh38 hx
  obtain ⟨hl, _, _⟩ := goodS_late hg
  obtain ⟨L, hL, rfl, h4, hA, hr⟩ := hg
  have hck := checkC (flat L) old late (by simp only [maxLen]; omega) (placed_ok hL) (by simp only [maxLen]; omega)
  rw [checkY_flat hL h4 hA] at hck
  obtain ⟨hbu, _⟩ := hB (flat L) h4
  rcases hBo L hL h4 with he | ⟨he, hw, N, h1, h2, h3, h5, h6⟩
  · have he : ((B (flat L)).2.2 != 0) = true := by simpa using he
    exact ⟨[], 0, [], 0, (B (flat L)).2.2, addFail (flat L) _ old _ k n _ text args late he hck hbu, .inl (by simpa using he)⟩
  · have he : (B (flat L)).2.2 = 0 := he
    have h1 : (B (flat L)).1 = flat (L ++ N) := h1
    rw [he, h1] at hbu
    refine ⟨flat (L ++ N), old, late, (B (flat L)).2.1, 0, addGood (flat L) _ old k n _ text args late hck hbu (by omega), .inr ⟨rfl, L ++ N, h2, rfl, h3, good_more hL h2 hA h6, fun w hwm => ?_⟩⟩
    rcases List.mem_append.1 hwm with hwm | hwm
    · exact ⟨(hr w hwm).1.more, (hr w hwm).2⟩
    · rcases List.mem_singleton.1 hwm with rfl
      exact ⟨h5, hw⟩

theorem name_set {P Q : List Obj} {o : Obj} {w v : Int} (h : NameOk (P ++ o :: Q) v) : NameOk (P ++ { o with parts := [w] } :: Q) v := ⟨h.1, fun hi => by
  obtain ⟨x, hx, hxa⟩ := h.2 hi
  rcases List.mem_append.1 hx with hx | hx
  · exact ⟨x, List.mem_append_left _ hx, hxa⟩
  · rcases List.mem_cons.1 hx with rfl | hx
    · exact ⟨{ x with parts := [w] }, by simp, hxa⟩
    · exact ⟨x, List.mem_append_right _ (List.mem_cons_of_mem _ hx), hxa⟩⟩

/-- One of the roots is set to another. -/
theorem setS {h late roots : List Int} {old : Int} (hg : GoodS h old late roots) (hlen : 1 ≤ roots.length) (hmax : roots.length ≤ 100000) (a b : Int) :
    ∃ h2 old2 late2, ACalls Try.prog 72 [agesD h old late, .ref 0 0 roots.length, .agg [iD a, iD b]] [.row 1 (roots.map wrow)] (fun r obs' => r = agesD h2 old2 late2 ∧ obs' = [.row 1 (roots.map wrow)]) ∧ GoodS h2 old2 late2 roots := by
  obtain ⟨w, hi⟩ := get_of_lt (l := roots) (ri_lt hlen a)
  obtain ⟨w2, hk⟩ := get_of_lt (l := roots) (ri_lt hlen b)
  obtain ⟨hl, h4, hok⟩ := goodS_late hg
  have hg0 := hg
  obtain ⟨L, hL, hh, hl4, hA, hr⟩ := hg
  have hw2 := (hr w2 (List.mem_of_getElem? hk))
  have hrd := readW w
  rcases setC h old (readS w).2.1 w2 late (by simp only [maxLen]; omega) hok (by simp only [maxLen]; omega) hw2.2 with ⟨e, he, hset⟩ | ⟨P, o, Q, p, hp, hf, _, hgd, hn, ha, hoa, hkd, hop, _, hset⟩
  · refine ⟨h, old, late, setW h [] late [] roots old 0 a b w w2 _ _ _ e hlen hmax hi hk hrd hset h late old ?_, hg0⟩
    have : (e == 0) = false := by rw [beq_eq_false_iff_ne]; exact he
    rw [this, Bool.and_false, if_neg Bool.false_ne_true]
  · by_cases hc : ((readS w).2.2 == 0 && (readS w).1 == 4) = true
    · refine ⟨flat (P ++ { o with parts := [w2] } :: Q), old, setL old late (readS w).2.1 (placeS w2), setW h _ late _ roots old old a b w w2 _ _ _ 0 hlen hmax hi hk hrd hset _ _ old ?_, ?_⟩
      · rw [hc]; rfl
      · obtain ⟨hp2, hf2⟩ := placed_set (w := w2) hp hkd hop hw2.2 hoa
        have hl2 : (flat (P ++ { o with parts := [w2] } :: Q)).length = h.length := by rw [hf2, List.length_set, hf]
        have hLe : L = P ++ o :: Q := by
          have e1 := placed_objs hL hl4
          have e2 := placed_objs hp (by rw [← hf]; exact h4)
          rw [← hh, hf, e2] at e1
          exact (Prod.mk.inj e1).1.symm
        refine ⟨_, hp2, rfl, by rw [hl2]; exact h4, ?_, fun v hv => ⟨name_set (by rw [← hLe]; exact (hr v hv).1), (hr v hv).2⟩⟩
        rw [hl2]
        have hgo := good_set (w := w2) (p := p) hgd hop (begS_iff.2 (.inr ⟨o, by simp, rfl⟩)) ⟨hn.1, fun hi => by
          obtain ⟨x, hx, hxa⟩ := hn.2 hi
          have := placed_lt hp hx
          rw [← hf] at this
          exact ⟨by omega, begS_iff.2 (.inr ⟨x, hx, hxa⟩)⟩⟩
        rw [ha]
        exact hgo
    · refine ⟨h, old, late, setW h _ late _ roots old old a b w w2 _ _ _ 0 hlen hmax hi hk hrd hset h late old ?_, hg0⟩
      have : ((readS w).2.2 == 0 && (readS w).1 == 4) = false := by
        cases hb : ((readS w).2.2 == 0 && (readS w).1 == 4) with
        | true => exact absurd hb hc
        | false => rfl
      rw [this, Bool.false_and, if_neg Bool.false_ne_true]

/-- A minor collection. -/
theorem minorS {h late roots : List Int} {old : Int} (hg : GoodS h old late roots) (hmax : roots.length ≤ 100000) :
    ∃ h2 out, ACalls Try.prog 38 [agesD h old late, words roots] [] (fun r obs' => r = .tup [agesD h2 h2.length [], .ref 0 0 roots.length, iD 0] ∧ obs' = [.row 1 (out.map wrow)]) ∧ out.length = roots.length ∧ h2.length ≤ h.length ∧ GoodS h2 h2.length [] out := by
  obtain ⟨L, hL, rfl, h4, hA, hr⟩ := hg
  obtain ⟨T, mv, h1, h2, h3⟩ := minor_good hL h4 hA (fun w hw => (hr w hw).1) hmax
  have hsz := h2.size
  refine ⟨flat T, roots.map (phi old mv), h1, by simp, by omega, T, h2.placed, rfl, by omega, good_copied hL rfl hA h2 h4 hA.1, fun w hw => ?_⟩
  obtain ⟨p, hp, rfl⟩ := List.mem_map.1 hw
  exact ⟨copied_name h2 h4 hA.1 (hr p hp).1 (h3 p hp), phi_wordok (hr p hp).2⟩
end Go.Proofs.Ytagphggcdmjlpaa.P

