/- What the function of the statement StealBusy answers. -/
import Derived.Test.YtjaghpkmbgcabaaS10
set_option linter.unusedSimpArgs false
set_option linter.unusedVariables false
set_option maxHeartbeats 1000000
namespace Go.Proofs.Ytjaghpkmbgcabaa.P
open Go.Ab Go.Proofs.Ytjaghpkmbgcabaa.T

theorem vict_none {ls : List (List Int)} {c : Nat} : ∀ (m k : Nat) (best : Int), victF ls c m k best = -1 → best = -1 ∧ ∀ j, k ≤ j → j < k + m → lenAt ls ((c + j) % ls.length) ≤ 0
  | 0, k, best, h => ⟨h, fun j h1 h2 => by omega⟩
  | m + 1, k, best, h => by
    obtain ⟨h1, h2⟩ := vict_none m (k + 1) (stepV ls c k best) h
    unfold stepV at h1
    split at h1
    · have := Int.natCast_nonneg ((c + k) % ls.length); omega
    · rename_i hb
      subst h1
      refine ⟨rfl, fun j h3 h4 => ?_⟩
      rcases Nat.eq_or_lt_of_le h3 with rfl | h3
      · unfold better at hb
        simp at hb
        omega
      · exact h2 j h3 (by omega)

theorem turn_at {c j n : Nat} (hc : c < n) (hj : j < n) (hne : j ≠ c) : ∃ k, 1 ≤ k ∧ k < n ∧ (c + k) % n = j := by
  rcases Nat.lt_or_ge c j with h | h
  · exact ⟨j - c, by omega, by omega, by rw [Nat.mod_eq_of_lt (by omega)]; omega⟩
  · refine ⟨j + n - c, by omega, by omega, ?_⟩
    rw [show c + (j + n - c) = j + n by omega, Nat.add_mod_right, Nat.mod_eq_of_lt hj]

theorem victim_none {ls : List (List Int)} {c : Nat} (h : checkC ls c = 0) (hv : victimS ls c = -1) {j : Nat} (hj : j < ls.length) (hne : j ≠ c) : ls[j]? = some [] := by
  obtain ⟨_, h1, _, c', hc, hcl⟩ := checkC_ok h
  have hcc : c' = c := by omega
  subst hcc
  unfold victimS at hv
  rw [if_neg (by rw [h]; simp), Int.toNat_natCast] at hv
  obtain ⟨k, h2, h3, h4⟩ := turn_at hcl hj hne
  have := (vict_none _ 1 (-1) hv).2 k h2 (by omega)
  rw [h4] at this
  obtain ⟨x, hx⟩ := get_of_lt hj
  rw [lenAt_of hx] at this
  rw [hx, List.length_eq_zero_iff.1 (show x.length = 0 by omega)]

theorem flat_empty {ls : List (List Int)} (h : ∀ (j : Nat) x, ls[j]? = some x → x = []) : ls.flatten = [] := by
  rw [List.flatten_eq_nil_iff]
  intro x hx
  obtain ⟨j, hj⟩ := List.getElem?_of_mem hx
  exact h j x hj

theorem pop_err {ls : List (List Int)} {c : Nat} (h : checkC ls c = 0) : ((popS ls c).2.2 = 0 ∧ 0 < ls.flatten.length) ∨ ((popS ls c).2.2 = 4 ∧ ls.flatten.length = 0) := by
  obtain ⟨_, h1, _, c', hc, hcl⟩ := checkC_ok h
  have hcc : c' = c := by omega
  subst hcc
  obtain ⟨x, hx⟩ := get_of_lt hcl
  have hpos : ∀ {j : Nat} {y : List Int}, ls[j]? = some y → 0 < y.length → 0 < ls.flatten.length := fun {j y} hj hy => by
    obtain ⟨t, ht⟩ := List.exists_mem_of_length_pos hy
    exact List.length_pos_of_mem (List.mem_flatten.2 ⟨y, List.mem_of_getElem? hj, ht⟩)
  have hend : ∀ {L : List (List Int)} {z : List Int}, L[c']? = some z → 0 < z.length → (popEnd L c').2.2 = 0 := fun {L z} hz hl => by
    unfold popEnd
    rw [hz]
    simp only
    rw [List.getElem?_eq_getElem (by omega)]
  unfold popS
  rw [if_neg (by rw [h]; simp), Int.toNat_natCast, hx]
  simp only
  by_cases h0 : (x.length : Int) == 0
  · rw [if_pos h0]
    have hx0 : x = [] := by simpa using h0
    subst hx0
    rcases victimS_ok h with hv | ⟨b, hv, hb, hbc, hbl⟩
    · rw [hv]
      refine .inr ⟨rfl, ?_⟩
      rw [flat_empty fun j y hy => ?_]
      · rfl
      · by_cases e : j = c'
        · subst e; rw [hx] at hy; exact (Option.some.inj hy).symm
        · rw [victim_none h hv (lt_of_get hy) e] at hy; exact (Option.some.inj hy).symm
    · rw [hv]
      obtain ⟨y, hy⟩ := get_of_lt hb
      rw [lenAt_of hy] at hbl
      rw [if_neg (by simp), Int.toNat_natCast, hy]
      refine .inl ⟨?_, hpos hy (by omega)⟩
      simp only
      refine hend (z := y.take ((y.length + 1) / 2)) ?_ (by rw [List.length_take]; omega)
      unfold popL
      rw [List.getElem?_set_ne hbc, List.getElem?_set_self hcl]
  · rw [if_neg h0]
    have : 0 < x.length := by simp at h0; exact List.length_pos_iff.2 h0
    exact .inl ⟨hend hx this, hpos hx this⟩

theorem pop_bad {ls : List (List Int)} {cpu : Int} (h : checkC ls cpu ≠ 0) : popS ls cpu = ([], 0, checkC ls cpu) := by
  unfold popS
  rw [if_pos (by simpa using h)]


theorem busyBad (ls b : List (List Int)) (cpu t e k : Int) (he : (e != 0) = true) (hpo : ACallP Try.prog 24 [lines ls, iD cpu] (.tup [lines b, iD t, iD e])) (hck : ACallP Try.prog 26 [lines ls] (iD k))
    (hcond : (k != 0 || decide (cpu < 0) || decide (cpu ≥ ls.length)) = true) :
    ACallP Try.prog 9 [lines ls, iD cpu] (bD true) := by
  obtain ⟨A, hA⟩ : ∃ A, (k != 0) = A := ⟨_, rfl⟩
  obtain ⟨B, hB⟩ : ∃ B, decide (cpu < 0) = B := ⟨_, rfl⟩
  obtain ⟨C, hC⟩ : ∃ C, decide (cpu ≥ ls.length) = C := ⟨_, rfl⟩
  rw [hA, hB, hC] at hcond
  refine acallp_fn [4] Try.func9 rfl rfl Try.ntmps9 (by simp) fun R hR => ?_
  (refine awp_reg_seq [0, 1] fun K hK => ?_; (repeat' (first | ((first | refine al_r rfl fun K' hK' => ?_ | refine al_d rfl fun K' hK' => ?_ | refine al_t rfl rfl fun K' hK' => ?_); (repeat (first | (simp only [go_sem, simprocAttr, List.length_map, List.length_nil, he]) | refine AS.mk ?_ | refine AAp.grow ?_)); (first | ((first | refine hK' _ _ ?_ | refine ⟨?_, hK' _ _ ?_⟩ | refine ⟨?_, ?_, hK' _ _ ?_⟩ | refine ⟨?_, ?_, ?_, hK' _ _ ?_⟩) <;> clear hK' K' <;> (first | (show alist _ _ _ _ _ _; skip) | (intro s hs; cases hs; done) | assumption | (simp; done) | omega | (simp; omega) | skip)))) | refine al_e rfl rfl ?_ | refine al_u rfl rfl ?_ | ((fail_if_success (refine al_t rfl rfl fun K' hK' => ?_)); refine al_s _ rfl rfl rfl (fun hb => ?_) (fun hb => ?_)))); all_goals (refine al_nil ?_; (simp only [go_sem, simprocAttr, List.length_map, List.length_nil, he]); refine hK _ ?_; clear hK K))
  (refine awp_reg_seq [0, 1, 7] fun K hK => ?_; (repeat' (first | ((first | refine al_r rfl fun K' hK' => ?_ | refine al_d rfl fun K' hK' => ?_ | refine al_t rfl rfl fun K' hK' => ?_); (repeat (first | (simp only [go_sem, simprocAttr, List.length_map, List.length_nil, he]) | refine AS.mk ?_ | refine AAp.grow ?_)); (first | ((first | refine hK' _ _ ?_ | refine ⟨?_, hK' _ _ ?_⟩ | refine ⟨?_, ?_, hK' _ _ ?_⟩ | refine ⟨?_, ?_, ?_, hK' _ _ ?_⟩) <;> clear hK' K' <;> (first | (show alist _ _ _ _ _ _; skip) | (intro s hs; cases hs; done) | assumption | (simp; done) | omega | (simp; omega) | skip)) | ((show AC _ _ (D.fn 24 _) _ _); refine acall_p (f := 24) (e := rfl) (hr := rfl) (k := hK' _ _ ?_) (hc := Try.call24) (h := hpo); clear hK' K'))) | refine al_e rfl rfl ?_ | refine al_u rfl rfl ?_ | ((fail_if_success (refine al_t rfl rfl fun K' hK' => ?_)); refine al_s _ rfl rfl rfl (fun hb => ?_) (fun hb => ?_)))); all_goals (refine al_nil ?_; (simp only [go_sem, simprocAttr, List.length_map, List.length_nil, he]); refine hK _ ?_; clear hK K))
  refine awp_seq_k fun K hK => ?_

  refine awp_reg_tov [0, 7, 32] [(32, bD true)] (h := ?_) (k := ?_)
  · cases A <;> cases B <;> cases C <;> first | (cases hcond; done) | skip
    all_goals ((repeat' (first | ((first | refine al_r rfl fun K' hK' => ?_ | refine al_d rfl fun K' hK' => ?_ | refine al_t rfl rfl fun K' hK' => ?_); (repeat (first | (simp only [go_sem, simprocAttr, List.length_map, hA, hB, hC]) | refine AS.mk ?_ | refine AAp.grow ?_)); (first | ((first | refine hK' _ _ ?_ | refine ⟨?_, hK' _ _ ?_⟩ | refine ⟨?_, ?_, hK' _ _ ?_⟩ | refine ⟨?_, ?_, ?_, hK' _ _ ?_⟩) <;> clear hK' K' <;> (first | (show alist _ _ _ _ _ _; skip) | (intro s hs; cases hs; done) | assumption | (simp; done) | omega | (simp; omega) | skip)) | ((show AC _ _ (D.fn 23 _) _ _); refine acall_p (f := 23) (e := rfl) (hr := rfl) (k := hK' _ _ ?_) (hc := Try.call23) (h := steals); clear hK' K') | ((show AC _ _ (D.fn 26 _) _ _); refine acall_p (f := 26) (e := rfl) (hr := rfl) (k := hK' _ _ ?_) (hc := Try.call26) (h := hck); clear hK' K'))) | refine al_e rfl rfl ?_ | refine al_u rfl rfl ?_ | ((fail_if_success (refine al_t rfl rfl fun K' hK' => ?_)); refine al_s _ rfl rfl rfl (fun hb => ?_) (fun hb => ?_)))); all_goals (refine al_nil ?_; (first | (simp only [go_sem, simprocAttr, List.length_map, hA, hB, hC, *, Bool.and_true, Bool.and_false, Bool.true_and, Bool.false_and, Bool.or_true, Bool.true_or, Bool.or_false, Bool.false_or, Bool.not_true, Bool.not_false, Bool.false_eq_true]; done) | contradiction | (simp_all; done) | simp only [go_sem, simprocAttr, List.length_map, hA, hB, hC, *, Bool.and_true, Bool.and_false, Bool.true_and, Bool.false_and, Bool.or_true, Bool.true_or, Bool.or_false, Bool.false_or, Bool.not_true, Bool.not_false, Bool.false_eq_true])))
  (intro K hK; (simp only [go_sem, simprocAttr, List.length_map, hA, hB, hC]); refine hK _ ?_; clear hK K)
  refine awp_if (_) rfl (fun hc => ?_) (fun hc => ?_)

  · (refine awp_reg_seq [4] fun K hK => ?_; (repeat' (first | ((first | refine al_r rfl fun K' hK' => ?_ | refine al_d rfl fun K' hK' => ?_ | refine al_t rfl rfl fun K' hK' => ?_); (repeat (first | (simp only [go_sem, simprocAttr, List.length_map, he]) | refine AS.mk ?_ | refine AAp.grow ?_)); (first | ((first | refine hK' _ _ ?_ | refine ⟨?_, hK' _ _ ?_⟩ | refine ⟨?_, ?_, hK' _ _ ?_⟩ | refine ⟨?_, ?_, ?_, hK' _ _ ?_⟩) <;> clear hK' K' <;> (first | (show alist _ _ _ _ _ _; skip) | (intro s hs; cases hs; done) | assumption | (simp; done) | omega | (simp; omega) | skip)) | ((show AC _ _ (D.fn 23 _) _ _); refine acall_p (f := 23) (e := rfl) (hr := rfl) (k := hK' _ _ ?_) (hc := Try.call23) (h := steals); clear hK' K'))) | refine al_e rfl rfl ?_ | refine al_u rfl rfl ?_ | ((fail_if_success (refine al_t rfl rfl fun K' hK' => ?_)); refine al_s _ rfl rfl rfl (fun hb => ?_) (fun hb => ?_)))); all_goals (refine al_nil ?_; (simp only [go_sem, simprocAttr, List.length_map, he]); refine hK _ ?_; clear hK K))
    all_goals (refine awp_ret ?_; (first | refine hR _ _ (.inl rfl) rfl ?_ | refine hR _ _ (.inl rfl) rfl ?_ ?_); (first | (simp only [go_sem, simprocAttr, List.length_map, he, *, Bool.and_true, Bool.and_false, Bool.true_and, Bool.false_and, Bool.or_true, Bool.true_or, Bool.or_false, Bool.false_or, Bool.not_true, Bool.not_false, Bool.false_eq_true]; done) | contradiction | (simp_all; done) | simp only [go_sem, simprocAttr, List.length_map, he, *, Bool.and_true, Bool.and_false, Bool.true_and, Bool.false_and, Bool.or_true, Bool.true_or, Bool.or_false, Bool.false_or, Bool.not_true, Bool.not_false, Bool.false_eq_true]))
  · cases hc


theorem busyGood (ls b : List (List Int)) (cpu t e : Int) (n : Nat) (X : List (List PV)) (hpo : ACallP Try.prog 24 [lines ls, iD cpu] (.tup [lines b, iD t, iD e])) (hck : ACallP Try.prog 26 [lines ls] (iD 0))
    (h0 : decide (cpu < 0) = false) (h1 : decide (cpu ≥ ls.length) = false) (hcon : ACalls Try.prog 28 [lines ls] [] (fun r obs' => r = .ref 0 0 n ∧ obs' = [.row 1 X]))
    (he : e = 0 ∧ 0 < n ∨ e = 4 ∧ n = 0) : ACallP Try.prog 9 [lines ls, iD cpu] (bD true) := by
  refine acallp_fn [4] Try.func9 rfl rfl Try.ntmps9 (by simp) fun R hR => ?_
  (refine awp_reg_seq [0, 1] fun K hK => ?_; (repeat' (first | ((first | refine al_r rfl fun K' hK' => ?_ | refine al_d rfl fun K' hK' => ?_ | refine al_t rfl rfl fun K' hK' => ?_); (repeat (first | (simp only [go_sem, simprocAttr, List.length_map, bne_self_eq_false, h0, h1]) | refine AS.mk ?_ | refine AAp.grow ?_)); (first | ((first | refine hK' _ _ ?_ | refine ⟨?_, hK' _ _ ?_⟩ | refine ⟨?_, ?_, hK' _ _ ?_⟩ | refine ⟨?_, ?_, ?_, hK' _ _ ?_⟩) <;> clear hK' K' <;> (first | (show alist _ _ _ _ _ _; skip) | (intro s hs; cases hs; done) | assumption | (simp; done) | omega | (simp; omega) | skip)))) | refine al_e rfl rfl ?_ | refine al_u rfl rfl ?_ | ((fail_if_success (refine al_t rfl rfl fun K' hK' => ?_)); refine al_s _ rfl rfl rfl (fun hb => ?_) (fun hb => ?_)))); all_goals (refine al_nil ?_; (simp only [go_sem, simprocAttr, List.length_map, bne_self_eq_false, h0, h1]); refine hK _ ?_; clear hK K))
  (refine awp_reg_seq [0, 1, 7] fun K hK => ?_; (repeat' (first | ((first | refine al_r rfl fun K' hK' => ?_ | refine al_d rfl fun K' hK' => ?_ | refine al_t rfl rfl fun K' hK' => ?_); (repeat (first | (simp only [go_sem, simprocAttr, List.length_map, bne_self_eq_false, h0, h1]) | refine AS.mk ?_ | refine AAp.grow ?_)); (first | ((first | refine hK' _ _ ?_ | refine ⟨?_, hK' _ _ ?_⟩ | refine ⟨?_, ?_, hK' _ _ ?_⟩ | refine ⟨?_, ?_, ?_, hK' _ _ ?_⟩) <;> clear hK' K' <;> (first | (show alist _ _ _ _ _ _; skip) | (intro s hs; cases hs; done) | assumption | (simp; done) | omega | (simp; omega) | skip)) | ((show AC _ _ (D.fn 24 _) _ _); refine acall_p (f := 24) (e := rfl) (hr := rfl) (k := hK' _ _ ?_) (hc := Try.call24) (h := hpo); clear hK' K') | ((show AC _ _ (D.fn 24 _) _ _); refine acall_p (f := 24) (e := rfl) (hr := rfl) (k := hK' _ _ ?_) (hc := Try.call24) (h := hpo); clear hK' K'))) | refine al_e rfl rfl ?_ | refine al_u rfl rfl ?_ | ((fail_if_success (refine al_t rfl rfl fun K' hK' => ?_)); refine al_s _ rfl rfl rfl (fun hb => ?_) (fun hb => ?_)))); all_goals (refine al_nil ?_; (simp only [go_sem, simprocAttr, List.length_map, bne_self_eq_false, h0, h1]); refine hK _ ?_; clear hK K))
  refine awp_seq_k fun K hK => ?_
  (refine awp_reg_tov [0, 7, 32] [(0, lines ls), (7, iD e), (32, bD false)] (h := ?_) (k := ?_); · ((repeat' (first | ((first | refine al_r rfl fun K' hK' => ?_ | refine al_d rfl fun K' hK' => ?_ | refine al_t rfl rfl fun K' hK' => ?_); (repeat (first | (simp only [go_sem, simprocAttr, List.length_map, bne_self_eq_false, h0, h1]) | refine AS.mk ?_ | refine AAp.grow ?_)); (first | ((first | refine hK' _ _ ?_ | refine ⟨?_, hK' _ _ ?_⟩ | refine ⟨?_, ?_, hK' _ _ ?_⟩ | refine ⟨?_, ?_, ?_, hK' _ _ ?_⟩) <;> clear hK' K' <;> (first | (show alist _ _ _ _ _ _; skip) | (intro s hs; cases hs; done) | assumption | (simp; done) | omega | (simp; omega) | skip)) | ((show AC _ _ (D.fn 23 _) _ _); refine acall_p (f := 23) (e := rfl) (hr := rfl) (k := hK' _ _ ?_) (hc := Try.call23) (h := steals); clear hK' K') | ((show AC _ _ (D.fn 26 _) _ _); refine acall_p (f := 26) (e := rfl) (hr := rfl) (k := hK' _ _ ?_) (hc := Try.call26) (h := hck); clear hK' K') | ((show AC _ _ (D.fn 23 _) _ _); refine acall_p (f := 23) (e := rfl) (hr := rfl) (k := hK' _ _ ?_) (hc := Try.call23) (h := steals); clear hK' K') | ((show AC _ _ (D.fn 26 _) _ _); refine acall_p (f := 26) (e := rfl) (hr := rfl) (k := hK' _ _ ?_) (hc := Try.call26) (h := hck); clear hK' K'))) | refine al_e rfl rfl ?_ | refine al_u rfl rfl ?_ | ((fail_if_success (refine al_t rfl rfl fun K' hK' => ?_)); refine al_s _ rfl rfl rfl (fun hb => ?_) (fun hb => ?_)))); all_goals (refine al_nil ?_; simp only [go_sem, simprocAttr, List.length_map, bne_self_eq_false, h0, h1, *, Bool.and_true, Bool.and_false, Bool.true_and, Bool.false_and, Bool.or_true, Bool.true_or, Bool.or_false, Bool.false_or, Bool.not_true, Bool.not_false, Bool.false_eq_true]))); intro K hK; (simp only [go_sem, simprocAttr, List.length_map, bne_self_eq_false, h0, h1]); refine hK _ ?_; clear hK K
  refine awp_if (_) rfl (fun hc => ?_) (fun hc => ?_)
  · cases hc
  · refine awp_skip ?_
    refine hK _ ?_; clear hK K
    (refine awp_reg_seq [7, 8] fun K hK => ?_; (repeat' (first | ((first | refine al_r rfl fun K' hK' => ?_ | refine al_d rfl fun K' hK' => ?_ | refine al_t rfl rfl fun K' hK' => ?_); (repeat (first | (simp only [go_sem, simprocAttr, List.length_map, bne_self_eq_false, h0, h1]) | refine AS.mk ?_ | refine AAp.grow ?_)); (first | ((first | refine hK' _ _ ?_ | refine ⟨?_, hK' _ _ ?_⟩ | refine ⟨?_, ?_, hK' _ _ ?_⟩ | refine ⟨?_, ?_, ?_, hK' _ _ ?_⟩) <;> clear hK' K' <;> (first | (show alist _ _ _ _ _ _; skip) | (intro s hs; cases hs; done) | assumption | (simp; done) | omega | (simp; omega) | skip)) | ((show AC _ _ (D.fn 28 _) _ _); refine acall_new (f := 28) Try.call28 hcon rfl ?_; rintro r obs' ⟨rfl, rfl⟩; (simp only [go_sem, simprocAttr, List.length_map, bne_self_eq_false, h0, h1]); refine hK' _ _ ?_; clear hK' K'))) | refine al_e rfl rfl ?_ | refine al_u rfl rfl ?_ | ((fail_if_success (refine al_t rfl rfl fun K' hK' => ?_)); refine al_s _ rfl rfl rfl (fun hb => ?_) (fun hb => ?_)))); all_goals (refine al_nil ?_; (simp only [go_sem, simprocAttr, List.length_map, bne_self_eq_false, h0, h1]); refine hK _ ?_; clear hK K))
    refine awp_reg_tov [4] [(4, bD true)] (h := ?_) (k := ?_)
    · rcases he with ⟨rfl, hn⟩ | ⟨rfl, rfl⟩
      · have hp : decide ((n : Int) > 0) = true := by simp; omega

        ((repeat' (first | ((first | refine al_r rfl fun K' hK' => ?_ | refine al_d rfl fun K' hK' => ?_ | refine al_t rfl rfl fun K' hK' => ?_); (repeat (first | (simp only [go_sem, simprocAttr, hp, beq_self_eq_true]) | refine AS.mk ?_ | refine AAp.grow ?_)); (first | ((first | refine hK' _ _ ?_ | refine ⟨?_, hK' _ _ ?_⟩ | refine ⟨?_, ?_, hK' _ _ ?_⟩ | refine ⟨?_, ?_, ?_, hK' _ _ ?_⟩) <;> clear hK' K' <;> (first | (show alist _ _ _ _ _ _; skip) | (intro s hs; cases hs; done) | assumption | (simp; done) | omega | (simp; omega) | skip)))) | refine al_e rfl rfl ?_ | refine al_u rfl rfl ?_ | ((fail_if_success (refine al_t rfl rfl fun K' hK' => ?_)); refine al_s _ rfl rfl rfl (fun hb => ?_) (fun hb => ?_)))); all_goals (refine al_nil ?_; (first | (simp only [go_sem, simprocAttr, hp, beq_self_eq_true, *, Bool.and_true, Bool.and_false, Bool.true_and, Bool.false_and, Bool.or_true, Bool.true_or, Bool.or_false, Bool.false_or, Bool.not_true, Bool.not_false, Bool.false_eq_true]; done) | contradiction | (simp_all; done) | simp only [go_sem, simprocAttr, hp, beq_self_eq_true, *, Bool.and_true, Bool.and_false, Bool.true_and, Bool.false_and, Bool.or_true, Bool.true_or, Bool.or_false, Bool.false_or, Bool.not_true, Bool.not_false, Bool.false_eq_true])))

      · ((repeat' (first | ((first | refine al_r rfl fun K' hK' => ?_ | refine al_d rfl fun K' hK' => ?_ | refine al_t rfl rfl fun K' hK' => ?_); (repeat (first | (simp only [go_sem, simprocAttr, cast0, beq_self_eq_true]) | refine AS.mk ?_ | refine AAp.grow ?_)); (first | ((first | refine hK' _ _ ?_ | refine ⟨?_, hK' _ _ ?_⟩ | refine ⟨?_, ?_, hK' _ _ ?_⟩ | refine ⟨?_, ?_, ?_, hK' _ _ ?_⟩) <;> clear hK' K' <;> (first | (show alist _ _ _ _ _ _; skip) | (intro s hs; cases hs; done) | assumption | (simp; done) | omega | (simp; omega) | skip)))) | refine al_e rfl rfl ?_ | refine al_u rfl rfl ?_ | ((fail_if_success (refine al_t rfl rfl fun K' hK' => ?_)); refine al_s _ rfl rfl rfl (fun hb => ?_) (fun hb => ?_)))); all_goals (refine al_nil ?_; (first | (simp only [go_sem, simprocAttr, cast0, beq_self_eq_true, *, Bool.and_true, Bool.and_false, Bool.true_and, Bool.false_and, Bool.or_true, Bool.true_or, Bool.or_false, Bool.false_or, Bool.not_true, Bool.not_false, Bool.false_eq_true]; done) | contradiction | (simp_all; done) | simp only [go_sem, simprocAttr, cast0, beq_self_eq_true, *, Bool.and_true, Bool.and_false, Bool.true_and, Bool.false_and, Bool.or_true, Bool.true_or, Bool.or_false, Bool.false_or, Bool.not_true, Bool.not_false, Bool.false_eq_true])))

    (intro K hK; (simp only [go_sem, simprocAttr, List.length_map]); refine hK _ ?_; clear hK K)
    all_goals (refine awp_ret ?_; (first | refine hR _ _ (.inl rfl) rfl ?_ | refine hR _ _ (.inl rfl) rfl ?_ ?_); (first | (simp only [go_sem, simprocAttr, List.length_map, *, Bool.and_true, Bool.and_false, Bool.true_and, Bool.false_and, Bool.or_true, Bool.true_or, Bool.or_false, Bool.false_or, Bool.not_true, Bool.not_false, Bool.false_eq_true]; done) | contradiction | (simp_all; done) | simp only [go_sem, simprocAttr, List.length_map, *, Bool.and_true, Bool.and_false, Bool.true_and, Bool.false_and, Bool.or_true, Bool.true_or, Bool.or_false, Bool.false_or, Bool.not_true, Bool.not_false, Bool.false_eq_true]))

theorem busyTrue (ls : List (List Int)) (cpu : Int) (hf : Fits ls) : ACallP Try.prog 9 [lines ls, iD cpu] (bD true) := by
  have hpo := pop ls cpu hf
  have hck := check ls (by have := hf.1; simp [maxLen]; omega) hf.2
  by_cases h : checkC ls cpu = 0
  · obtain ⟨hcs, h1, h2⟩ := checkC_iff.1 h
    obtain ⟨c, rfl⟩ := Int.eq_ofNat_of_zero_le h1
    rw [hcs] at hck
    have hcon := concat ls hf (checkS_sum hcs)
    refine busyGood ls _ c _ _ _ _ hpo hck (by simp) (by simp; omega) hcon ?_
    rcases pop_err h with ⟨g1, g2⟩ | ⟨g1, g2⟩
    · exact .inl ⟨g1, g2⟩
    · exact .inr ⟨g1, g2⟩
  · rw [pop_bad h] at hpo
    refine busyBad ls _ cpu _ _ _ (by simpa using h) hpo hck ?_
    by_cases hk : checkS ls = 0
    · have : ¬ (0 ≤ cpu ∧ cpu < ls.length) := fun h2 => h (checkC_iff.2 ⟨hk, h2.1, h2.2⟩)
      rw [hk]
      simp; omega
    · simp [hk]
end Go.Proofs.Ytjaghpkmbgcabaa.P
