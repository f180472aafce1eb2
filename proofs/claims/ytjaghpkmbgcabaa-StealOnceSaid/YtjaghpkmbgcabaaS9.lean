/- What the function of the statement StealOwn answers. -/
import Derived.Test.YtjaghpkmbgcabaaS7
import Derived.Test.YtjaghpkmbgcabaaS8
set_option linter.unusedSimpArgs false
set_option linter.unusedVariables false
set_option maxHeartbeats 1000000
namespace Go.Proofs.Ytjaghpkmbgcabaa.P
open Go.Ab Go.Proofs.Ytjaghpkmbgcabaa.T


theorem sameIntsI (a b : List Int) (ha : a.length ≤ maxLen) : ACallP Try.prog 40 [ints a, ints b] (bD (listEq eqI a b)) := by
  refine acallp_fn [4] Try.func40 rfl rfl Try.ntmps40 (by simp) fun R hR => ?_
  (refine awp_reg_seq [0, 1] fun K hK => ?_; (repeat' (first | ((first | refine al_r rfl fun K' hK' => ?_ | refine al_d rfl fun K' hK' => ?_ | refine al_t rfl rfl fun K' hK' => ?_); (repeat (first | (simp only [go_sem, simprocAttr, List.length_map]) | refine AS.mk ?_ | refine AAp.grow ?_)); (first | ((first | refine hK' _ _ ?_ | refine ⟨?_, hK' _ _ ?_⟩ | refine ⟨?_, ?_, hK' _ _ ?_⟩ | refine ⟨?_, ?_, ?_, hK' _ _ ?_⟩) <;> clear hK' K' <;> (first | (show alist _ _ _ _ _ _; skip) | (intro s hs; cases hs; done) | assumption | (simp; done) | omega | (simp; omega) | skip)))) | refine al_e rfl rfl ?_ | refine al_u rfl rfl ?_ | ((fail_if_success (refine al_t rfl rfl fun K' hK' => ?_)); refine al_s _ rfl rfl rfl (fun hb => ?_) (fun hb => ?_)))); all_goals (refine al_nil ?_; (simp only [go_sem, simprocAttr, List.length_map]); refine hK _ ?_; clear hK K))
  refine awp_seq_k fun K hK => ?_
  (refine awp_reg_seq [0, 1, 10] fun K hK => ?_; (repeat' (first | ((first | refine al_r rfl fun K' hK' => ?_ | refine al_d rfl fun K' hK' => ?_ | refine al_t rfl rfl fun K' hK' => ?_); (repeat (first | (simp only [go_sem, simprocAttr, List.length_map]) | refine AS.mk ?_ | refine AAp.grow ?_)); (first | ((first | refine hK' _ _ ?_ | refine ⟨?_, hK' _ _ ?_⟩ | refine ⟨?_, ?_, hK' _ _ ?_⟩ | refine ⟨?_, ?_, ?_, hK' _ _ ?_⟩) <;> clear hK' K' <;> (first | (show alist _ _ _ _ _ _; skip) | (intro s hs; cases hs; done) | assumption | (simp; done) | omega | (simp; omega) | skip)))) | refine al_e rfl rfl ?_ | refine al_u rfl rfl ?_ | ((fail_if_success (refine al_t rfl rfl fun K' hK' => ?_)); refine al_s _ rfl rfl rfl (fun hb => ?_) (fun hb => ?_)))); all_goals (refine al_nil ?_; (simp only [go_sem, simprocAttr, List.length_map]); refine hK _ ?_; clear hK K))
  refine awp_if (_) rfl (fun hc => ?_) (fun hc => ?_)
  · have hl : a.length ≠ b.length := by
      intro e; rw [e] at hc; simp at hc
    rw [listEq_len hl] at hR
    (refine awp_reg_seq [4] fun K hK => ?_; (repeat' (first | ((first | refine al_r rfl fun K' hK' => ?_ | refine al_d rfl fun K' hK' => ?_ | refine al_t rfl rfl fun K' hK' => ?_); (repeat (first | (simp only [go_sem, simprocAttr, List.length_map]) | refine AS.mk ?_ | refine AAp.grow ?_)); (first | ((first | refine hK' _ _ ?_ | refine ⟨?_, hK' _ _ ?_⟩ | refine ⟨?_, ?_, hK' _ _ ?_⟩ | refine ⟨?_, ?_, ?_, hK' _ _ ?_⟩) <;> clear hK' K' <;> (first | (show alist _ _ _ _ _ _; skip) | (intro s hs; cases hs; done) | assumption | (simp; done) | omega | (simp; omega) | skip)))) | refine al_e rfl rfl ?_ | refine al_u rfl rfl ?_ | ((fail_if_success (refine al_t rfl rfl fun K' hK' => ?_)); refine al_s _ rfl rfl rfl (fun hb => ?_) (fun hb => ?_)))); all_goals (refine al_nil ?_; (simp only [go_sem, simprocAttr, List.length_map]); refine hK _ ?_; clear hK K))
    refine awp_ret ?_; (first | refine hR _ _ (.inl rfl) rfl ?_ | refine hR _ _ (.inl rfl) rfl ?_ ?_)
    simp only [go_sem, simprocAttr, List.length_map]
  · have hl : a.length = b.length := by
      have : ((a.length : Int) != b.length) = false := hc
      simp at this; omega
    refine awp_skip ?_
    refine hK _ ?_; clear hK K
    refine awp_seq_k fun K hK => ?_
    (refine awp_reg_seq [0, 1, 12, 13] fun K hK => ?_; (repeat' (first | ((first | refine al_r rfl fun K' hK' => ?_ | refine al_d rfl fun K' hK' => ?_ | refine al_t rfl rfl fun K' hK' => ?_); (repeat (first | (simp only [go_sem, simprocAttr, List.length_map]) | refine AS.mk ?_ | refine AAp.grow ?_)); (first | ((first | refine hK' _ _ ?_ | refine ⟨?_, hK' _ _ ?_⟩ | refine ⟨?_, ?_, hK' _ _ ?_⟩ | refine ⟨?_, ?_, ?_, hK' _ _ ?_⟩) <;> clear hK' K' <;> (first | (show alist _ _ _ _ _ _; skip) | (intro s hs; cases hs; done) | assumption | (simp; done) | omega | (simp; omega) | skip)))) | refine al_e rfl rfl ?_ | refine al_u rfl rfl ?_ | ((fail_if_success (refine al_t rfl rfl fun K' hK' => ?_)); refine al_s _ rfl rfl rfl (fun hb => ?_) (fun hb => ?_)))); all_goals (refine al_nil ?_; (simp only [go_sem, simprocAttr, List.length_map]); refine hK _ ?_; clear hK K))
    refine awp_block ?_
    refine awp_loop (fun m s => ∃ i : Nat, i ≤ a.length ∧ m = a.length - i ∧ (∀ (j : Nat) x y, j < i → a[j]? = some x → b[j]? = some y → eqI x y = true) ∧ s = ⟨ofL [(0, ints a), (1, ints b), (12, iD a.length), (13, iD i)], [], 0⟩) ⟨_, 0, Nat.zero_le _, rfl, fun j _ _ hj => absurd hj (by omega), rfl⟩ ?_
    rintro m s ⟨i, hi, rfl, hbefore, rfl⟩
    (refine awp_reg_seq [0, 1, 12, 13, 14] fun K hK => ?_; (repeat' (first | ((first | refine al_r rfl fun K' hK' => ?_ | refine al_d rfl fun K' hK' => ?_ | refine al_t rfl rfl fun K' hK' => ?_); (repeat (first | (simp only [go_sem, simprocAttr, List.length_map]) | refine AS.mk ?_ | refine AAp.grow ?_)); (first | ((first | refine hK' _ _ ?_ | refine ⟨?_, hK' _ _ ?_⟩ | refine ⟨?_, ?_, hK' _ _ ?_⟩ | refine ⟨?_, ?_, ?_, hK' _ _ ?_⟩) <;> clear hK' K' <;> (first | (show alist _ _ _ _ _ _; skip) | (intro s hs; cases hs; done) | assumption | (simp; done) | omega | (simp; omega) | skip)))) | refine al_e rfl rfl ?_ | refine al_u rfl rfl ?_ | ((fail_if_success (refine al_t rfl rfl fun K' hK' => ?_)); refine al_s _ rfl rfl rfl (fun hb => ?_) (fun hb => ?_)))); all_goals (refine al_nil ?_; (simp only [go_sem, simprocAttr, List.length_map]); refine hK _ ?_; clear hK K))
    refine awp_seq_k fun K hK => ?_
    refine awp_if (decide ((i : Int) < a.length)) rfl (fun hc => ?_) (fun hc => ?_)
    · refine awp_skip ?_
      refine hK _ ?_; clear hK K
      have hi2 : i < a.length := by simpa using hc
      obtain ⟨x, hx⟩ := get_of_lt hi2
      obtain ⟨y, hy⟩ := get_of_lt (l := b) (i := i) (by omega)
      have hnn : (0 : Int) ≤ (i : Int) := Int.natCast_nonneg i

      refine awp_seq_k fun K hK => ?_
      refine awp_block ?_
      (refine awp_reg_seq [0, 1, 5, 12, 13] fun K hK => ?_; (repeat' (first | ((first | refine al_r rfl fun K' hK' => ?_ | refine al_d rfl fun K' hK' => ?_ | refine al_t rfl rfl fun K' hK' => ?_); (repeat (first | (simp only [go_sem, simprocAttr, hx, hy, hnn, List.length_map, List.getElem?_map, Int.toNat_natCast, Option.map_some, List.length_map]) | refine AS.mk ?_ | refine AAp.grow ?_)); (first | ((first | refine hK' _ _ ?_ | refine ⟨?_, hK' _ _ ?_⟩ | refine ⟨?_, ?_, hK' _ _ ?_⟩ | refine ⟨?_, ?_, ?_, hK' _ _ ?_⟩) <;> clear hK' K' <;> (first | (show alist _ _ _ _ _ _; skip) | (intro s hs; cases hs; done) | assumption | (simp; done) | omega | (simp; omega) | skip)))) | refine al_e rfl rfl ?_ | refine al_u rfl rfl ?_ | ((fail_if_success (refine al_t rfl rfl fun K' hK' => ?_)); refine al_s _ rfl rfl rfl (fun hb => ?_) (fun hb => ?_)))); all_goals (refine al_nil ?_; (simp only [go_sem, simprocAttr, hx, hy, hnn, List.length_map, List.getElem?_map, Int.toNat_natCast, Option.map_some, List.length_map]); refine hK _ ?_; clear hK K))
      refine awp_draw_seq (by kernel_rfl) [0, 1, 12, 13, 24] fun K hK => ?_
      (first | (first | refine ah_r 0 rfl (by kernel_rfl) rfl fun K' hK' => ?_ | refine ah_t 0 rfl (by kernel_rfl) rfl rfl fun K' hK' => ?_); (simp only [go_sem, simprocAttr, hx, hy, hnn, List.length_map, List.getElem?_map, Int.toNat_natCast, Option.map_some, List.length_map]); (first | (refine hK' _ ?_); clear hK' K' | ((first | refine ⟨?_, hK' _ ?_⟩ | refine ⟨?_, ?_, hK' _ ?_⟩) <;> clear hK' K' <;> (first | (show alist _ _ _ _ _ _; skip) | (intro s hs; cases hs; done) | assumption | (simp; done) | omega | (simp; omega) | skip))) | refine ah_e 0 rfl (by kernel_rfl) rfl rfl ?_ | refine ah_u 0 rfl (by kernel_rfl) rfl rfl ?_)
      (first | (first | refine ah_r 1 rfl (by kernel_rfl) rfl fun K' hK' => ?_ | refine ah_t 1 rfl (by kernel_rfl) rfl rfl fun K' hK' => ?_); (simp only [go_sem, simprocAttr, hx, hy, hnn, List.length_map, List.getElem?_map, Int.toNat_natCast, Option.map_some, List.length_map]); (first | (refine hK' _ ?_); clear hK' K' | ((first | refine ⟨?_, hK' _ ?_⟩ | refine ⟨?_, ?_, hK' _ ?_⟩) <;> clear hK' K' <;> (first | (show alist _ _ _ _ _ _; skip) | (intro s hs; cases hs; done) | assumption | (simp; done) | omega | (simp; omega) | skip))) | refine ah_e 1 rfl (by kernel_rfl) rfl rfl ?_ | refine ah_u 1 rfl (by kernel_rfl) rfl rfl ?_)
      (first | (first | refine ah_r 2 rfl (by kernel_rfl) rfl fun K' hK' => ?_ | refine ah_t 2 rfl (by kernel_rfl) rfl rfl fun K' hK' => ?_); (simp only [go_sem, simprocAttr, hx, hy, hnn, List.length_map, List.getElem?_map, Int.toNat_natCast, Option.map_some, List.length_map]); (first | (refine hK' _ ?_); clear hK' K' | ((first | refine ⟨?_, hK' _ ?_⟩ | refine ⟨?_, ?_, hK' _ ?_⟩) <;> clear hK' K' <;> (first | (show alist _ _ _ _ _ _; skip) | (intro s hs; cases hs; done) | assumption | (simp; done) | omega | (simp; omega) | skip))) | refine ah_e 2 rfl (by kernel_rfl) rfl rfl ?_ | refine ah_u 2 rfl (by kernel_rfl) rfl rfl ?_)
      (first | (first | refine ah_r 3 rfl (by kernel_rfl) rfl fun K' hK' => ?_ | refine ah_t 3 rfl (by kernel_rfl) rfl rfl fun K' hK' => ?_); (simp only [go_sem, simprocAttr, hx, hy, hnn, List.length_map, List.getElem?_map, Int.toNat_natCast, Option.map_some, List.length_map]); (first | (refine hK' _ ?_); clear hK' K' | ((first | refine ⟨?_, hK' _ ?_⟩ | refine ⟨?_, ?_, hK' _ ?_⟩) <;> clear hK' K' <;> (first | (show alist _ _ _ _ _ _; skip) | (intro s hs; cases hs; done) | assumption | (simp; done) | omega | (simp; omega) | skip))) | refine ah_e 3 rfl (by kernel_rfl) rfl rfl ?_ | refine ah_u 3 rfl (by kernel_rfl) rfl rfl ?_)
      (first | (first | refine ah_r 4 rfl (by kernel_rfl) rfl fun K' hK' => ?_ | refine ah_t 4 rfl (by kernel_rfl) rfl rfl fun K' hK' => ?_); (simp only [go_sem, simprocAttr, hx, hy, hnn, List.length_map, List.getElem?_map, Int.toNat_natCast, Option.map_some, List.length_map]); (first | (refine hK' _ ?_); clear hK' K' | ((first | refine ⟨?_, hK' _ ?_⟩ | refine ⟨?_, ?_, hK' _ ?_⟩) <;> clear hK' K' <;> (first | (show alist _ _ _ _ _ _; skip) | (intro s hs; cases hs; done) | assumption | (simp; done) | omega | (simp; omega) | skip))) | refine ah_e 4 rfl (by kernel_rfl) rfl rfl ?_ | refine ah_u 4 rfl (by kernel_rfl) rfl rfl ?_)
      (first | (first | refine ah_r 5 rfl (by kernel_rfl) rfl fun K' hK' => ?_ | refine ah_t 5 rfl (by kernel_rfl) rfl rfl fun K' hK' => ?_); (simp only [go_sem, simprocAttr, hx, hy, hnn, List.length_map, List.getElem?_map, Int.toNat_natCast, Option.map_some, List.length_map]); (first | (refine hK' _ ?_); clear hK' K' | ((first | refine ⟨?_, hK' _ ?_⟩ | refine ⟨?_, ?_, hK' _ ?_⟩) <;> clear hK' K' <;> (first | (show alist _ _ _ _ _ _; skip) | (intro s hs; cases hs; done) | assumption | (simp; done) | omega | (simp; omega) | skip))) | refine ah_e 5 rfl (by kernel_rfl) rfl rfl ?_ | refine ah_u 5 rfl (by kernel_rfl) rfl rfl ?_)
      (first | (first | refine ah_r 6 rfl (by kernel_rfl) rfl fun K' hK' => ?_ | refine ah_t 6 rfl (by kernel_rfl) rfl rfl fun K' hK' => ?_); (simp only [go_sem, simprocAttr, hx, hy, hnn, List.length_map, List.getElem?_map, Int.toNat_natCast, Option.map_some, List.length_map]); (first | (refine hK' _ ?_); clear hK' K' | ((first | refine ⟨?_, hK' _ ?_⟩ | refine ⟨?_, ?_, hK' _ ?_⟩) <;> clear hK' K' <;> (first | (show alist _ _ _ _ _ _; skip) | (intro s hs; cases hs; done) | assumption | (simp; done) | omega | (simp; omega) | skip))) | refine ah_e 6 rfl (by kernel_rfl) rfl rfl ?_ | refine ah_u 6 rfl (by kernel_rfl) rfl rfl ?_)
      (first | (first | refine ah_r 7 rfl (by kernel_rfl) rfl fun K' hK' => ?_ | refine ah_t 7 rfl (by kernel_rfl) rfl rfl fun K' hK' => ?_); (simp only [go_sem, simprocAttr, hx, hy, hnn, List.length_map, List.getElem?_map, Int.toNat_natCast, Option.map_some, List.length_map]); (first | (refine hK' _ ?_); clear hK' K' | ((first | refine ⟨?_, hK' _ ?_⟩ | refine ⟨?_, ?_, hK' _ ?_⟩) <;> clear hK' K' <;> (first | (show alist _ _ _ _ _ _; skip) | (intro s hs; cases hs; done) | assumption | (simp; done) | omega | (simp; omega) | skip))) | refine ah_e 7 rfl (by kernel_rfl) rfl rfl ?_ | refine ah_u 7 rfl (by kernel_rfl) rfl rfl ?_)
      (first | (first | refine ah_r 8 rfl (by kernel_rfl) rfl fun K' hK' => ?_ | refine ah_t 8 rfl (by kernel_rfl) rfl rfl fun K' hK' => ?_); (simp only [go_sem, simprocAttr, hx, hy, hnn, List.length_map, List.getElem?_map, Int.toNat_natCast, Option.map_some, List.length_map]); (first | (refine hK' _ ?_); clear hK' K' | ((first | refine ⟨?_, hK' _ ?_⟩ | refine ⟨?_, ?_, hK' _ ?_⟩) <;> clear hK' K' <;> (first | (show alist _ _ _ _ _ _; skip) | (intro s hs; cases hs; done) | assumption | (simp; done) | omega | (simp; omega) | skip))) | refine ah_e 8 rfl (by kernel_rfl) rfl rfl ?_ | refine ah_u 8 rfl (by kernel_rfl) rfl rfl ?_)
      (refine ah_done (by kernel_rfl) ?_; (simp only [go_sem, simprocAttr, hx, hy, hnn, List.length_map, List.getElem?_map, Int.toNat_natCast, Option.map_some, List.length_map]); refine hK _ ?_; clear hK K)
      refine awp_if (!(eqI x y)) rfl (fun hc => ?_) (fun hc => ?_)
      · have he : eqI x y = false := by simpa using hc
        rw [listEq_not hx hy he] at hR
        (refine awp_reg_seq [4] fun K hK => ?_; (repeat' (first | ((first | refine al_r rfl fun K' hK' => ?_ | refine al_d rfl fun K' hK' => ?_ | refine al_t rfl rfl fun K' hK' => ?_); (repeat (first | (simp only [go_sem, simprocAttr, hx, hy, hnn, List.length_map, List.getElem?_map, Int.toNat_natCast, Option.map_some, List.length_map]) | refine AS.mk ?_ | refine AAp.grow ?_)); (first | ((first | refine hK' _ _ ?_ | refine ⟨?_, hK' _ _ ?_⟩ | refine ⟨?_, ?_, hK' _ _ ?_⟩ | refine ⟨?_, ?_, ?_, hK' _ _ ?_⟩) <;> clear hK' K' <;> (first | (show alist _ _ _ _ _ _; skip) | (intro s hs; cases hs; done) | assumption | (simp; done) | omega | (simp; omega) | skip)))) | refine al_e rfl rfl ?_ | refine al_u rfl rfl ?_ | ((fail_if_success (refine al_t rfl rfl fun K' hK' => ?_)); refine al_s _ rfl rfl rfl (fun hb => ?_) (fun hb => ?_)))); all_goals (refine al_nil ?_; (simp only [go_sem, simprocAttr, hx, hy, hnn, List.length_map, List.getElem?_map, Int.toNat_natCast, Option.map_some, List.length_map]); refine hK _ ?_; clear hK K))
        refine awp_ret ?_; (first | refine hR _ _ (.inl rfl) rfl ?_ | refine hR _ _ (.inl rfl) rfl ?_ ?_)
        simp only [go_sem, simprocAttr, hx, hy, hnn, List.length_map, List.getElem?_map, Int.toNat_natCast, Option.map_some, List.length_map]
      · have he : eqI x y = true := by simpa using hc
        refine awp_skip ?_
        refine hK _ ?_; clear hK K
        (refine awp_reg_end [0, 1, 12, 13] fun K hK => ?_; (repeat' (first | ((first | refine al_r rfl fun K' hK' => ?_ | refine al_d rfl fun K' hK' => ?_ | refine al_t rfl rfl fun K' hK' => ?_); (repeat (first | (simp only [go_sem, simprocAttr, hx, hy, hnn, List.length_map, List.getElem?_map, Int.toNat_natCast, Option.map_some, List.length_map]) | refine AS.mk ?_ | refine AAp.grow ?_)); (first | ((first | refine hK' _ _ ?_ | refine ⟨?_, hK' _ _ ?_⟩ | refine ⟨?_, ?_, hK' _ _ ?_⟩ | refine ⟨?_, ?_, ?_, hK' _ _ ?_⟩) <;> clear hK' K' <;> (first | (show alist _ _ _ _ _ _; skip) | (intro s hs; cases hs; done) | assumption | (simp; done) | omega | (simp; omega) | skip)))) | refine al_e rfl rfl ?_ | refine al_u rfl rfl ?_ | ((fail_if_success (refine al_t rfl rfl fun K' hK' => ?_)); refine al_s _ rfl rfl rfl (fun hb => ?_) (fun hb => ?_)))); all_goals (refine al_nil ?_; (simp only [go_sem, simprocAttr, hx, hy, hnn, List.length_map, List.getElem?_map, Int.toNat_natCast, Option.map_some, List.length_map]); refine hK _ ?_; clear hK K))
        refine ⟨_, ?_, i + 1, hi2, rfl, ?_, ?_⟩
        · omega
        · intro j u v hj hu hv
          by_cases e : j = i
          · subst e; rw [hx] at hu; rw [hy] at hv; cases hu; cases hv; exact he
          · exact hbefore j u v (by omega) hu hv
        · rw [wrap_next hi2 ha]

    · refine awp_exit ?_
      clear hK
      refine hK _ ?_; clear hK K
      have hi2 : i = a.length := by simp at hc; omega
      have hfin : listEq eqI a b = true := listEq_of hl fun j x y hx hy => hbefore j x y (by have := lt_of_get hx; omega) hx hy
      rw [hfin] at hR
      (refine awp_reg_seq [4] fun K hK => ?_; (repeat' (first | ((first | refine al_r rfl fun K' hK' => ?_ | refine al_d rfl fun K' hK' => ?_ | refine al_t rfl rfl fun K' hK' => ?_); (repeat (first | (simp only [go_sem, simprocAttr, List.length_map]) | refine AS.mk ?_ | refine AAp.grow ?_)); (first | ((first | refine hK' _ _ ?_ | refine ⟨?_, hK' _ _ ?_⟩ | refine ⟨?_, ?_, hK' _ _ ?_⟩ | refine ⟨?_, ?_, ?_, hK' _ _ ?_⟩) <;> clear hK' K' <;> (first | (show alist _ _ _ _ _ _; skip) | (intro s hs; cases hs; done) | assumption | (simp; done) | omega | (simp; omega) | skip)))) | refine al_e rfl rfl ?_ | refine al_u rfl rfl ?_ | ((fail_if_success (refine al_t rfl rfl fun K' hK' => ?_)); refine al_s _ rfl rfl rfl (fun hb => ?_) (fun hb => ?_)))); all_goals (refine al_nil ?_; (simp only [go_sem, simprocAttr, List.length_map]); refine hK _ ?_; clear hK K))
      refine awp_ret ?_; (first | refine hR _ _ (.inl rfl) rfl ?_ | refine hR _ _ (.inl rfl) rfl ?_ ?_)
      simp only [go_sem, simprocAttr, List.length_map]


theorem sameInts (l : List Int) (h : l.length ≤ maxLen) : ACallP Try.prog 40 [ints l, ints l] (bD true) := by
  have heq := sameIntsI l l h
  rw [(listEq_iff eqI_iff).2 rfl] at heq
  exact heq


theorem sameLines (ls : List (List Int)) (hf : Fits ls) : ACallP Try.prog 25 [lines ls, lines ls] (bD true) := by
  refine acallp_fn [4] Try.func25 rfl rfl Try.ntmps25 (by simp) fun R hR => ?_
  (refine awp_reg_seq [0, 1] fun K hK => ?_; (repeat' (first | ((first | refine al_r rfl fun K' hK' => ?_ | refine al_d rfl fun K' hK' => ?_ | refine al_t rfl rfl fun K' hK' => ?_); (repeat (first | (simp only [go_sem, simprocAttr, List.length_map, bne_self_eq_false]) | refine AS.mk ?_ | refine AAp.grow ?_)); (first | ((first | refine hK' _ _ ?_ | refine ⟨?_, hK' _ _ ?_⟩ | refine ⟨?_, ?_, hK' _ _ ?_⟩ | refine ⟨?_, ?_, ?_, hK' _ _ ?_⟩) <;> clear hK' K' <;> (first | (show alist _ _ _ _ _ _; skip) | (intro s hs; cases hs; done) | assumption | (simp; done) | omega | (simp; omega) | skip)))) | refine al_e rfl rfl ?_ | refine al_u rfl rfl ?_ | ((fail_if_success (refine al_t rfl rfl fun K' hK' => ?_)); refine al_s _ rfl rfl rfl (fun hb => ?_) (fun hb => ?_)))); all_goals (refine al_nil ?_; (simp only [go_sem, simprocAttr, List.length_map, bne_self_eq_false]); refine hK _ ?_; clear hK K))
  refine awp_seq_k fun K hK => ?_
  (refine awp_reg_seq [0, 1, 10] fun K hK => ?_; (repeat' (first | ((first | refine al_r rfl fun K' hK' => ?_ | refine al_d rfl fun K' hK' => ?_ | refine al_t rfl rfl fun K' hK' => ?_); (repeat (first | (simp only [go_sem, simprocAttr, List.length_map, bne_self_eq_false]) | refine AS.mk ?_ | refine AAp.grow ?_)); (first | ((first | refine hK' _ _ ?_ | refine ⟨?_, hK' _ _ ?_⟩ | refine ⟨?_, ?_, hK' _ _ ?_⟩ | refine ⟨?_, ?_, ?_, hK' _ _ ?_⟩) <;> clear hK' K' <;> (first | (show alist _ _ _ _ _ _; skip) | (intro s hs; cases hs; done) | assumption | (simp; done) | omega | (simp; omega) | skip)))) | refine al_e rfl rfl ?_ | refine al_u rfl rfl ?_ | ((fail_if_success (refine al_t rfl rfl fun K' hK' => ?_)); refine al_s _ rfl rfl rfl (fun hb => ?_) (fun hb => ?_)))); all_goals (refine al_nil ?_; (simp only [go_sem, simprocAttr, List.length_map, bne_self_eq_false]); refine hK _ ?_; clear hK K))
  refine awp_if (_) rfl (fun hc => ?_) (fun hc => ?_)
  · cases hc
  · refine awp_skip ?_
    refine hK _ ?_; clear hK K
    refine awp_seq_k fun K hK => ?_
    (refine awp_reg_seq [0, 1, 12, 13] fun K hK => ?_; (repeat' (first | ((first | refine al_r rfl fun K' hK' => ?_ | refine al_d rfl fun K' hK' => ?_ | refine al_t rfl rfl fun K' hK' => ?_); (repeat (first | (simp only [go_sem, simprocAttr, List.length_map, bne_self_eq_false]) | refine AS.mk ?_ | refine AAp.grow ?_)); (first | ((first | refine hK' _ _ ?_ | refine ⟨?_, hK' _ _ ?_⟩ | refine ⟨?_, ?_, hK' _ _ ?_⟩ | refine ⟨?_, ?_, ?_, hK' _ _ ?_⟩) <;> clear hK' K' <;> (first | (show alist _ _ _ _ _ _; skip) | (intro s hs; cases hs; done) | assumption | (simp; done) | omega | (simp; omega) | skip)))) | refine al_e rfl rfl ?_ | refine al_u rfl rfl ?_ | ((fail_if_success (refine al_t rfl rfl fun K' hK' => ?_)); refine al_s _ rfl rfl rfl (fun hb => ?_) (fun hb => ?_)))); all_goals (refine al_nil ?_; (simp only [go_sem, simprocAttr, List.length_map, bne_self_eq_false]); refine hK _ ?_; clear hK K))
    refine awp_block ?_
    -- loop 0 head [0, 1, 12, 13]
    refine awp_loop (fun m s => ∃ i : Nat, i ≤ ls.length ∧ m = ls.length - i ∧ s = ⟨ofL [(0, lines ls), (1, lines ls), (12, iD ls.length), (13, iD i)], [], 0⟩) ⟨_, 0, Nat.zero_le _, rfl, rfl⟩ ?_
    rintro m s ⟨i, hi, rfl, rfl⟩
    (refine awp_reg_seq [0, 1, 12, 13, 14] fun K hK => ?_; (repeat' (first | ((first | refine al_r rfl fun K' hK' => ?_ | refine al_d rfl fun K' hK' => ?_ | refine al_t rfl rfl fun K' hK' => ?_); (repeat (first | (simp only [go_sem, simprocAttr, List.length_map, bne_self_eq_false]) | refine AS.mk ?_ | refine AAp.grow ?_)); (first | ((first | refine hK' _ _ ?_ | refine ⟨?_, hK' _ _ ?_⟩ | refine ⟨?_, ?_, hK' _ _ ?_⟩ | refine ⟨?_, ?_, ?_, hK' _ _ ?_⟩) <;> clear hK' K' <;> (first | (show alist _ _ _ _ _ _; skip) | (intro s hs; cases hs; done) | assumption | (simp; done) | omega | (simp; omega) | skip)))) | refine al_e rfl rfl ?_ | refine al_u rfl rfl ?_ | ((fail_if_success (refine al_t rfl rfl fun K' hK' => ?_)); refine al_s _ rfl rfl rfl (fun hb => ?_) (fun hb => ?_)))); all_goals (refine al_nil ?_; (simp only [go_sem, simprocAttr, List.length_map, bne_self_eq_false]); refine hK _ ?_; clear hK K))
    refine awp_seq_k fun K hK => ?_
    refine awp_if (decide ((i : Int) < (ls.length : Int))) rfl (fun hc => ?_) (fun hc => ?_)
    · refine awp_skip ?_
      refine hK _ ?_; clear hK K
      refine awp_seq_k fun K hK => ?_
      refine awp_block ?_
      have hi2 : i < ls.length := by simpa using hc
      obtain ⟨x, hget⟩ := get_of_lt hi2
      have hsi := sameInts x (by have := hf.2 x (List.mem_of_getElem? hget); simp [maxLen]; omega)
      have hnn : (0 : Int) ≤ (i : Int) := Int.natCast_nonneg i
      have hnx : IntKind.i64.wrap ((i : Int) + 1) = ((i + 1 : Nat) : Int) := wrap_next hi2 (by have := hf.1; simp [maxLen]; omega)

      (refine awp_reg_seq [0, 1, 5, 12, 13] fun K hK => ?_; (repeat' (first | ((first | refine al_r rfl fun K' hK' => ?_ | refine al_d rfl fun K' hK' => ?_ | refine al_t rfl rfl fun K' hK' => ?_); (repeat (first | (simp only [go_sem, simprocAttr, hget, hnn, hi2, hnx, Int.toNat_natCast, List.getElem?_map, Option.map_some, List.length_map]) | refine AS.mk ?_ | refine AAp.grow ?_)); (first | ((first | refine hK' _ _ ?_ | refine ⟨?_, hK' _ _ ?_⟩ | refine ⟨?_, ?_, hK' _ _ ?_⟩ | refine ⟨?_, ?_, ?_, hK' _ _ ?_⟩) <;> clear hK' K' <;> (first | (show alist _ _ _ _ _ _; skip) | (intro s hs; cases hs; done) | assumption | (simp; done) | omega | (simp; omega) | skip)))) | refine al_e rfl rfl ?_ | refine al_u rfl rfl ?_ | ((fail_if_success (refine al_t rfl rfl fun K' hK' => ?_)); refine al_s _ rfl rfl rfl (fun hb => ?_) (fun hb => ?_)))); all_goals (refine al_nil ?_; (simp only [go_sem, simprocAttr, hget, hnn, hi2, hnx, Int.toNat_natCast, List.getElem?_map, Option.map_some, List.length_map]); refine hK _ ?_; clear hK K))
      refine awp_draw_seq (by kernel_rfl) [0, 1, 12, 13, 25] fun K hK => ?_
      (first | (first | refine ah_r 0 rfl (by kernel_rfl) rfl fun K' hK' => ?_ | refine ah_t 0 rfl (by kernel_rfl) rfl rfl fun K' hK' => ?_); (simp only [go_sem, simprocAttr, hget, hnn, hi2, hnx, Int.toNat_natCast, List.getElem?_map, Option.map_some, List.length_map]); (first | (refine hK' _ ?_); clear hK' K' | ((first | refine ⟨?_, hK' _ ?_⟩ | refine ⟨?_, ?_, hK' _ ?_⟩) <;> clear hK' K' <;> (first | (show alist _ _ _ _ _ _; skip) | (intro s hs; cases hs; done) | assumption | (simp; done) | omega | (simp; omega) | skip))) | refine ah_e 0 rfl (by kernel_rfl) rfl rfl ?_ | refine ah_u 0 rfl (by kernel_rfl) rfl rfl ?_)
      (first | (first | refine ah_r 1 rfl (by kernel_rfl) rfl fun K' hK' => ?_ | refine ah_t 1 rfl (by kernel_rfl) rfl rfl fun K' hK' => ?_); (simp only [go_sem, simprocAttr, hget, hnn, hi2, hnx, Int.toNat_natCast, List.getElem?_map, Option.map_some, List.length_map]); (first | (refine hK' _ ?_); clear hK' K' | ((first | refine ⟨?_, hK' _ ?_⟩ | refine ⟨?_, ?_, hK' _ ?_⟩) <;> clear hK' K' <;> (first | (show alist _ _ _ _ _ _; skip) | (intro s hs; cases hs; done) | assumption | (simp; done) | omega | (simp; omega) | skip))) | refine ah_e 1 rfl (by kernel_rfl) rfl rfl ?_ | refine ah_u 1 rfl (by kernel_rfl) rfl rfl ?_)
      (first | (first | refine ah_r 2 rfl (by kernel_rfl) rfl fun K' hK' => ?_ | refine ah_t 2 rfl (by kernel_rfl) rfl rfl fun K' hK' => ?_); (simp only [go_sem, simprocAttr, hget, hnn, hi2, hnx, Int.toNat_natCast, List.getElem?_map, Option.map_some, List.length_map]); (first | (refine hK' _ ?_); clear hK' K' | ((first | refine ⟨?_, hK' _ ?_⟩ | refine ⟨?_, ?_, hK' _ ?_⟩) <;> clear hK' K' <;> (first | (show alist _ _ _ _ _ _; skip) | (intro s hs; cases hs; done) | assumption | (simp; done) | omega | (simp; omega) | skip))) | refine ah_e 2 rfl (by kernel_rfl) rfl rfl ?_ | refine ah_u 2 rfl (by kernel_rfl) rfl rfl ?_)
      (first | (first | refine ah_r 3 rfl (by kernel_rfl) rfl fun K' hK' => ?_ | refine ah_t 3 rfl (by kernel_rfl) rfl rfl fun K' hK' => ?_); (simp only [go_sem, simprocAttr, hget, hnn, hi2, hnx, Int.toNat_natCast, List.getElem?_map, Option.map_some, List.length_map]); (first | (refine hK' _ ?_); clear hK' K' | ((first | refine ⟨?_, hK' _ ?_⟩ | refine ⟨?_, ?_, hK' _ ?_⟩) <;> clear hK' K' <;> (first | (show alist _ _ _ _ _ _; skip) | (intro s hs; cases hs; done) | assumption | (simp; done) | omega | (simp; omega) | skip))) | refine ah_e 3 rfl (by kernel_rfl) rfl rfl ?_ | refine ah_u 3 rfl (by kernel_rfl) rfl rfl ?_)
      (first | (first | refine ah_r 4 rfl (by kernel_rfl) rfl fun K' hK' => ?_ | refine ah_t 4 rfl (by kernel_rfl) rfl rfl fun K' hK' => ?_); (simp only [go_sem, simprocAttr, hget, hnn, hi2, hnx, Int.toNat_natCast, List.getElem?_map, Option.map_some, List.length_map]); (first | (refine hK' _ ?_); clear hK' K' | ((first | refine ⟨?_, hK' _ ?_⟩ | refine ⟨?_, ?_, hK' _ ?_⟩) <;> clear hK' K' <;> (first | (show alist _ _ _ _ _ _; skip) | (intro s hs; cases hs; done) | assumption | (simp; done) | omega | (simp; omega) | skip))) | refine ah_e 4 rfl (by kernel_rfl) rfl rfl ?_ | refine ah_u 4 rfl (by kernel_rfl) rfl rfl ?_)
      (first | (first | refine ah_r 5 rfl (by kernel_rfl) rfl fun K' hK' => ?_ | refine ah_t 5 rfl (by kernel_rfl) rfl rfl fun K' hK' => ?_); (simp only [go_sem, simprocAttr, hget, hnn, hi2, hnx, Int.toNat_natCast, List.getElem?_map, Option.map_some, List.length_map]); (first | (refine hK' _ ?_); clear hK' K' | ((first | refine ⟨?_, hK' _ ?_⟩ | refine ⟨?_, ?_, hK' _ ?_⟩) <;> clear hK' K' <;> (first | (show alist _ _ _ _ _ _; skip) | (intro s hs; cases hs; done) | assumption | (simp; done) | omega | (simp; omega) | skip))) | refine ah_e 5 rfl (by kernel_rfl) rfl rfl ?_ | refine ah_u 5 rfl (by kernel_rfl) rfl rfl ?_)
      (first | (first | refine ah_r 6 rfl (by kernel_rfl) rfl fun K' hK' => ?_ | refine ah_t 6 rfl (by kernel_rfl) rfl rfl fun K' hK' => ?_); (simp only [go_sem, simprocAttr, hget, hnn, hi2, hnx, Int.toNat_natCast, List.getElem?_map, Option.map_some, List.length_map]); (first | (refine hK' _ ?_); clear hK' K' | ((first | refine ⟨?_, hK' _ ?_⟩ | refine ⟨?_, ?_, hK' _ ?_⟩) <;> clear hK' K' <;> (first | (show alist _ _ _ _ _ _; skip) | (intro s hs; cases hs; done) | assumption | (simp; done) | omega | (simp; omega) | skip))) | refine ah_e 6 rfl (by kernel_rfl) rfl rfl ?_ | refine ah_u 6 rfl (by kernel_rfl) rfl rfl ?_)
      (first | (first | refine ah_r 7 rfl (by kernel_rfl) rfl fun K' hK' => ?_ | refine ah_t 7 rfl (by kernel_rfl) rfl rfl fun K' hK' => ?_); (simp only [go_sem, simprocAttr, hget, hnn, hi2, hnx, Int.toNat_natCast, List.getElem?_map, Option.map_some, List.length_map]); (first | (refine hK' _ ?_); clear hK' K' | ((first | refine ⟨?_, hK' _ ?_⟩ | refine ⟨?_, ?_, hK' _ ?_⟩) <;> clear hK' K' <;> (first | (show alist _ _ _ _ _ _; skip) | (intro s hs; cases hs; done) | assumption | (simp; done) | omega | (simp; omega) | skip))) | refine ah_e 7 rfl (by kernel_rfl) rfl rfl ?_ | refine ah_u 7 rfl (by kernel_rfl) rfl rfl ?_)
      (refine ah_one 8 rfl (by kernel_rfl) ?_; (repeat' (first | ((first | refine al_r rfl fun K' hK' => ?_ | refine al_d rfl fun K' hK' => ?_ | refine al_t rfl rfl fun K' hK' => ?_); (repeat (first | (simp only [go_sem, simprocAttr, hget, hnn, hi2, hnx, Int.toNat_natCast, List.getElem?_map, Option.map_some, List.length_map]) | refine AS.mk ?_ | refine AAp.grow ?_)); (first | ((first | refine hK' _ _ ?_ | refine ⟨?_, hK' _ _ ?_⟩ | refine ⟨?_, ?_, hK' _ _ ?_⟩ | refine ⟨?_, ?_, ?_, hK' _ _ ?_⟩) <;> clear hK' K' <;> (first | (show alist _ _ _ _ _ _; skip) | (intro s hs; cases hs; done) | assumption | (simp; done) | omega | (simp; omega) | skip)) | ((show AC _ _ (D.fn 40 _) _ _); refine acall_p (f := 40) (e := rfl) (hr := rfl) (k := hK' _ _ ?_) (hc := Try.call40) (h := hsi); clear hK' K'))) | refine al_e rfl rfl ?_ | refine al_u rfl rfl ?_ | ((fail_if_success (refine al_t rfl rfl fun K' hK' => ?_)); refine al_s _ rfl rfl rfl (fun hb => ?_) (fun hb => ?_)))); all_goals refine al_nil ?_)
      (first | (first | refine ah_r 9 rfl (by kernel_rfl) rfl fun K' hK' => ?_ | refine ah_t 9 rfl (by kernel_rfl) rfl rfl fun K' hK' => ?_); (simp only [go_sem, simprocAttr, hget, hnn, hi2, hnx, Int.toNat_natCast, List.getElem?_map, Option.map_some, List.length_map]); (first | (refine hK' _ ?_); clear hK' K' | ((first | refine ⟨?_, hK' _ ?_⟩ | refine ⟨?_, ?_, hK' _ ?_⟩) <;> clear hK' K' <;> (first | (show alist _ _ _ _ _ _; skip) | (intro s hs; cases hs; done) | assumption | (simp; done) | omega | (simp; omega) | skip))) | refine ah_e 9 rfl (by kernel_rfl) rfl rfl ?_ | refine ah_u 9 rfl (by kernel_rfl) rfl rfl ?_)
      (refine ah_done (by kernel_rfl) ?_; (simp only [go_sem, simprocAttr, hget, hnn, hi2, hnx, Int.toNat_natCast, List.getElem?_map, Option.map_some, List.length_map]); refine hK _ ?_; clear hK K)
      refine awp_if (_) rfl (fun hc => ?_) (fun hc => ?_)
      · cases hc
      · refine awp_skip ?_
        refine hK _ ?_; clear hK K
        (refine awp_reg_end [0, 1, 12, 13] fun K hK => ?_; (repeat' (first | ((first | refine al_r rfl fun K' hK' => ?_ | refine al_d rfl fun K' hK' => ?_ | refine al_t rfl rfl fun K' hK' => ?_); (repeat (first | (simp only [go_sem, simprocAttr, hget, hnn, hi2, hnx, Int.toNat_natCast, List.getElem?_map, Option.map_some, List.length_map]) | refine AS.mk ?_ | refine AAp.grow ?_)); (first | ((first | refine hK' _ _ ?_ | refine ⟨?_, hK' _ _ ?_⟩ | refine ⟨?_, ?_, hK' _ _ ?_⟩ | refine ⟨?_, ?_, ?_, hK' _ _ ?_⟩) <;> clear hK' K' <;> (first | (show alist _ _ _ _ _ _; skip) | (intro s hs; cases hs; done) | assumption | (simp; done) | omega | (simp; omega) | skip)))) | refine al_e rfl rfl ?_ | refine al_u rfl rfl ?_ | ((fail_if_success (refine al_t rfl rfl fun K' hK' => ?_)); refine al_s _ rfl rfl rfl (fun hb => ?_) (fun hb => ?_)))); all_goals (refine al_nil ?_; (simp only [go_sem, simprocAttr, hget, hnn, hi2, hnx, Int.toNat_natCast, List.getElem?_map, Option.map_some, List.length_map]); refine hK _ ?_; clear hK K))
        refine ⟨_, ?_, i + 1, hi2, rfl, rfl⟩
        omega

    · refine awp_exit ?_
      clear hK
      refine hK _ ?_; clear hK K
      (refine awp_reg_seq [4] fun K hK => ?_; (repeat' (first | ((first | refine al_r rfl fun K' hK' => ?_ | refine al_d rfl fun K' hK' => ?_ | refine al_t rfl rfl fun K' hK' => ?_); (repeat (first | (simp only [go_sem, simprocAttr, List.length_map]) | refine AS.mk ?_ | refine AAp.grow ?_)); (first | ((first | refine hK' _ _ ?_ | refine ⟨?_, hK' _ _ ?_⟩ | refine ⟨?_, ?_, hK' _ _ ?_⟩ | refine ⟨?_, ?_, ?_, hK' _ _ ?_⟩) <;> clear hK' K' <;> (first | (show alist _ _ _ _ _ _; skip) | (intro s hs; cases hs; done) | assumption | (simp; done) | omega | (simp; omega) | skip)))) | refine al_e rfl rfl ?_ | refine al_u rfl rfl ?_ | ((fail_if_success (refine al_t rfl rfl fun K' hK' => ?_)); refine al_s _ rfl rfl rfl (fun hb => ?_) (fun hb => ?_)))); all_goals (refine al_nil ?_; (simp only [go_sem, simprocAttr, List.length_map]); refine hK _ ?_; clear hK K))
      all_goals (refine awp_ret ?_; (first | refine hR _ _ (.inl rfl) rfl ?_ | refine hR _ _ (.inl rfl) rfl ?_ ?_); (first | (simp only [go_sem, simprocAttr, List.length_map, *, Bool.and_true, Bool.and_false, Bool.true_and, Bool.false_and, Bool.or_true, Bool.true_or, Bool.or_false, Bool.false_or, Bool.not_true, Bool.not_false, Bool.false_eq_true]; done) | contradiction | (simp_all; done) | simp only [go_sem, simprocAttr, List.length_map, *, Bool.and_true, Bool.and_false, Bool.true_and, Bool.false_and, Bool.or_true, Bool.true_or, Bool.or_false, Bool.false_or, Bool.not_true, Bool.not_false, Bool.false_eq_true]))

theorem push_ok {ls : List (List Int)} {cpu task : Int} (h : (pushS ls cpu task).2 = 0) : checkC ls cpu = 0 ∧ ∃ (c : Nat) (x : List Int), cpu = c ∧ ls[c]? = some x ∧ hasT task ls = false ∧ sumLen ls < 100 ∧ pushS ls cpu task = (ls.set c (x ++ [task]), 0) := by
  unfold pushS at h ⊢
  by_cases h0 : checkC ls cpu = 0
  · obtain ⟨hcs, _, _, c, rfl, hcl⟩ := checkC_ok h0
    have hsum := checkS_sum hcs
    rw [if_neg (by rw [h0]; simp)] at h ⊢
    by_cases h1 : hasT task ls = true
    · rw [if_pos h1] at h; cases h
    · rw [if_neg h1] at h ⊢
      by_cases h2 : (((sumLen ls : Nat) : Int) == 100) = true
      · rw [if_pos h2] at h; cases h
      · rw [if_neg h2] at h ⊢
        obtain ⟨x, hx⟩ := get_of_lt hcl
        rw [Int.toNat_natCast, hx]
        simp at h2
        exact ⟨h0, c, x, rfl, hx, by simpa using h1, by omega, rfl⟩
  · rw [if_pos (by simpa using h0)] at h; exact absurd h h0

theorem push_bad {ls : List (List Int)} {cpu task : Int} (h : (pushS ls cpu task).2 ≠ 0) : (pushS ls cpu task).1 = [] := by
  unfold pushS at h ⊢
  split
  · rfl
  · rename_i h0
    rw [if_neg h0] at h
    split
    · rfl
    · rename_i h1
      rw [if_neg h1] at h
      split
      · rfl
      · rename_i h2
        rw [if_neg h2] at h
        split
        · rename_i x hx; rw [hx] at h; exact absurd rfl h
        · rfl

theorem not_has {ls : List (List Int)} {task : Int} (h : hasT task ls = false) : task ∉ ls.flatten := by
  intro hm
  obtain ⟨x, hx, ht⟩ := List.mem_flatten.1 hm
  unfold hasT at h
  rw [List.any_eq_false] at h
  have := h x hx
  rw [List.any_eq_true] at this
  exact this ⟨task, ht, by simp⟩

theorem push_check {ls : List (List Int)} {cpu task : Int} (h : (pushS ls cpu task).2 = 0) : checkC (pushS ls cpu task).1 cpu = 0 := by
  obtain ⟨h0, c, x, rfl, hx, h1, h2, e⟩ := push_ok h
  rw [e]
  obtain ⟨h3, h4, h5⟩ := checkC_iff.1 h0
  obtain ⟨g1, g2, g3, g4⟩ := checkS_iff.1 h3
  have hp := push_flat task hx
  refine checkC_iff.2 ⟨checkS_iff.2 ⟨by simpa using g1, by simpa using g2, ?_, ?_⟩, h4, by simpa using h5⟩
  · simp only
    rw [hp.length_eq, List.length_cons, ← sumLen_flat]; omega
  · exact hp.nodup_iff.2 (List.nodup_cons.2 ⟨not_has h1, g4⟩)

theorem push_pop {ls : List (List Int)} {cpu task : Int} (h : (pushS ls cpu task).2 = 0) : popS (pushS ls cpu task).1 cpu = (ls, task, 0) := by
  have hck := push_check h
  obtain ⟨h0, c, x, rfl, hx, h1, h2, e⟩ := push_ok h
  rw [e] at hck ⊢
  have hcl := lt_of_get hx
  have hg : (ls.set c (x ++ [task]))[c]? = some (x ++ [task]) := List.getElem?_set_self hcl
  have hne : (((x ++ [task]).length : Int) == 0) = false := by simp; omega
  unfold popS
  rw [if_neg (by rw [hck]; simp), Int.toNat_natCast, hg]
  simp only
  rw [if_neg (by rw [hne]; simp)]
  unfold popEnd
  rw [hg]
  simp only [List.length_append, List.length_cons, List.length_nil, Nat.zero_add, Nat.add_sub_cancel]
  rw [List.getElem?_append_right (Nat.le_refl _), Nat.sub_self]
  simp only [List.getElem?_cons_zero]
  rw [List.take_append_of_le_length (Nat.le_refl _), List.take_of_length_le (Nat.le_refl _), List.set_set, set_same hx]


theorem ownGood (ls a : List (List Int)) (cpu task : Int) (hf : Fits ls) (hpu : ACallP Try.prog 22 [lines ls, iD cpu, iD task] (.tup [lines a, iD 0])) (hpo : ACallP Try.prog 24 [lines a, iD cpu] (.tup [lines ls, iD task, iD 0])) :
    ACallP Try.prog 7 [lines ls, iD cpu, iD task] (bD true) := by
  have hsl := sameLines ls hf
  refine acallp_fn [6] Try.func7 rfl rfl Try.ntmps7 (by simp) fun R hR => ?_
  (refine awp_reg_seq [0, 1, 2] fun K hK => ?_; (repeat' (first | ((first | refine al_r rfl fun K' hK' => ?_ | refine al_d rfl fun K' hK' => ?_ | refine al_t rfl rfl fun K' hK' => ?_); (repeat (first | (simp only [go_sem, simprocAttr, List.length_map, beq_self_eq_true, bne_self_eq_false]) | refine AS.mk ?_ | refine AAp.grow ?_)); (first | ((first | refine hK' _ _ ?_ | refine ⟨?_, hK' _ _ ?_⟩ | refine ⟨?_, ?_, hK' _ _ ?_⟩ | refine ⟨?_, ?_, ?_, hK' _ _ ?_⟩) <;> clear hK' K' <;> (first | (show alist _ _ _ _ _ _; skip) | (intro s hs; cases hs; done) | assumption | (simp; done) | omega | (simp; omega) | skip)))) | refine al_e rfl rfl ?_ | refine al_u rfl rfl ?_ | ((fail_if_success (refine al_t rfl rfl fun K' hK' => ?_)); refine al_s _ rfl rfl rfl (fun hb => ?_) (fun hb => ?_)))); all_goals (refine al_nil ?_; (simp only [go_sem, simprocAttr, List.length_map, beq_self_eq_true, bne_self_eq_false]); refine hK _ ?_; clear hK K))
  (refine awp_reg_seq [0, 1, 2, 7, 8] fun K hK => ?_; (repeat' (first | ((first | refine al_r rfl fun K' hK' => ?_ | refine al_d rfl fun K' hK' => ?_ | refine al_t rfl rfl fun K' hK' => ?_); (repeat (first | (simp only [go_sem, simprocAttr, List.length_map, beq_self_eq_true, bne_self_eq_false]) | refine AS.mk ?_ | refine AAp.grow ?_)); (first | ((first | refine hK' _ _ ?_ | refine ⟨?_, hK' _ _ ?_⟩ | refine ⟨?_, ?_, hK' _ _ ?_⟩ | refine ⟨?_, ?_, ?_, hK' _ _ ?_⟩) <;> clear hK' K' <;> (first | (show alist _ _ _ _ _ _; skip) | (intro s hs; cases hs; done) | assumption | (simp; done) | omega | (simp; omega) | skip)) | ((show AC _ _ (D.fn 22 _) _ _); refine acall_p (f := 22) (e := rfl) (hr := rfl) (k := hK' _ _ ?_) (hc := Try.call22) (h := hpu); clear hK' K'))) | refine al_e rfl rfl ?_ | refine al_u rfl rfl ?_ | ((fail_if_success (refine al_t rfl rfl fun K' hK' => ?_)); refine al_s _ rfl rfl rfl (fun hb => ?_) (fun hb => ?_)))); all_goals (refine al_nil ?_; (simp only [go_sem, simprocAttr, List.length_map, beq_self_eq_true, bne_self_eq_false]); refine hK _ ?_; clear hK K))
  refine awp_seq_k fun K hK => ?_
  (refine awp_reg_seq [0, 1, 2, 7, 24] fun K hK => ?_; (repeat' (first | ((first | refine al_r rfl fun K' hK' => ?_ | refine al_d rfl fun K' hK' => ?_ | refine al_t rfl rfl fun K' hK' => ?_); (repeat (first | (simp only [go_sem, simprocAttr, List.length_map, beq_self_eq_true, bne_self_eq_false]) | refine AS.mk ?_ | refine AAp.grow ?_)); (first | ((first | refine hK' _ _ ?_ | refine ⟨?_, hK' _ _ ?_⟩ | refine ⟨?_, ?_, hK' _ _ ?_⟩ | refine ⟨?_, ?_, ?_, hK' _ _ ?_⟩) <;> clear hK' K' <;> (first | (show alist _ _ _ _ _ _; skip) | (intro s hs; cases hs; done) | assumption | (simp; done) | omega | (simp; omega) | skip)) | ((show AC _ _ (D.fn 23 _) _ _); refine acall_p (f := 23) (e := rfl) (hr := rfl) (k := hK' _ _ ?_) (hc := Try.call23) (h := steals); clear hK' K'))) | refine al_e rfl rfl ?_ | refine al_u rfl rfl ?_ | ((fail_if_success (refine al_t rfl rfl fun K' hK' => ?_)); refine al_s _ rfl rfl rfl (fun hb => ?_) (fun hb => ?_)))); all_goals (refine al_nil ?_; (simp only [go_sem, simprocAttr, List.length_map, beq_self_eq_true, bne_self_eq_false]); refine hK _ ?_; clear hK K))
  refine awp_if (_) rfl (fun hc => ?_) (fun hc => ?_)
  · cases hc
  · refine awp_skip ?_
    refine hK _ ?_; clear hK K
    (refine awp_reg_seq [0, 2, 9, 10, 11] fun K hK => ?_; (repeat' (first | ((first | refine al_r rfl fun K' hK' => ?_ | refine al_d rfl fun K' hK' => ?_ | refine al_t rfl rfl fun K' hK' => ?_); (repeat (first | (simp only [go_sem, simprocAttr, List.length_map, beq_self_eq_true, bne_self_eq_false]) | refine AS.mk ?_ | refine AAp.grow ?_)); (first | ((first | refine hK' _ _ ?_ | refine ⟨?_, hK' _ _ ?_⟩ | refine ⟨?_, ?_, hK' _ _ ?_⟩ | refine ⟨?_, ?_, ?_, hK' _ _ ?_⟩) <;> clear hK' K' <;> (first | (show alist _ _ _ _ _ _; skip) | (intro s hs; cases hs; done) | assumption | (simp; done) | omega | (simp; omega) | skip)) | ((show AC _ _ (D.fn 24 _) _ _); refine acall_p (f := 24) (e := rfl) (hr := rfl) (k := hK' _ _ ?_) (hc := Try.call24) (h := hpo); clear hK' K'))) | refine al_e rfl rfl ?_ | refine al_u rfl rfl ?_ | ((fail_if_success (refine al_t rfl rfl fun K' hK' => ?_)); refine al_s _ rfl rfl rfl (fun hb => ?_) (fun hb => ?_)))); all_goals (refine al_nil ?_; (simp only [go_sem, simprocAttr, List.length_map, beq_self_eq_true, bne_self_eq_false]); refine hK _ ?_; clear hK K))
    (refine awp_reg_seq [6] fun K hK => ?_; (repeat' (first | ((first | refine al_r rfl fun K' hK' => ?_ | refine al_d rfl fun K' hK' => ?_ | refine al_t rfl rfl fun K' hK' => ?_); (repeat (first | (simp only [go_sem, simprocAttr, List.length_map, beq_self_eq_true, bne_self_eq_false]) | refine AS.mk ?_ | refine AAp.grow ?_)); (first | ((first | refine hK' _ _ ?_ | refine ⟨?_, hK' _ _ ?_⟩ | refine ⟨?_, ?_, hK' _ _ ?_⟩ | refine ⟨?_, ?_, ?_, hK' _ _ ?_⟩) <;> clear hK' K' <;> (first | (show alist _ _ _ _ _ _; skip) | (intro s hs; cases hs; done) | assumption | (simp; done) | omega | (simp; omega) | skip)) | ((show AC _ _ (D.fn 25 _) _ _); refine acall_p (f := 25) (e := rfl) (hr := rfl) (k := hK' _ _ ?_) (hc := Try.call25) (h := hsl); clear hK' K'))) | refine al_e rfl rfl ?_ | refine al_u rfl rfl ?_ | ((fail_if_success (refine al_t rfl rfl fun K' hK' => ?_)); refine al_s _ rfl rfl rfl (fun hb => ?_) (fun hb => ?_)))); all_goals (refine al_nil ?_; (simp only [go_sem, simprocAttr, List.length_map, beq_self_eq_true, bne_self_eq_false]); refine hK _ ?_; clear hK K))
    all_goals (refine awp_ret ?_; (first | refine hR _ _ (.inl rfl) rfl ?_ | refine hR _ _ (.inl rfl) rfl ?_ ?_); (first | (simp only [go_sem, simprocAttr, List.length_map, beq_self_eq_true, bne_self_eq_false, *, Bool.and_true, Bool.and_false, Bool.true_and, Bool.false_and, Bool.or_true, Bool.true_or, Bool.or_false, Bool.false_or, Bool.not_true, Bool.not_false, Bool.false_eq_true]; done) | contradiction | (simp_all; done) | simp only [go_sem, simprocAttr, List.length_map, beq_self_eq_true, bne_self_eq_false, *, Bool.and_true, Bool.and_false, Bool.true_and, Bool.false_and, Bool.or_true, Bool.true_or, Bool.or_false, Bool.false_or, Bool.not_true, Bool.not_false, Bool.false_eq_true]))


theorem ownBad (ls : List (List Int)) (cpu task e : Int) (he : (e != 0) = true) (hpu : ACallP Try.prog 22 [lines ls, iD cpu, iD task] (.tup [lines [], iD e])) :
    ACallP Try.prog 7 [lines ls, iD cpu, iD task] (bD true) := by
  refine acallp_fn [6] Try.func7 rfl rfl Try.ntmps7 (by simp) fun R hR => ?_
  (refine awp_reg_seq [0, 1, 2] fun K hK => ?_; (repeat' (first | ((first | refine al_r rfl fun K' hK' => ?_ | refine al_d rfl fun K' hK' => ?_ | refine al_t rfl rfl fun K' hK' => ?_); (repeat (first | (simp only [go_sem, simprocAttr, List.length_nil, List.map_nil, cast0, beq_self_eq_true, he]) | refine AS.mk ?_ | refine AAp.grow ?_)); (first | ((first | refine hK' _ _ ?_ | refine ⟨?_, hK' _ _ ?_⟩ | refine ⟨?_, ?_, hK' _ _ ?_⟩ | refine ⟨?_, ?_, ?_, hK' _ _ ?_⟩) <;> clear hK' K' <;> (first | (show alist _ _ _ _ _ _; skip) | (intro s hs; cases hs; done) | assumption | (simp; done) | omega | (simp; omega) | skip)))) | refine al_e rfl rfl ?_ | refine al_u rfl rfl ?_ | ((fail_if_success (refine al_t rfl rfl fun K' hK' => ?_)); refine al_s _ rfl rfl rfl (fun hb => ?_) (fun hb => ?_)))); all_goals (refine al_nil ?_; (simp only [go_sem, simprocAttr, List.length_nil, List.map_nil, cast0, beq_self_eq_true, he]); refine hK _ ?_; clear hK K))
  (refine awp_reg_seq [0, 1, 2, 7, 8] fun K hK => ?_; (repeat' (first | ((first | refine al_r rfl fun K' hK' => ?_ | refine al_d rfl fun K' hK' => ?_ | refine al_t rfl rfl fun K' hK' => ?_); (repeat (first | (simp only [go_sem, simprocAttr, List.length_nil, List.map_nil, cast0, beq_self_eq_true, he]) | refine AS.mk ?_ | refine AAp.grow ?_)); (first | ((first | refine hK' _ _ ?_ | refine ⟨?_, hK' _ _ ?_⟩ | refine ⟨?_, ?_, hK' _ _ ?_⟩ | refine ⟨?_, ?_, ?_, hK' _ _ ?_⟩) <;> clear hK' K' <;> (first | (show alist _ _ _ _ _ _; skip) | (intro s hs; cases hs; done) | assumption | (simp; done) | omega | (simp; omega) | skip)) | ((show AC _ _ (D.fn 22 _) _ _); refine acall_p (f := 22) (e := rfl) (hr := rfl) (k := hK' _ _ ?_) (hc := Try.call22) (h := hpu); clear hK' K') | ((show AC _ _ (D.fn 22 _) _ _); refine acall_p (f := 22) (e := rfl) (hr := rfl) (k := hK' _ _ ?_) (hc := Try.call22) (h := hpu); clear hK' K'))) | refine al_e rfl rfl ?_ | refine al_u rfl rfl ?_ | ((fail_if_success (refine al_t rfl rfl fun K' hK' => ?_)); refine al_s _ rfl rfl rfl (fun hb => ?_) (fun hb => ?_)))); all_goals (refine al_nil ?_; (simp only [go_sem, simprocAttr, List.length_nil, List.map_nil, cast0, beq_self_eq_true, he]); refine hK _ ?_; clear hK K))
  refine awp_seq_k fun K hK => ?_
  (refine awp_reg_seq [0, 1, 2, 7, 24] fun K hK => ?_; (repeat' (first | ((first | refine al_r rfl fun K' hK' => ?_ | refine al_d rfl fun K' hK' => ?_ | refine al_t rfl rfl fun K' hK' => ?_); (repeat (first | (simp only [go_sem, simprocAttr, List.length_nil, List.map_nil, cast0, beq_self_eq_true, he]) | refine AS.mk ?_ | refine AAp.grow ?_)); (first | ((first | refine hK' _ _ ?_ | refine ⟨?_, hK' _ _ ?_⟩ | refine ⟨?_, ?_, hK' _ _ ?_⟩ | refine ⟨?_, ?_, ?_, hK' _ _ ?_⟩) <;> clear hK' K' <;> (first | (show alist _ _ _ _ _ _; skip) | (intro s hs; cases hs; done) | assumption | (simp; done) | omega | (simp; omega) | skip)) | ((show AC _ _ (D.fn 23 _) _ _); refine acall_p (f := 23) (e := rfl) (hr := rfl) (k := hK' _ _ ?_) (hc := Try.call23) (h := steals); clear hK' K') | ((show AC _ _ (D.fn 23 _) _ _); refine acall_p (f := 23) (e := rfl) (hr := rfl) (k := hK' _ _ ?_) (hc := Try.call23) (h := steals); clear hK' K'))) | refine al_e rfl rfl ?_ | refine al_u rfl rfl ?_ | ((fail_if_success (refine al_t rfl rfl fun K' hK' => ?_)); refine al_s _ rfl rfl rfl (fun hb => ?_) (fun hb => ?_)))); all_goals (refine al_nil ?_; (simp only [go_sem, simprocAttr, List.length_nil, List.map_nil, cast0, beq_self_eq_true, he]); refine hK _ ?_; clear hK K))
  refine awp_if (_) rfl (fun hc => ?_) (fun hc => ?_)
  · (refine awp_reg_seq [6] fun K hK => ?_; (repeat' (first | ((first | refine al_r rfl fun K' hK' => ?_ | refine al_d rfl fun K' hK' => ?_ | refine al_t rfl rfl fun K' hK' => ?_); (repeat (first | (simp only [go_sem, simprocAttr, List.length_nil, List.map_nil, cast0, beq_self_eq_true, he]) | refine AS.mk ?_ | refine AAp.grow ?_)); (first | ((first | refine hK' _ _ ?_ | refine ⟨?_, hK' _ _ ?_⟩ | refine ⟨?_, ?_, hK' _ _ ?_⟩ | refine ⟨?_, ?_, ?_, hK' _ _ ?_⟩) <;> clear hK' K' <;> (first | (show alist _ _ _ _ _ _; skip) | (intro s hs; cases hs; done) | assumption | (simp; done) | omega | (simp; omega) | skip)) | ((show AC _ _ (D.fn 23 _) _ _); refine acall_p (f := 23) (e := rfl) (hr := rfl) (k := hK' _ _ ?_) (hc := Try.call23) (h := steals); clear hK' K') | ((show AC _ _ (D.fn 23 _) _ _); refine acall_p (f := 23) (e := rfl) (hr := rfl) (k := hK' _ _ ?_) (hc := Try.call23) (h := steals); clear hK' K'))) | refine al_e rfl rfl ?_ | refine al_u rfl rfl ?_ | ((fail_if_success (refine al_t rfl rfl fun K' hK' => ?_)); refine al_s _ rfl rfl rfl (fun hb => ?_) (fun hb => ?_)))); all_goals (refine al_nil ?_; (simp only [go_sem, simprocAttr, List.length_nil, List.map_nil, cast0, beq_self_eq_true, he]); refine hK _ ?_; clear hK K))
    all_goals (refine awp_ret ?_; (first | refine hR _ _ (.inl rfl) rfl ?_ | refine hR _ _ (.inl rfl) rfl ?_ ?_); (first | (simp only [go_sem, simprocAttr, List.length_nil, List.map_nil, cast0, beq_self_eq_true, he, *, Bool.and_true, Bool.and_false, Bool.true_and, Bool.false_and, Bool.or_true, Bool.true_or, Bool.or_false, Bool.false_or, Bool.not_true, Bool.not_false, Bool.false_eq_true]; done) | contradiction | (simp_all; done) | simp only [go_sem, simprocAttr, List.length_nil, List.map_nil, cast0, beq_self_eq_true, he, *, Bool.and_true, Bool.and_false, Bool.true_and, Bool.false_and, Bool.or_true, Bool.true_or, Bool.or_false, Bool.false_or, Bool.not_true, Bool.not_false, Bool.false_eq_true]))
  · cases hc

theorem fits_set {ls : List (List Int)} {c : Nat} {y : List Int} (h : Fits ls) (hy : y.length ≤ 20000000000000) : Fits (ls.set c y) := by
  refine ⟨by simpa using h.1, fun x hx => ?_⟩
  rcases List.mem_or_eq_of_mem_set hx with hx | rfl
  · exact h.2 x hx
  · exact hy

theorem ownTrue (ls : List (List Int)) (cpu task : Int) (hf : Fits ls) : ACallP Try.prog 7 [lines ls, iD cpu, iD task] (bD true) := by
  have hpu := push ls cpu task hf
  by_cases h : (pushS ls cpu task).2 = 0
  · obtain ⟨h0, c, x, rfl, hx, h1, h2, e⟩ := push_ok h
    have hlen := (checkS_len (checkC_iff.1 h0).1).2 x (List.mem_of_getElem? hx)
    have hpo := pop (pushS ls c task).1 c (by rw [e]; exact fits_set hf (by simp; omega))
    rw [push_pop h] at hpo
    rw [h] at hpu
    exact ownGood ls _ c task hf hpu hpo
  · rw [push_bad h] at hpu
    exact ownBad ls cpu task _ (by simpa using h) hpu
end Go.Proofs.Ytjaghpkmbgcabaa.P
