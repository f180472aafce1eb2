/- What the function of the statement HeapWhole answers. -/
import Derived.Test.YtagphggcdmjlpaaH12
set_option linter.unusedSimpArgs false
set_option linter.unusedVariables false
set_option maxHeartbeats 1000000
namespace Go.Proofs.Ytagphggcdmjlpaa.P
open Go.Ab Go.Proofs.Ytagphggcdmjlpaa.T

abbrev irow (n : Int) : List PV := [.lit (.int .i64 n)]
abbrev ints (ns : List Int) : D := .p (.sl (ns.map irow))


theorem indexE (ls : List Int) (hlen : ls.length ≤ maxLen) (f : FuncId) (caps : List D) (p : Int → Bool) (obs : List Ob) (ids : List Nat) (hub : ∀ o, o ∈ obs → o ≠ .unborn) (hd : ids.Nodup) (hp : ∀ k, k < obs.length → ids[k]? = some k)
    (hcap : caps.map (D.map (ren1 ids)) = caps) (hob : newObs obs ids = obs) (hm : merge obs ids obs = obs) (hlt : ∀ i, i ∈ ids → i < obs.length) (hl : ids.length ≤ obs.length)
    (hcf : ∀ args w, (callFunc f args).run Try.prog w = .ok (.enter f args) w) (h : ∀ n, n ∈ ls → ACallO Try.prog f (iD n :: caps) obs (bD (p n))) :
    ACallO Try.prog 79 [ints ls, .fn f caps] obs (iD (firstAt p ls)) := by
  refine acallo_fn [4] ids Try.func79 rfl rfl Try.ntmps79 (by simp) hub hd hp fun R hR => ?_
  (refine awp_reg_seq [0, 1] fun K hK => ?_; (repeat' (first | ((first | refine al_r rfl fun K' hK' => ?_ | refine al_d rfl fun K' hK' => ?_ | refine al_t rfl rfl fun K' hK' => ?_); (repeat (first | (simp only [go_sem, simprocAttr, List.length_map]) | refine AS.mk ?_ | refine AAp.grow ?_)); (first | ((first | refine hK' _ _ ?_ | refine ⟨?_, hK' _ _ ?_⟩ | refine ⟨?_, ?_, hK' _ _ ?_⟩ | refine ⟨?_, ?_, ?_, hK' _ _ ?_⟩) <;> clear hK' K' <;> (first | (show alist _ _ _ _ _ _; skip) | (intro s hs; cases hs; done) | assumption | (simp; done) | omega | (simp; omega) | skip)))) | refine al_e rfl rfl ?_ | refine al_u rfl rfl ?_ | ((fail_if_success (refine al_t rfl rfl fun K' hK' => ?_)); refine al_s _ rfl rfl rfl (fun hb => ?_) (fun hb => ?_)))); all_goals (refine al_nil ?_; (simp only [go_sem, simprocAttr, List.length_map]); refine hK _ ?_; clear hK K))
  refine awp_seq_k fun K hK => ?_
  (refine awp_reg_seq [0, 1, 7, 8] fun K hK => ?_; (repeat' (first | ((first | refine al_r rfl fun K' hK' => ?_ | refine al_d rfl fun K' hK' => ?_ | refine al_t rfl rfl fun K' hK' => ?_); (repeat (first | (simp only [go_sem, simprocAttr, List.length_map]) | refine AS.mk ?_ | refine AAp.grow ?_)); (first | ((first | refine hK' _ _ ?_ | refine ⟨?_, hK' _ _ ?_⟩ | refine ⟨?_, ?_, hK' _ _ ?_⟩ | refine ⟨?_, ?_, ?_, hK' _ _ ?_⟩) <;> clear hK' K' <;> (first | (show alist _ _ _ _ _ _; skip) | (intro s hs; cases hs; done) | assumption | (simp; done) | omega | (simp; omega) | skip)))) | refine al_e rfl rfl ?_ | refine al_u rfl rfl ?_ | ((fail_if_success (refine al_t rfl rfl fun K' hK' => ?_)); refine al_s _ rfl rfl rfl (fun hb => ?_) (fun hb => ?_)))); all_goals (refine al_nil ?_; (simp only [go_sem, simprocAttr, List.length_map]); refine hK _ ?_; clear hK K))
  refine awp_block ?_
  refine awp_loop (fun m s => ∃ i : Nat, i ≤ ls.length ∧ m = ls.length - i ∧ (∀ j, j < i → ∀ y, ls[j]? = some y → p y = false) ∧ s = ⟨ofL [(0, ints ls), (1, .fn f caps), (7, iD ls.length), (8, iD i)], obs, obs.length⟩) ⟨_, 0, Nat.zero_le _, rfl, fun j hj => absurd hj (by omega), rfl⟩ ?_
  rintro m s ⟨i, hi, rfl, hbefore, rfl⟩
  (refine awp_reg_seq [0, 1, 7, 8, 9] fun K hK => ?_; (repeat' (first | ((first | refine al_r rfl fun K' hK' => ?_ | refine al_d rfl fun K' hK' => ?_ | refine al_t rfl rfl fun K' hK' => ?_); (repeat (first | (simp only [go_sem, simprocAttr, List.length_map]) | refine AS.mk ?_ | refine AAp.grow ?_)); (first | ((first | refine hK' _ _ ?_ | refine ⟨?_, hK' _ _ ?_⟩ | refine ⟨?_, ?_, hK' _ _ ?_⟩ | refine ⟨?_, ?_, ?_, hK' _ _ ?_⟩) <;> clear hK' K' <;> (first | (show alist _ _ _ _ _ _; skip) | (intro s hs; cases hs; done) | assumption | (simp; done) | omega | (simp; omega) | skip)))) | refine al_e rfl rfl ?_ | refine al_u rfl rfl ?_ | ((fail_if_success (refine al_t rfl rfl fun K' hK' => ?_)); refine al_s _ rfl rfl rfl (fun hb => ?_) (fun hb => ?_)))); all_goals (refine al_nil ?_; (simp only [go_sem, simprocAttr, List.length_map]); refine hK _ ?_; clear hK K))
  refine awp_seq_k fun K hK => ?_
  refine awp_if (decide ((i : Int) < ls.length)) rfl (fun hc => ?_) (fun hc => ?_)
  · refine awp_skip ?_
    refine hK _ ?_; clear hK K
    have hi2 : i < ls.length := by simpa using hc
    obtain ⟨n, hget⟩ : ∃ n, ls[i]? = some n := ⟨_, List.getElem?_eq_getElem hi2⟩
    have hnn : (0 : Int) ≤ (i : Int) := Int.natCast_nonneg i

    refine awp_seq_k fun K hK => ?_
    refine awp_block ?_
    (refine awp_reg_seq [0, 1, 5, 7, 8] fun K hK => ?_; (repeat' (first | ((first | refine al_r rfl fun K' hK' => ?_ | refine al_d rfl fun K' hK' => ?_ | refine al_t rfl rfl fun K' hK' => ?_); (repeat (first | (simp only [go_sem, simprocAttr, hget, hnn, List.getElem?_map, Int.toNat_natCast, Option.map_some, List.length_map]) | refine AS.mk ?_ | refine AAp.grow ?_)); (first | ((first | refine hK' _ _ ?_ | refine ⟨?_, hK' _ _ ?_⟩ | refine ⟨?_, ?_, hK' _ _ ?_⟩ | refine ⟨?_, ?_, ?_, hK' _ _ ?_⟩) <;> clear hK' K' <;> (first | (show alist _ _ _ _ _ _; skip) | (intro s hs; cases hs; done) | assumption | (simp; done) | omega | (simp; omega) | skip)))) | refine al_e rfl rfl ?_ | refine al_u rfl rfl ?_ | ((fail_if_success (refine al_t rfl rfl fun K' hK' => ?_)); refine al_s _ rfl rfl rfl (fun hb => ?_) (fun hb => ?_)))); all_goals (refine al_nil ?_; (simp only [go_sem, simprocAttr, hget, hnn, List.getElem?_map, Int.toNat_natCast, Option.map_some, List.length_map]); refine hK _ ?_; clear hK K))
    refine awp_reg_seq [0, 1, 5, 7, 8, 16] fun K hK => ?_
    repeat' (first | ((first | refine al_r rfl fun K' hK' => ?_ | refine al_d rfl fun K' hK' => ?_ | refine al_t rfl rfl fun K' hK' => ?_); (repeat (first | (simp only [go_sem, simprocAttr, hget, hnn, List.getElem?_map, Int.toNat_natCast, Option.map_some, List.length_map]) | refine AS.mk ?_ | refine AAp.grow ?_)); (first | ((first | refine hK' _ _ ?_ | refine ⟨?_, hK' _ _ ?_⟩ | refine ⟨?_, ?_, hK' _ _ ?_⟩ | refine ⟨?_, ?_, ?_, hK' _ _ ?_⟩) <;> clear hK' K' <;> (first | (show alist _ _ _ _ _ _; skip) | (intro s hs; cases hs; done) | assumption | (simp; done) | omega | (simp; omega) | skip)))) | refine al_e rfl rfl ?_ | refine al_u rfl rfl ?_ | ((fail_if_success (refine al_t rfl rfl fun K' hK' => ?_)); refine al_s _ rfl rfl rfl (fun hb => ?_) (fun hb => ?_)))
    · refine al_run rfl rfl (by decide) fun K' hK' => ?_
      simp only [go_sem, simprocAttr, hget, hnn, List.getElem?_map, Int.toNat_natCast, Option.map_some, List.length_map]
      refine acall_o ids hcf (h n (List.mem_of_getElem? hget)) (by simpa [D.map, D.mapL, ren1] using hcap) hob hm hd hlt hl rfl (hK' _ _ ?_)
      clear hK' K'
      (refine al_nil ?_; (simp only [go_sem, simprocAttr, hget, hnn, List.getElem?_map, Int.toNat_natCast, Option.map_some, List.length_map]); refine hK _ ?_; clear hK K)
      refine awp_if (p n) rfl (fun hc => ?_) (fun hc => ?_)
      · (refine awp_reg_seq [4] fun K hK => ?_; (repeat' (first | ((first | refine al_r rfl fun K' hK' => ?_ | refine al_d rfl fun K' hK' => ?_ | refine al_t rfl rfl fun K' hK' => ?_); (repeat (first | (simp only [go_sem, simprocAttr, hget, hnn, List.getElem?_map, Int.toNat_natCast, Option.map_some, List.length_map]) | refine AS.mk ?_ | refine AAp.grow ?_)); (first | ((first | refine hK' _ _ ?_ | refine ⟨?_, hK' _ _ ?_⟩ | refine ⟨?_, ?_, hK' _ _ ?_⟩ | refine ⟨?_, ?_, ?_, hK' _ _ ?_⟩) <;> clear hK' K' <;> (first | (show alist _ _ _ _ _ _; skip) | (intro s hs; cases hs; done) | assumption | (simp; done) | omega | (simp; omega) | skip)))) | refine al_e rfl rfl ?_ | refine al_u rfl rfl ?_ | ((fail_if_success (refine al_t rfl rfl fun K' hK' => ?_)); refine al_s _ rfl rfl rfl (fun hb => ?_) (fun hb => ?_)))); all_goals (refine al_nil ?_; (simp only [go_sem, simprocAttr, hget, hnn, List.getElem?_map, Int.toNat_natCast, Option.map_some, List.length_map]); refine hK _ ?_; clear hK K))
        refine awp_ret ?_; (first | refine hR _ _ (.inl rfl) rfl ?_ | refine hR _ _ (.inl rfl) rfl ?_ ?_)
        · simp only [go_sem, simprocAttr, hget, hnn, List.getElem?_map, Int.toNat_natCast, Option.map_some, List.length_map]
          rw [firstAt_at hbefore hget hc]
        · exact hob
      · have hpn := hc
        refine awp_skip ?_
        refine hK _ ?_; clear hK K
        (refine awp_reg_end [0, 1, 7, 8] fun K hK => ?_; (repeat' (first | ((first | refine al_r rfl fun K' hK' => ?_ | refine al_d rfl fun K' hK' => ?_ | refine al_t rfl rfl fun K' hK' => ?_); (repeat (first | (simp only [go_sem, simprocAttr, hget, hnn, List.getElem?_map, Int.toNat_natCast, Option.map_some, List.length_map]) | refine AS.mk ?_ | refine AAp.grow ?_)); (first | ((first | refine hK' _ _ ?_ | refine ⟨?_, hK' _ _ ?_⟩ | refine ⟨?_, ?_, hK' _ _ ?_⟩ | refine ⟨?_, ?_, ?_, hK' _ _ ?_⟩) <;> clear hK' K' <;> (first | (show alist _ _ _ _ _ _; skip) | (intro s hs; cases hs; done) | assumption | (simp; done) | omega | (simp; omega) | skip)))) | refine al_e rfl rfl ?_ | refine al_u rfl rfl ?_ | ((fail_if_success (refine al_t rfl rfl fun K' hK' => ?_)); refine al_s _ rfl rfl rfl (fun hb => ?_) (fun hb => ?_)))); all_goals (refine al_nil ?_; (simp only [go_sem, simprocAttr, hget, hnn, List.getElem?_map, Int.toNat_natCast, Option.map_some, List.length_map]); refine hK _ ?_; clear hK K))
        refine ⟨_, ?_, i + 1, hi2, rfl, ?_, ?_⟩
        · omega
        · intro j hj y hy
          by_cases e : j = i
          · subst e; rw [hget] at hy; cases hy; exact hpn
          · exact hbefore j (by omega) y hy
        · rw [wrap_next hi2 hlen]

  · refine awp_exit ?_
    clear hK
    refine hK _ ?_; clear hK K
    have hi2 : i = ls.length := by simp at hc; omega
    (refine awp_reg_seq [4] fun K hK => ?_; (repeat' (first | ((first | refine al_r rfl fun K' hK' => ?_ | refine al_d rfl fun K' hK' => ?_ | refine al_t rfl rfl fun K' hK' => ?_); (repeat (first | (simp only [go_sem, simprocAttr, List.length_map]) | refine AS.mk ?_ | refine AAp.grow ?_)); (first | ((first | refine hK' _ _ ?_ | refine ⟨?_, hK' _ _ ?_⟩ | refine ⟨?_, ?_, hK' _ _ ?_⟩ | refine ⟨?_, ?_, ?_, hK' _ _ ?_⟩) <;> clear hK' K' <;> (first | (show alist _ _ _ _ _ _; skip) | (intro s hs; cases hs; done) | assumption | (simp; done) | omega | (simp; omega) | skip)))) | refine al_e rfl rfl ?_ | refine al_u rfl rfl ?_ | ((fail_if_success (refine al_t rfl rfl fun K' hK' => ?_)); refine al_s _ rfl rfl rfl (fun hb => ?_) (fun hb => ?_)))); all_goals (refine al_nil ?_; (simp only [go_sem, simprocAttr, List.length_map]); refine hK _ ?_; clear hK K))
    refine awp_ret ?_; (first | refine hR _ _ (.inl rfl) rfl ?_ | refine hR _ _ (.inl rfl) rfl ?_ ?_)
    · simp only [go_sem, simprocAttr, List.length_map]
      rw [firstAt_none fun j y hy => hbefore j (by
        rcases Nat.lt_or_ge j ls.length with h' | h'
        · omega
        · simp [List.getElem?_eq_none h'] at hy) y hy]
    · exact hob




theorem badE (e : Int) : ACallP Try.prog 55 [iD e] (bD (e != 0)) := by
  refine acallp_fn [2] Try.func55 rfl rfl Try.ntmps55 (by simp) fun R hR => ?_
  (refine awp_reg_seq [0] fun K hK => ?_; (repeat' (first | ((first | refine al_r rfl fun K' hK' => ?_ | refine al_d rfl fun K' hK' => ?_ | refine al_t rfl rfl fun K' hK' => ?_); (repeat (first | (simp only [go_sem, simprocAttr]) | refine AS.mk ?_ | refine AAp.grow ?_)); (first | ((first | refine hK' _ _ ?_ | refine ⟨?_, hK' _ _ ?_⟩ | refine ⟨?_, ?_, hK' _ _ ?_⟩ | refine ⟨?_, ?_, ?_, hK' _ _ ?_⟩) <;> clear hK' K' <;> (first | (show alist _ _ _ _ _ _; skip) | (intro s hs; cases hs; done) | assumption | (simp; done) | omega | (simp; omega) | skip)))) | refine al_e rfl rfl ?_ | refine al_u rfl rfl ?_ | ((fail_if_success (refine al_t rfl rfl fun K' hK' => ?_)); refine al_s _ rfl rfl rfl (fun hb => ?_) (fun hb => ?_)))); all_goals (refine al_nil ?_; (simp only [go_sem, simprocAttr]); refine hK _ ?_; clear hK K))
  (refine awp_reg_seq [2] fun K hK => ?_; (repeat' (first | ((first | refine al_r rfl fun K' hK' => ?_ | refine al_d rfl fun K' hK' => ?_ | refine al_t rfl rfl fun K' hK' => ?_); (repeat (first | (simp only [go_sem, simprocAttr]) | refine AS.mk ?_ | refine AAp.grow ?_)); (first | ((first | refine hK' _ _ ?_ | refine ⟨?_, hK' _ _ ?_⟩ | refine ⟨?_, ?_, hK' _ _ ?_⟩ | refine ⟨?_, ?_, ?_, hK' _ _ ?_⟩) <;> clear hK' K' <;> (first | (show alist _ _ _ _ _ _; skip) | (intro s hs; cases hs; done) | assumption | (simp; done) | omega | (simp; omega) | skip)))) | refine al_e rfl rfl ?_ | refine al_u rfl rfl ?_ | ((fail_if_success (refine al_t rfl rfl fun K' hK' => ?_)); refine al_s _ rfl rfl rfl (fun hb => ?_) (fun hb => ?_)))); all_goals (refine al_nil ?_; (simp only [go_sem, simprocAttr]); refine hK _ ?_; clear hK K))
  all_goals (refine awp_ret ?_; (first | refine hR _ _ (.inl rfl) rfl ?_ | refine hR _ _ (.inl rfl) rfl ?_ ?_); (first | (simp only [go_sem, simprocAttr, *, Bool.and_true, Bool.and_false, Bool.true_and, Bool.false_and, Bool.or_true, Bool.true_or, Bool.or_false, Bool.false_or, Bool.not_true, Bool.not_false, Bool.false_eq_true]; done) | contradiction | (simp_all; done) | simp only [go_sem, simprocAttr, *, Bool.and_true, Bool.and_false, Bool.true_and, Bool.false_and, Bool.or_true, Bool.true_or, Bool.or_false, Bool.false_or, Bool.not_true, Bool.not_false, Bool.false_eq_true]))


theorem anyE (ns : List Int) (hlen : ns.length ≤ maxLen) : ACallP Try.prog 54 [ints ns, .fn 55 []] (bD (ns.any fun e => e != 0)) := by
  have hix := (indexE ns hlen 55 [] (fun e => e != 0) [] [] (by simp) (by simp) (by simp) rfl rfl rfl (by simp) (by simp) Try.call55 fun n _ => (badE n).o).p
  have hn := firstAt_nonneg (p := fun e : Int => e != 0) (l := ns)
  rw [← hn]
  refine acallp_fn [4] Try.func54 rfl rfl Try.ntmps54 (by simp) fun R hR => ?_
  (refine awp_reg_seq [0, 1] fun K hK => ?_; (repeat' (first | ((first | refine al_r rfl fun K' hK' => ?_ | refine al_d rfl fun K' hK' => ?_ | refine al_t rfl rfl fun K' hK' => ?_); (repeat (first | (simp only [go_sem, simprocAttr]) | refine AS.mk ?_ | refine AAp.grow ?_)); (first | ((first | refine hK' _ _ ?_ | refine ⟨?_, hK' _ _ ?_⟩ | refine ⟨?_, ?_, hK' _ _ ?_⟩ | refine ⟨?_, ?_, ?_, hK' _ _ ?_⟩) <;> clear hK' K' <;> (first | (show alist _ _ _ _ _ _; skip) | (intro s hs; cases hs; done) | assumption | (simp; done) | omega | (simp; omega) | skip)))) | refine al_e rfl rfl ?_ | refine al_u rfl rfl ?_ | ((fail_if_success (refine al_t rfl rfl fun K' hK' => ?_)); refine al_s _ rfl rfl rfl (fun hb => ?_) (fun hb => ?_)))); all_goals (refine al_nil ?_; (simp only [go_sem, simprocAttr]); refine hK _ ?_; clear hK K))
  (refine awp_reg_seq [4] fun K hK => ?_; (repeat' (first | ((first | refine al_r rfl fun K' hK' => ?_ | refine al_d rfl fun K' hK' => ?_ | refine al_t rfl rfl fun K' hK' => ?_); (repeat (first | (simp only [go_sem, simprocAttr]) | refine AS.mk ?_ | refine AAp.grow ?_)); (first | ((first | refine hK' _ _ ?_ | refine ⟨?_, hK' _ _ ?_⟩ | refine ⟨?_, ?_, hK' _ _ ?_⟩ | refine ⟨?_, ?_, ?_, hK' _ _ ?_⟩) <;> clear hK' K' <;> (first | (show alist _ _ _ _ _ _; skip) | (intro s hs; cases hs; done) | assumption | (simp; done) | omega | (simp; omega) | skip)) | ((show AC _ _ (D.fn 79 _) _ _); refine acall_p (f := 79) (e := rfl) (hr := rfl) (k := hK' _ _ ?_) (hc := Try.call79) (h := hix); clear hK' K'))) | refine al_e rfl rfl ?_ | refine al_u rfl rfl ?_ | ((fail_if_success (refine al_t rfl rfl fun K' hK' => ?_)); refine al_s _ rfl rfl rfl (fun hb => ?_) (fun hb => ?_)))); all_goals (refine al_nil ?_; (simp only [go_sem, simprocAttr]); refine hK _ ?_; clear hK K))
  all_goals (refine awp_ret ?_; (first | refine hR _ _ (.inl rfl) rfl ?_ | refine hR _ _ (.inl rfl) rfl ?_ ?_); (first | (simp only [go_sem, simprocAttr, *, Bool.and_true, Bool.and_false, Bool.true_and, Bool.false_and, Bool.or_true, Bool.true_or, Bool.or_false, Bool.false_or, Bool.not_true, Bool.not_false, Bool.false_eq_true]; done) | contradiction | (simp_all; done) | simp only [go_sem, simprocAttr, *, Bool.and_true, Bool.and_false, Bool.true_and, Bool.false_and, Bool.or_true, Bool.true_or, Bool.or_false, Bool.false_or, Bool.not_true, Bool.not_false, Bool.false_eq_true]))


theorem goodE (ns : List Int) (hlen : ns.length ≤ maxLen) : ACallP Try.prog 20 [ints ns] (bD (!(ns.any fun e => e != 0))) := by
  have han := anyE ns hlen
  refine acallp_fn [2] Try.func20 rfl rfl Try.ntmps20 (by simp) fun R hR => ?_
  (refine awp_reg_seq [0] fun K hK => ?_; (repeat' (first | ((first | refine al_r rfl fun K' hK' => ?_ | refine al_d rfl fun K' hK' => ?_ | refine al_t rfl rfl fun K' hK' => ?_); (repeat (first | (simp only [go_sem, simprocAttr]) | refine AS.mk ?_ | refine AAp.grow ?_)); (first | ((first | refine hK' _ _ ?_ | refine ⟨?_, hK' _ _ ?_⟩ | refine ⟨?_, ?_, hK' _ _ ?_⟩ | refine ⟨?_, ?_, ?_, hK' _ _ ?_⟩) <;> clear hK' K' <;> (first | (show alist _ _ _ _ _ _; skip) | (intro s hs; cases hs; done) | assumption | (simp; done) | omega | (simp; omega) | skip)))) | refine al_e rfl rfl ?_ | refine al_u rfl rfl ?_ | ((fail_if_success (refine al_t rfl rfl fun K' hK' => ?_)); refine al_s _ rfl rfl rfl (fun hb => ?_) (fun hb => ?_)))); all_goals (refine al_nil ?_; (simp only [go_sem, simprocAttr]); refine hK _ ?_; clear hK K))
  (refine awp_reg_seq [2] fun K hK => ?_; (repeat' (first | ((first | refine al_r rfl fun K' hK' => ?_ | refine al_d rfl fun K' hK' => ?_ | refine al_t rfl rfl fun K' hK' => ?_); (repeat (first | (simp only [go_sem, simprocAttr]) | refine AS.mk ?_ | refine AAp.grow ?_)); (first | ((first | refine hK' _ _ ?_ | refine ⟨?_, hK' _ _ ?_⟩ | refine ⟨?_, ?_, hK' _ _ ?_⟩ | refine ⟨?_, ?_, ?_, hK' _ _ ?_⟩) <;> clear hK' K' <;> (first | (show alist _ _ _ _ _ _; skip) | (intro s hs; cases hs; done) | assumption | (simp; done) | omega | (simp; omega) | skip)) | ((show AC _ _ (D.fn 54 _) _ _); refine acall_p (f := 54) (e := rfl) (hr := rfl) (k := hK' _ _ ?_) (hc := Try.call54) (h := han); clear hK' K'))) | refine al_e rfl rfl ?_ | refine al_u rfl rfl ?_ | ((fail_if_success (refine al_t rfl rfl fun K' hK' => ?_)); refine al_s _ rfl rfl rfl (fun hb => ?_) (fun hb => ?_)))); all_goals (refine al_nil ?_; (simp only [go_sem, simprocAttr]); refine hK _ ?_; clear hK K))
  all_goals (refine awp_ret ?_; (first | refine hR _ _ (.inl rfl) rfl ?_ | refine hR _ _ (.inl rfl) rfl ?_ ?_); (first | (simp only [go_sem, simprocAttr, *, Bool.and_true, Bool.and_false, Bool.true_and, Bool.false_and, Bool.or_true, Bool.true_or, Bool.or_false, Bool.false_or, Bool.not_true, Bool.not_false, Bool.false_eq_true]; done) | contradiction | (simp_all; done) | simp only [go_sem, simprocAttr, *, Bool.and_true, Bool.and_false, Bool.true_and, Bool.false_and, Bool.or_true, Bool.true_or, Bool.or_false, Bool.false_or, Bool.not_true, Bool.not_false, Bool.false_eq_true]))

theorem good00 : ACallP Try.prog 20 [.p (.sl [[.lit (.int .i64 0)], [.lit (.int .i64 0)]])] (bD true) := goodE [0, 0] (by simp [maxLen])


theorem equalU (a b : List Int) (ha : a.length ≤ maxLen) : ACallP Try.prog 21 [words a, words b] (bD (listEq eqI a b)) := by
  refine acallp_fn [4] Try.func21 rfl rfl Try.ntmps21 (by simp) fun R hR => ?_
  (refine awp_reg_seq [0, 1] fun K hK => ?_; (repeat' (first | ((first | refine al_r rfl fun K' hK' => ?_ | refine al_d rfl fun K' hK' => ?_ | refine al_t rfl rfl fun K' hK' => ?_); (repeat (first | (simp only [go_sem, simprocAttr, List.length_map]) | refine AS.mk ?_ | refine AAp.grow ?_)); (first | ((first | refine hK' _ _ ?_ | refine ⟨?_, hK' _ _ ?_⟩ | refine ⟨?_, ?_, hK' _ _ ?_⟩ | refine ⟨?_, ?_, ?_, hK' _ _ ?_⟩) <;> clear hK' K' <;> (first | (show alist _ _ _ _ _ _; skip) | (intro s hs; cases hs; done) | assumption | (simp; done) | omega | (simp; omega) | skip)) | ((show AC _ _ (D.fn 79 _) _ _); refine acall_p (f := 79) (e := rfl) (hr := rfl) (k := hK' _ _ ?_) (hc := Try.call79) (h := hix); clear hK' K') | ((show AC _ _ (D.fn 54 _) _ _); refine acall_p (f := 54) (e := rfl) (hr := rfl) (k := hK' _ _ ?_) (hc := Try.call54) (h := han); clear hK' K'))) | refine al_e rfl rfl ?_ | refine al_u rfl rfl ?_ | ((fail_if_success (refine al_t rfl rfl fun K' hK' => ?_)); refine al_s _ rfl rfl rfl (fun hb => ?_) (fun hb => ?_)))); all_goals (refine al_nil ?_; (simp only [go_sem, simprocAttr, List.length_map]); refine hK _ ?_; clear hK K))
  refine awp_seq_k fun K hK => ?_
  (refine awp_reg_seq [0, 1, 10] fun K hK => ?_; (repeat' (first | ((first | refine al_r rfl fun K' hK' => ?_ | refine al_d rfl fun K' hK' => ?_ | refine al_t rfl rfl fun K' hK' => ?_); (repeat (first | (simp only [go_sem, simprocAttr, List.length_map]) | refine AS.mk ?_ | refine AAp.grow ?_)); (first | ((first | refine hK' _ _ ?_ | refine ⟨?_, hK' _ _ ?_⟩ | refine ⟨?_, ?_, hK' _ _ ?_⟩ | refine ⟨?_, ?_, ?_, hK' _ _ ?_⟩) <;> clear hK' K' <;> (first | (show alist _ _ _ _ _ _; skip) | (intro s hs; cases hs; done) | assumption | (simp; done) | omega | (simp; omega) | skip)) | ((show AC _ _ (D.fn 79 _) _ _); refine acall_p (f := 79) (e := rfl) (hr := rfl) (k := hK' _ _ ?_) (hc := Try.call79) (h := hix); clear hK' K') | ((show AC _ _ (D.fn 54 _) _ _); refine acall_p (f := 54) (e := rfl) (hr := rfl) (k := hK' _ _ ?_) (hc := Try.call54) (h := han); clear hK' K'))) | refine al_e rfl rfl ?_ | refine al_u rfl rfl ?_ | ((fail_if_success (refine al_t rfl rfl fun K' hK' => ?_)); refine al_s _ rfl rfl rfl (fun hb => ?_) (fun hb => ?_)))); all_goals (refine al_nil ?_; (simp only [go_sem, simprocAttr, List.length_map]); refine hK _ ?_; clear hK K))
  refine awp_if (_) rfl (fun hc => ?_) (fun hc => ?_)
  · have hl : a.length ≠ b.length := by
      intro e; rw [e] at hc; simp at hc
    rw [listEq_len hl] at hR
    (refine awp_reg_seq [4] fun K hK => ?_; (repeat' (first | ((first | refine al_r rfl fun K' hK' => ?_ | refine al_d rfl fun K' hK' => ?_ | refine al_t rfl rfl fun K' hK' => ?_); (repeat (first | (simp only [go_sem, simprocAttr, List.length_map]) | refine AS.mk ?_ | refine AAp.grow ?_)); (first | ((first | refine hK' _ _ ?_ | refine ⟨?_, hK' _ _ ?_⟩ | refine ⟨?_, ?_, hK' _ _ ?_⟩ | refine ⟨?_, ?_, ?_, hK' _ _ ?_⟩) <;> clear hK' K' <;> (first | (show alist _ _ _ _ _ _; skip) | (intro s hs; cases hs; done) | assumption | (simp; done) | omega | (simp; omega) | skip)) | ((show AC _ _ (D.fn 79 _) _ _); refine acall_p (f := 79) (e := rfl) (hr := rfl) (k := hK' _ _ ?_) (hc := Try.call79) (h := hix); clear hK' K') | ((show AC _ _ (D.fn 54 _) _ _); refine acall_p (f := 54) (e := rfl) (hr := rfl) (k := hK' _ _ ?_) (hc := Try.call54) (h := han); clear hK' K'))) | refine al_e rfl rfl ?_ | refine al_u rfl rfl ?_ | ((fail_if_success (refine al_t rfl rfl fun K' hK' => ?_)); refine al_s _ rfl rfl rfl (fun hb => ?_) (fun hb => ?_)))); all_goals (refine al_nil ?_; (simp only [go_sem, simprocAttr, List.length_map]); refine hK _ ?_; clear hK K))
    refine awp_ret ?_; (first | refine hR _ _ (.inl rfl) rfl ?_ | refine hR _ _ (.inl rfl) rfl ?_ ?_)
    simp only [go_sem, simprocAttr, List.length_map]
  · have hl : a.length = b.length := by
      have : ((a.length : Int) != b.length) = false := hc
      simp at this; omega
    refine awp_skip ?_
    refine hK _ ?_; clear hK K
    refine awp_seq_k fun K hK => ?_
    (refine awp_reg_seq [0, 1, 12, 13] fun K hK => ?_; (repeat' (first | ((first | refine al_r rfl fun K' hK' => ?_ | refine al_d rfl fun K' hK' => ?_ | refine al_t rfl rfl fun K' hK' => ?_); (repeat (first | (simp only [go_sem, simprocAttr, List.length_map]) | refine AS.mk ?_ | refine AAp.grow ?_)); (first | ((first | refine hK' _ _ ?_ | refine ⟨?_, hK' _ _ ?_⟩ | refine ⟨?_, ?_, hK' _ _ ?_⟩ | refine ⟨?_, ?_, ?_, hK' _ _ ?_⟩) <;> clear hK' K' <;> (first | (show alist _ _ _ _ _ _; skip) | (intro s hs; cases hs; done) | assumption | (simp; done) | omega | (simp; omega) | skip)) | ((show AC _ _ (D.fn 79 _) _ _); refine acall_p (f := 79) (e := rfl) (hr := rfl) (k := hK' _ _ ?_) (hc := Try.call79) (h := hix); clear hK' K') | ((show AC _ _ (D.fn 54 _) _ _); refine acall_p (f := 54) (e := rfl) (hr := rfl) (k := hK' _ _ ?_) (hc := Try.call54) (h := han); clear hK' K'))) | refine al_e rfl rfl ?_ | refine al_u rfl rfl ?_ | ((fail_if_success (refine al_t rfl rfl fun K' hK' => ?_)); refine al_s _ rfl rfl rfl (fun hb => ?_) (fun hb => ?_)))); all_goals (refine al_nil ?_; (simp only [go_sem, simprocAttr, List.length_map]); refine hK _ ?_; clear hK K))
    refine awp_block ?_
    refine awp_loop (fun m s => ∃ i : Nat, i ≤ a.length ∧ m = a.length - i ∧ (∀ (j : Nat) x y, j < i → a[j]? = some x → b[j]? = some y → eqI x y = true) ∧ s = ⟨ofL [(0, words a), (1, words b), (12, iD a.length), (13, iD i)], [], 0⟩) ⟨_, 0, Nat.zero_le _, rfl, fun j _ _ hj => absurd hj (by omega), rfl⟩ ?_
    rintro m s ⟨i, hi, rfl, hbefore, rfl⟩
    (refine awp_reg_seq [0, 1, 12, 13, 14] fun K hK => ?_; (repeat' (first | ((first | refine al_r rfl fun K' hK' => ?_ | refine al_d rfl fun K' hK' => ?_ | refine al_t rfl rfl fun K' hK' => ?_); (repeat (first | (simp only [go_sem, simprocAttr, List.length_map]) | refine AS.mk ?_ | refine AAp.grow ?_)); (first | ((first | refine hK' _ _ ?_ | refine ⟨?_, hK' _ _ ?_⟩ | refine ⟨?_, ?_, hK' _ _ ?_⟩ | refine ⟨?_, ?_, ?_, hK' _ _ ?_⟩) <;> clear hK' K' <;> (first | (show alist _ _ _ _ _ _; skip) | (intro s hs; cases hs; done) | assumption | (simp; done) | omega | (simp; omega) | skip)) | ((show AC _ _ (D.fn 79 _) _ _); refine acall_p (f := 79) (e := rfl) (hr := rfl) (k := hK' _ _ ?_) (hc := Try.call79) (h := hix); clear hK' K') | ((show AC _ _ (D.fn 54 _) _ _); refine acall_p (f := 54) (e := rfl) (hr := rfl) (k := hK' _ _ ?_) (hc := Try.call54) (h := han); clear hK' K'))) | refine al_e rfl rfl ?_ | refine al_u rfl rfl ?_ | ((fail_if_success (refine al_t rfl rfl fun K' hK' => ?_)); refine al_s _ rfl rfl rfl (fun hb => ?_) (fun hb => ?_)))); all_goals (refine al_nil ?_; (simp only [go_sem, simprocAttr, List.length_map]); refine hK _ ?_; clear hK K))
    refine awp_seq_k fun K hK => ?_
    refine awp_if (decide ((i : Int) < a.length)) rfl (fun hc => ?_) (fun hc => ?_)
    · refine awp_skip ?_
      refine hK _ ?_; clear hK K
      have hi2 : i < a.length := by simpa using hc
      obtain ⟨x, hx⟩ := get_of_lt hi2
      obtain ⟨y, hy⟩ := get_of_lt (l := b) (i := i) (by omega)
      have hnn : (0 : Int) ≤ (i : Int) := Int.natCast_nonneg i

      refine awp_seq_k fun K hK => ?_
      refine awp_block ?_
      (refine awp_reg_seq [0, 1, 5, 12, 13] fun K hK => ?_; (repeat' (first | ((first | refine al_r rfl fun K' hK' => ?_ | refine al_d rfl fun K' hK' => ?_ | refine al_t rfl rfl fun K' hK' => ?_); (repeat (first | (simp only [go_sem, simprocAttr, hx, hy, hnn, List.length_map, List.getElem?_map, Int.toNat_natCast, Option.map_some, List.length_map]) | refine AS.mk ?_ | refine AAp.grow ?_)); (first | ((first | refine hK' _ _ ?_ | refine ⟨?_, hK' _ _ ?_⟩ | refine ⟨?_, ?_, hK' _ _ ?_⟩ | refine ⟨?_, ?_, ?_, hK' _ _ ?_⟩) <;> clear hK' K' <;> (first | (show alist _ _ _ _ _ _; skip) | (intro s hs; cases hs; done) | assumption | (simp; done) | omega | (simp; omega) | skip)) | ((show AC _ _ (D.fn 79 _) _ _); refine acall_p (f := 79) (e := rfl) (hr := rfl) (k := hK' _ _ ?_) (hc := Try.call79) (h := hix); clear hK' K') | ((show AC _ _ (D.fn 54 _) _ _); refine acall_p (f := 54) (e := rfl) (hr := rfl) (k := hK' _ _ ?_) (hc := Try.call54) (h := han); clear hK' K'))) | refine al_e rfl rfl ?_ | refine al_u rfl rfl ?_ | ((fail_if_success (refine al_t rfl rfl fun K' hK' => ?_)); refine al_s _ rfl rfl rfl (fun hb => ?_) (fun hb => ?_)))); all_goals (refine al_nil ?_; (simp only [go_sem, simprocAttr, hx, hy, hnn, List.length_map, List.getElem?_map, Int.toNat_natCast, Option.map_some, List.length_map]); refine hK _ ?_; clear hK K))
      refine awp_draw_seq (by kernel_rfl) [0, 1, 12, 13, 24] fun K hK => ?_
      (first | (first | refine ah_r 0 rfl (by kernel_rfl) rfl fun K' hK' => ?_ | refine ah_t 0 rfl (by kernel_rfl) rfl rfl fun K' hK' => ?_); (simp only [go_sem, simprocAttr, hx, hy, hnn, List.length_map, List.getElem?_map, Int.toNat_natCast, Option.map_some, List.length_map]); (first | (refine hK' _ ?_); clear hK' K' | ((first | refine ⟨?_, hK' _ ?_⟩ | refine ⟨?_, ?_, hK' _ ?_⟩) <;> clear hK' K' <;> (first | (show alist _ _ _ _ _ _; skip) | (intro s hs; cases hs; done) | assumption | (simp; done) | omega | (simp; omega) | skip))) | refine ah_e 0 rfl (by kernel_rfl) rfl rfl ?_ | refine ah_u 0 rfl (by kernel_rfl) rfl rfl ?_)
      (first | (first | refine ah_r 1 rfl (by kernel_rfl) rfl fun K' hK' => ?_ | refine ah_t 1 rfl (by kernel_rfl) rfl rfl fun K' hK' => ?_); (simp only [go_sem, simprocAttr, hx, hy, hnn, List.length_map, List.getElem?_map, Int.toNat_natCast, Option.map_some, List.length_map]); (first | (refine hK' _ ?_); clear hK' K' | ((first | refine ⟨?_, hK' _ ?_⟩ | refine ⟨?_, ?_, hK' _ ?_⟩) <;> clear hK' K' <;> (first | (show alist _ _ _ _ _ _; skip) | (intro s hs; cases hs; done) | assumption | (simp; done) | omega | (simp; omega) | skip))) | refine ah_e 1 rfl (by kernel_rfl) rfl rfl ?_ | refine ah_u 1 rfl (by kernel_rfl) rfl rfl ?_)
      (first | (first | refine ah_r 2 rfl (by kernel_rfl) rfl fun K' hK' => ?_ | refine ah_t 2 rfl (by kernel_rfl) rfl rfl fun K' hK' => ?_); (simp only [go_sem, simprocAttr, hx, hy, hnn, List.length_map, List.getElem?_map, Int.toNat_natCast, Option.map_some, List.length_map]); (first | (refine hK' _ ?_); clear hK' K' | ((first | refine ⟨?_, hK' _ ?_⟩ | refine ⟨?_, ?_, hK' _ ?_⟩) <;> clear hK' K' <;> (first | (show alist _ _ _ _ _ _; skip) | (intro s hs; cases hs; done) | assumption | (simp; done) | omega | (simp; omega) | skip))) | refine ah_e 2 rfl (by kernel_rfl) rfl rfl ?_ | refine ah_u 2 rfl (by kernel_rfl) rfl rfl ?_)
      (first | (first | refine ah_r 3 rfl (by kernel_rfl) rfl fun K' hK' => ?_ | refine ah_t 3 rfl (by kernel_rfl) rfl rfl fun K' hK' => ?_); (simp only [go_sem, simprocAttr, hx, hy, hnn, List.length_map, List.getElem?_map, Int.toNat_natCast, Option.map_some, List.length_map]); (first | (refine hK' _ ?_); clear hK' K' | ((first | refine ⟨?_, hK' _ ?_⟩ | refine ⟨?_, ?_, hK' _ ?_⟩) <;> clear hK' K' <;> (first | (show alist _ _ _ _ _ _; skip) | (intro s hs; cases hs; done) | assumption | (simp; done) | omega | (simp; omega) | skip))) | refine ah_e 3 rfl (by kernel_rfl) rfl rfl ?_ | refine ah_u 3 rfl (by kernel_rfl) rfl rfl ?_)
      (first | (first | refine ah_r 4 rfl (by kernel_rfl) rfl fun K' hK' => ?_ | refine ah_t 4 rfl (by kernel_rfl) rfl rfl fun K' hK' => ?_); (simp only [go_sem, simprocAttr, hx, hy, hnn, List.length_map, List.getElem?_map, Int.toNat_natCast, Option.map_some, List.length_map]); (first | (refine hK' _ ?_); clear hK' K' | ((first | refine ⟨?_, hK' _ ?_⟩ | refine ⟨?_, ?_, hK' _ ?_⟩) <;> clear hK' K' <;> (first | (show alist _ _ _ _ _ _; skip) | (intro s hs; cases hs; done) | assumption | (simp; done) | omega | (simp; omega) | skip))) | refine ah_e 4 rfl (by kernel_rfl) rfl rfl ?_ | refine ah_u 4 rfl (by kernel_rfl) rfl rfl ?_)
      (first | (first | refine ah_r 5 rfl (by kernel_rfl) rfl fun K' hK' => ?_ | refine ah_t 5 rfl (by kernel_rfl) rfl rfl fun K' hK' => ?_); (simp only [go_sem, simprocAttr, hx, hy, hnn, List.length_map, List.getElem?_map, Int.toNat_natCast, Option.map_some, List.length_map]); (first | (refine hK' _ ?_); clear hK' K' | ((first | refine ⟨?_, hK' _ ?_⟩ | refine ⟨?_, ?_, hK' _ ?_⟩) <;> clear hK' K' <;> (first | (show alist _ _ _ _ _ _; skip) | (intro s hs; cases hs; done) | assumption | (simp; done) | omega | (simp; omega) | skip))) | refine ah_e 5 rfl (by kernel_rfl) rfl rfl ?_ | refine ah_u 5 rfl (by kernel_rfl) rfl rfl ?_)
      (first | (first | refine ah_r 6 rfl (by kernel_rfl) rfl fun K' hK' => ?_ | refine ah_t 6 rfl (by kernel_rfl) rfl rfl fun K' hK' => ?_); (simp only [go_sem, simprocAttr, hx, hy, hnn, List.length_map, List.getElem?_map, Int.toNat_natCast, Option.map_some, List.length_map]); (first | (refine hK' _ ?_); clear hK' K' | ((first | refine ⟨?_, hK' _ ?_⟩ | refine ⟨?_, ?_, hK' _ ?_⟩) <;> clear hK' K' <;> (first | (show alist _ _ _ _ _ _; skip) | (intro s hs; cases hs; done) | assumption | (simp; done) | omega | (simp; omega) | skip))) | refine ah_e 6 rfl (by kernel_rfl) rfl rfl ?_ | refine ah_u 6 rfl (by kernel_rfl) rfl rfl ?_)
      (first | (first | refine ah_r 7 rfl (by kernel_rfl) rfl fun K' hK' => ?_ | refine ah_t 7 rfl (by kernel_rfl) rfl rfl fun K' hK' => ?_); (simp only [go_sem, simprocAttr, hx, hy, hnn, List.length_map, List.getElem?_map, Int.toNat_natCast, Option.map_some, List.length_map]); (first | (refine hK' _ ?_); clear hK' K' | ((first | refine ⟨?_, hK' _ ?_⟩ | refine ⟨?_, ?_, hK' _ ?_⟩) <;> clear hK' K' <;> (first | (show alist _ _ _ _ _ _; skip) | (intro s hs; cases hs; done) | assumption | (simp; done) | omega | (simp; omega) | skip))) | refine ah_e 7 rfl (by kernel_rfl) rfl rfl ?_ | refine ah_u 7 rfl (by kernel_rfl) rfl rfl ?_)
      (first | (first | refine ah_r 8 rfl (by kernel_rfl) rfl fun K' hK' => ?_ | refine ah_t 8 rfl (by kernel_rfl) rfl rfl fun K' hK' => ?_); (simp only [go_sem, simprocAttr, hx, hy, hnn, List.length_map, List.getElem?_map, Int.toNat_natCast, Option.map_some, List.length_map]); (first | (refine hK' _ ?_); clear hK' K' | ((first | refine ⟨?_, hK' _ ?_⟩ | refine ⟨?_, ?_, hK' _ ?_⟩) <;> clear hK' K' <;> (first | (show alist _ _ _ _ _ _; skip) | (intro s hs; cases hs; done) | assumption | (simp; done) | omega | (simp; omega) | skip))) | refine ah_e 8 rfl (by kernel_rfl) rfl rfl ?_ | refine ah_u 8 rfl (by kernel_rfl) rfl rfl ?_)
      (refine ah_done (by kernel_rfl) ?_; (simp only [go_sem, simprocAttr, hx, hy, hnn, List.length_map, List.getElem?_map, Int.toNat_natCast, Option.map_some, List.length_map]); refine hK _ ?_; clear hK K)
      refine awp_if (!(eqI x y)) rfl (fun hc => ?_) (fun hc => ?_)
      · have he : eqI x y = false := by simpa using hc
        rw [listEq_not hx hy he] at hR
        (refine awp_reg_seq [4] fun K hK => ?_; (repeat' (first | ((first | refine al_r rfl fun K' hK' => ?_ | refine al_d rfl fun K' hK' => ?_ | refine al_t rfl rfl fun K' hK' => ?_); (repeat (first | (simp only [go_sem, simprocAttr, hx, hy, hnn, List.length_map, List.getElem?_map, Int.toNat_natCast, Option.map_some, List.length_map]) | refine AS.mk ?_ | refine AAp.grow ?_)); (first | ((first | refine hK' _ _ ?_ | refine ⟨?_, hK' _ _ ?_⟩ | refine ⟨?_, ?_, hK' _ _ ?_⟩ | refine ⟨?_, ?_, ?_, hK' _ _ ?_⟩) <;> clear hK' K' <;> (first | (show alist _ _ _ _ _ _; skip) | (intro s hs; cases hs; done) | assumption | (simp; done) | omega | (simp; omega) | skip)) | ((show AC _ _ (D.fn 79 _) _ _); refine acall_p (f := 79) (e := rfl) (hr := rfl) (k := hK' _ _ ?_) (hc := Try.call79) (h := hix); clear hK' K') | ((show AC _ _ (D.fn 54 _) _ _); refine acall_p (f := 54) (e := rfl) (hr := rfl) (k := hK' _ _ ?_) (hc := Try.call54) (h := han); clear hK' K'))) | refine al_e rfl rfl ?_ | refine al_u rfl rfl ?_ | ((fail_if_success (refine al_t rfl rfl fun K' hK' => ?_)); refine al_s _ rfl rfl rfl (fun hb => ?_) (fun hb => ?_)))); all_goals (refine al_nil ?_; (simp only [go_sem, simprocAttr, hx, hy, hnn, List.length_map, List.getElem?_map, Int.toNat_natCast, Option.map_some, List.length_map]); refine hK _ ?_; clear hK K))
        refine awp_ret ?_; (first | refine hR _ _ (.inl rfl) rfl ?_ | refine hR _ _ (.inl rfl) rfl ?_ ?_)
        simp only [go_sem, simprocAttr, hx, hy, hnn, List.length_map, List.getElem?_map, Int.toNat_natCast, Option.map_some, List.length_map]
      · have he : eqI x y = true := by simpa using hc
        refine awp_skip ?_
        refine hK _ ?_; clear hK K
        (refine awp_reg_end [0, 1, 12, 13] fun K hK => ?_; (repeat' (first | ((first | refine al_r rfl fun K' hK' => ?_ | refine al_d rfl fun K' hK' => ?_ | refine al_t rfl rfl fun K' hK' => ?_); (repeat (first | (simp only [go_sem, simprocAttr, hx, hy, hnn, List.length_map, List.getElem?_map, Int.toNat_natCast, Option.map_some, List.length_map]) | refine AS.mk ?_ | refine AAp.grow ?_)); (first | ((first | refine hK' _ _ ?_ | refine ⟨?_, hK' _ _ ?_⟩ | refine ⟨?_, ?_, hK' _ _ ?_⟩ | refine ⟨?_, ?_, ?_, hK' _ _ ?_⟩) <;> clear hK' K' <;> (first | (show alist _ _ _ _ _ _; skip) | (intro s hs; cases hs; done) | assumption | (simp; done) | omega | (simp; omega) | skip)) | ((show AC _ _ (D.fn 79 _) _ _); refine acall_p (f := 79) (e := rfl) (hr := rfl) (k := hK' _ _ ?_) (hc := Try.call79) (h := hix); clear hK' K') | ((show AC _ _ (D.fn 54 _) _ _); refine acall_p (f := 54) (e := rfl) (hr := rfl) (k := hK' _ _ ?_) (hc := Try.call54) (h := han); clear hK' K'))) | refine al_e rfl rfl ?_ | refine al_u rfl rfl ?_ | ((fail_if_success (refine al_t rfl rfl fun K' hK' => ?_)); refine al_s _ rfl rfl rfl (fun hb => ?_) (fun hb => ?_)))); all_goals (refine al_nil ?_; (simp only [go_sem, simprocAttr, hx, hy, hnn, List.length_map, List.getElem?_map, Int.toNat_natCast, Option.map_some, List.length_map]); refine hK _ ?_; clear hK K))
        refine ⟨_, ?_, i + 1, hi2, rfl, ?_, ?_⟩
        · omega
        · intro j u v hj hu hv
          by_cases e : j = i
          · subst e; rw [hx] at hu; rw [hy] at hv; cases hu; cases hv; exact he
          · exact hbefore j u v (by omega) hu hv
        · rw [wrap_next hi2 ha]

    · refine awp_exit ?_
      clear hK
      refine hK _ ?_; clear hK K
      have hi2 : i = a.length := by simp at hc; omega
      have hfin : listEq eqI a b = true := listEq_of hl fun j x y hx hy => hbefore j x y (by have := lt_of_get hx; omega) hx hy
      rw [hfin] at hR
      (refine awp_reg_seq [4] fun K hK => ?_; (repeat' (first | ((first | refine al_r rfl fun K' hK' => ?_ | refine al_d rfl fun K' hK' => ?_ | refine al_t rfl rfl fun K' hK' => ?_); (repeat (first | (simp only [go_sem, simprocAttr, List.length_map]) | refine AS.mk ?_ | refine AAp.grow ?_)); (first | ((first | refine hK' _ _ ?_ | refine ⟨?_, hK' _ _ ?_⟩ | refine ⟨?_, ?_, hK' _ _ ?_⟩ | refine ⟨?_, ?_, ?_, hK' _ _ ?_⟩) <;> clear hK' K' <;> (first | (show alist _ _ _ _ _ _; skip) | (intro s hs; cases hs; done) | assumption | (simp; done) | omega | (simp; omega) | skip)) | ((show AC _ _ (D.fn 79 _) _ _); refine acall_p (f := 79) (e := rfl) (hr := rfl) (k := hK' _ _ ?_) (hc := Try.call79) (h := hix); clear hK' K') | ((show AC _ _ (D.fn 54 _) _ _); refine acall_p (f := 54) (e := rfl) (hr := rfl) (k := hK' _ _ ?_) (hc := Try.call54) (h := han); clear hK' K'))) | refine al_e rfl rfl ?_ | refine al_u rfl rfl ?_ | ((fail_if_success (refine al_t rfl rfl fun K' hK' => ?_)); refine al_s _ rfl rfl rfl (fun hb => ?_) (fun hb => ?_)))); all_goals (refine al_nil ?_; (simp only [go_sem, simprocAttr, List.length_map]); refine hK _ ?_; clear hK K))
      refine awp_ret ?_; (first | refine hR _ _ (.inl rfl) rfl ?_ | refine hR _ _ (.inl rfl) rfl ?_ ?_)
      simp only [go_sem, simprocAttr, List.length_map]



theorem equalU_same (l : List Int) (h : l.length ≤ maxLen) : ACallP Try.prog 21 [words l, words l] (bD true) := by
  have heq := equalU l l h
  rw [(listEq_iff eqI_iff).2 rfl] at heq
  exact heq


theorem wholeBad (h : List Int) (o : Obj) (k n : Int) (text : ByteArray) (args : List (List PV)) (e : Int) (he : (e != 0) = true) (hob : ACallP Try.prog 15 [words h] (.tup [objs [], iD e])) : ACallP Try.prog 4 [words h, objD o, valD k n text args] (bD true) := by
  refine acallp_fn [6] Try.func4 rfl rfl Try.ntmps4 (by simp) fun R hR => ?_
  (refine awp_reg_seq [0, 4, 5] fun K hK => ?_; (repeat' (first | ((first | refine al_r rfl fun K' hK' => ?_ | refine al_d rfl fun K' hK' => ?_ | refine al_t rfl rfl fun K' hK' => ?_); (repeat (first | (simp only [go_sem, simprocAttr, List.length_map, List.length_nil, he, beq_self_eq_true]) | refine AS.mk ?_ | refine AAp.grow ?_)); (first | ((first | refine hK' _ _ ?_ | refine ⟨?_, hK' _ _ ?_⟩ | refine ⟨?_, ?_, hK' _ _ ?_⟩ | refine ⟨?_, ?_, ?_, hK' _ _ ?_⟩) <;> clear hK' K' <;> (first | (show alist _ _ _ _ _ _; skip) | (intro s hs; cases hs; done) | assumption | (simp; done) | omega | (simp; omega) | skip)))) | refine al_e rfl rfl ?_ | refine al_u rfl rfl ?_ | ((fail_if_success (refine al_t rfl rfl fun K' hK' => ?_)); refine al_s _ rfl rfl rfl (fun hb => ?_) (fun hb => ?_)))); all_goals (refine al_nil ?_; (simp only [go_sem, simprocAttr, List.length_map, List.length_nil, he, beq_self_eq_true]); refine hK _ ?_; clear hK K))
  (refine awp_frz [0, 4, 5] [] (by decide) (by simp) ?_; simp only [go_sem, simprocAttr, List.length_map, List.length_nil, he, beq_self_eq_true])
  (refine awp_reg_seq [0, 4, 5, 7, 8] fun K hK => ?_; (repeat' (first | ((first | refine al_r rfl fun K' hK' => ?_ | refine al_d rfl fun K' hK' => ?_ | refine al_t rfl rfl fun K' hK' => ?_); (repeat (first | (simp only [go_sem, simprocAttr, List.length_map, List.length_nil, he, beq_self_eq_true]) | refine AS.mk ?_ | refine AAp.grow ?_)); (first | ((first | refine hK' _ _ ?_ | refine ⟨?_, hK' _ _ ?_⟩ | refine ⟨?_, ?_, hK' _ _ ?_⟩ | refine ⟨?_, ?_, ?_, hK' _ _ ?_⟩) <;> clear hK' K' <;> (first | (show alist _ _ _ _ _ _; skip) | (intro s hs; cases hs; done) | assumption | (simp; done) | omega | (simp; omega) | skip)) | ((show AC _ _ (D.fn 15 _) _ _); refine acall_p (f := 15) (e := rfl) (hr := rfl) (k := hK' _ _ ?_) (hc := Try.call15) (h := hob); clear hK' K'))) | refine al_e rfl rfl ?_ | refine al_u rfl rfl ?_ | ((fail_if_success (refine al_t rfl rfl fun K' hK' => ?_)); refine al_s _ rfl rfl rfl (fun hb => ?_) (fun hb => ?_)))); all_goals (refine al_nil ?_; (simp only [go_sem, simprocAttr, List.length_map, List.length_nil, he, beq_self_eq_true]); refine hK _ ?_; clear hK K))
  refine awp_seq_k fun K hK => ?_
  (refine awp_reg_tov [0, 4, 5, 7, 31] [(7, objs []), (31, bD true)] (h := ?_) (k := ?_); · ((repeat' (first | ((first | refine al_r rfl fun K' hK' => ?_ | refine al_d rfl fun K' hK' => ?_ | refine al_t rfl rfl fun K' hK' => ?_); (repeat (first | (simp only [go_sem, simprocAttr, List.length_map, List.length_nil, he, beq_self_eq_true]) | refine AS.mk ?_ | refine AAp.grow ?_)); (first | ((first | refine hK' _ _ ?_ | refine ⟨?_, hK' _ _ ?_⟩ | refine ⟨?_, ?_, hK' _ _ ?_⟩ | refine ⟨?_, ?_, ?_, hK' _ _ ?_⟩) <;> clear hK' K' <;> (first | (show alist _ _ _ _ _ _; skip) | (intro s hs; cases hs; done) | assumption | (simp; done) | omega | (simp; omega) | skip)) | ((show AC _ _ (D.fn 16 _) _ _); refine acall_p (f := 16) (e := rfl) (hr := rfl) (k := hK' _ _ ?_) (hc := Try.call16) (h := heaps); clear hK' K'))) | refine al_e rfl rfl ?_ | refine al_u rfl rfl ?_ | ((fail_if_success (refine al_t rfl rfl fun K' hK' => ?_)); refine al_s _ rfl rfl rfl (fun hb => ?_) (fun hb => ?_)))); all_goals (refine al_nil ?_; simp only [go_sem, simprocAttr, List.length_map, List.length_nil, he, beq_self_eq_true, *, Bool.and_true, Bool.and_false, Bool.true_and, Bool.false_and, Bool.or_true, Bool.true_or, Bool.or_false, Bool.false_or, Bool.not_true, Bool.not_false, Bool.false_eq_true]))); intro K hK; (simp only [go_sem, simprocAttr, List.length_map, List.length_nil, he, beq_self_eq_true]); refine hK _ ?_; clear hK K
  refine awp_if (_) rfl (fun hc => ?_) (fun hc => ?_)

  · (refine awp_reg_tov [6] [(6, bD true)] (h := ?_) (k := ?_); · ((repeat' (first | ((first | refine al_r rfl fun K' hK' => ?_ | refine al_d rfl fun K' hK' => ?_ | refine al_t rfl rfl fun K' hK' => ?_); (repeat (first | (simp only [go_sem, simprocAttr, List.length_map, List.length_nil, List.map_nil, cast0, beq_self_eq_true]) | refine AS.mk ?_ | refine AAp.grow ?_)); (first | ((first | refine hK' _ _ ?_ | refine ⟨?_, hK' _ _ ?_⟩ | refine ⟨?_, ?_, hK' _ _ ?_⟩ | refine ⟨?_, ?_, ?_, hK' _ _ ?_⟩) <;> clear hK' K' <;> (first | (show alist _ _ _ _ _ _; skip) | (intro s hs; cases hs; done) | assumption | (simp; done) | omega | (simp; omega) | skip)) | ((show AC _ _ (D.fn 16 _) _ _); refine acall_p (f := 16) (e := rfl) (hr := rfl) (k := hK' _ _ ?_) (hc := Try.call16) (h := heaps); clear hK' K'))) | refine al_e rfl rfl ?_ | refine al_u rfl rfl ?_ | ((fail_if_success (refine al_t rfl rfl fun K' hK' => ?_)); refine al_s _ rfl rfl rfl (fun hb => ?_) (fun hb => ?_)))); all_goals (refine al_nil ?_; simp only [go_sem, simprocAttr, List.length_map, List.length_nil, List.map_nil, cast0, beq_self_eq_true, *, Bool.and_true, Bool.and_false, Bool.true_and, Bool.false_and, Bool.or_true, Bool.true_or, Bool.or_false, Bool.false_or, Bool.not_true, Bool.not_false, Bool.false_eq_true]))); intro K hK; (simp only [go_sem, simprocAttr, List.length_map, List.length_nil, List.map_nil, cast0, beq_self_eq_true]); refine hK _ ?_; clear hK K
    all_goals (refine awp_ret ?_; (first | refine hR _ _ (.inl rfl) rfl ?_ | refine hR _ _ (.inl rfl) rfl ?_ ?_); (first | (simp only [go_sem, simprocAttr, List.length_map, List.length_nil, List.map_nil, cast0, beq_self_eq_true, *, Bool.and_true, Bool.and_false, Bool.true_and, Bool.false_and, Bool.or_true, Bool.true_or, Bool.or_false, Bool.false_or, Bool.not_true, Bool.not_false, Bool.false_eq_true]; done) | contradiction | (simp_all; done) | simp only [go_sem, simprocAttr, List.length_map, List.length_nil, List.map_nil, cast0, beq_self_eq_true, *, Bool.and_true, Bool.and_false, Bool.true_and, Bool.false_and, Bool.or_true, Bool.true_or, Bool.or_false, Bool.false_or, Bool.not_true, Bool.not_false, Bool.false_eq_true]))
  · cases hc


theorem wholeGood (h g g2 : List Int) (l : List Obj) (o : Obj) (k n : Int) (text : ByteArray) (args : List (List PV)) (pa e3 w2 e2 : Int) (b : Bool) (hll : l.length ≤ 5000)
    (hob : ACallP Try.prog 15 [words h] (.tup [objs l, iD 0])) (hput : ACallP Try.prog 17 [words h, objD o] (.tup [words g, iD pa, iD e3]))
    (hg : e3 = 0 → o.parts.length ≤ 400 ∧ ∃ (m : List Obj) (a : Int), ACallP Try.prog 15 [words g] (.tup [objs m, iD 0]) ∧ m.length = l.length + 1 ∧ ACallP Try.prog 19 [words g, iD pa] (.tup [objD ⟨a, o.kind, o.num, o.text, o.parts⟩, iD 0]))
    (hfl : ACallP Try.prog 22 [valD k n text args] (bD b)) (hbu : ACallP Try.prog 23 [words h, valD k n text args] (.tup [words g2, wD w2, iD e2]))
    (hg2 : e2 = 0 → ∃ m : List Obj, ACallP Try.prog 15 [words g2] (.tup [objs m, iD 0]) ∧ l.length ≤ m.length) : ACallP Try.prog 4 [words h, objD o, valD k n text args] (bD true) := by
  refine acallp_fn [6] Try.func4 rfl rfl Try.ntmps4 (by simp) fun R hR => ?_
  (refine awp_reg_seq [0, 4, 5] fun K hK => ?_; (repeat' (first | ((first | refine al_r rfl fun K' hK' => ?_ | refine al_d rfl fun K' hK' => ?_ | refine al_t rfl rfl fun K' hK' => ?_); (repeat (first | (simp only [go_sem, simprocAttr, List.length_map, bne_self_eq_false]) | refine AS.mk ?_ | refine AAp.grow ?_)); (first | ((first | refine hK' _ _ ?_ | refine ⟨?_, hK' _ _ ?_⟩ | refine ⟨?_, ?_, hK' _ _ ?_⟩ | refine ⟨?_, ?_, ?_, hK' _ _ ?_⟩) <;> clear hK' K' <;> (first | (show alist _ _ _ _ _ _; skip) | (intro s hs; cases hs; done) | assumption | (simp; done) | omega | (simp; omega) | skip)))) | refine al_e rfl rfl ?_ | refine al_u rfl rfl ?_ | ((fail_if_success (refine al_t rfl rfl fun K' hK' => ?_)); refine al_s _ rfl rfl rfl (fun hb => ?_) (fun hb => ?_)))); all_goals (refine al_nil ?_; (simp only [go_sem, simprocAttr, List.length_map, bne_self_eq_false]); refine hK _ ?_; clear hK K))
  (refine awp_frz [0, 4, 5] [] (by decide) (by simp) ?_; simp only [go_sem, simprocAttr, List.length_map, bne_self_eq_false])
  (refine awp_reg_seq [0, 4, 5, 7, 8] fun K hK => ?_; (repeat' (first | ((first | refine al_r rfl fun K' hK' => ?_ | refine al_d rfl fun K' hK' => ?_ | refine al_t rfl rfl fun K' hK' => ?_); (repeat (first | (simp only [go_sem, simprocAttr, List.length_map, bne_self_eq_false]) | refine AS.mk ?_ | refine AAp.grow ?_)); (first | ((first | refine hK' _ _ ?_ | refine ⟨?_, hK' _ _ ?_⟩ | refine ⟨?_, ?_, hK' _ _ ?_⟩ | refine ⟨?_, ?_, ?_, hK' _ _ ?_⟩) <;> clear hK' K' <;> (first | (show alist _ _ _ _ _ _; skip) | (intro s hs; cases hs; done) | assumption | (simp; done) | omega | (simp; omega) | skip)) | ((show AC _ _ (D.fn 15 _) _ _); refine acall_p (f := 15) (e := rfl) (hr := rfl) (k := hK' _ _ ?_) (hc := Try.call15) (h := hob); clear hK' K') | ((show AC _ _ (D.fn 15 _) _ _); refine acall_p (f := 15) (e := rfl) (hr := rfl) (k := hK' _ _ ?_) (hc := Try.call15) (h := hob); clear hK' K') | ((show AC _ _ (D.fn 15 _) _ _); refine acall_p (f := 15) (e := rfl) (hr := rfl) (k := hK' _ _ ?_) (hc := Try.call15) (h := hobg); clear hK' K') | ((show AC _ _ (D.fn 15 _) _ _); refine acall_p (f := 15) (e := rfl) (hr := rfl) (k := hK' _ _ ?_) (hc := Try.call15) (h := hob2); clear hK' K'))) | refine al_e rfl rfl ?_ | refine al_u rfl rfl ?_ | ((fail_if_success (refine al_t rfl rfl fun K' hK' => ?_)); refine al_s _ rfl rfl rfl (fun hb => ?_) (fun hb => ?_)))); all_goals (refine al_nil ?_; (simp only [go_sem, simprocAttr, List.length_map, bne_self_eq_false]); refine hK _ ?_; clear hK K))
  refine awp_seq_k fun K hK => ?_
  (refine awp_reg_tov [0, 4, 5, 7, 31] [(0, words h), (7, objs l), (31, bD false)] (h := ?_) (k := ?_); · ((repeat' (first | ((first | refine al_r rfl fun K' hK' => ?_ | refine al_d rfl fun K' hK' => ?_ | refine al_t rfl rfl fun K' hK' => ?_); (repeat (first | (simp only [go_sem, simprocAttr, List.length_map, bne_self_eq_false]) | refine AS.mk ?_ | refine AAp.grow ?_)); (first | ((first | refine hK' _ _ ?_ | refine ⟨?_, hK' _ _ ?_⟩ | refine ⟨?_, ?_, hK' _ _ ?_⟩ | refine ⟨?_, ?_, ?_, hK' _ _ ?_⟩) <;> clear hK' K' <;> (first | (show alist _ _ _ _ _ _; skip) | (intro s hs; cases hs; done) | assumption | (simp; done) | omega | (simp; omega) | skip)) | ((show AC _ _ (D.fn 16 _) _ _); refine acall_p (f := 16) (e := rfl) (hr := rfl) (k := hK' _ _ ?_) (hc := Try.call16) (h := heaps); clear hK' K') | ((show AC _ _ (D.fn 16 _) _ _); refine acall_p (f := 16) (e := rfl) (hr := rfl) (k := hK' _ _ ?_) (hc := Try.call16) (h := heaps); clear hK' K'))) | refine al_e rfl rfl ?_ | refine al_u rfl rfl ?_ | ((fail_if_success (refine al_t rfl rfl fun K' hK' => ?_)); refine al_s _ rfl rfl rfl (fun hb => ?_) (fun hb => ?_)))); all_goals (refine al_nil ?_; simp only [go_sem, simprocAttr, List.length_map, bne_self_eq_false, *, Bool.and_true, Bool.and_false, Bool.true_and, Bool.false_and, Bool.or_true, Bool.true_or, Bool.or_false, Bool.false_or, Bool.not_true, Bool.not_false, Bool.false_eq_true]))); intro K hK; (simp only [go_sem, simprocAttr, List.length_map, bne_self_eq_false]); refine hK _ ?_; clear hK K
  refine awp_if (_) rfl (fun hc => ?_) (fun hc => ?_)
  · cases hc
  · refine awp_skip ?_
    refine hK _ ?_; clear hK K
    refine awp_seq_kc fun K hK hcut => ?_
    have key : K ⟨ofL [(0, words h), (5, .rd [.lit (.int .i64 k), .lit (.int .i64 n), .lit (.string text), .sl args] 0), (7, objs l)], [], 0⟩ := by
      clear hcut
      refine hK _ ?_; clear hK K
      refine awp_seq_k fun K hK => ?_
      (refine awp_reg_seq [0, 5, 7, 102] fun K hK => ?_; (repeat' (first | ((first | refine al_r rfl fun K' hK' => ?_ | refine al_d rfl fun K' hK' => ?_ | refine al_t rfl rfl fun K' hK' => ?_); (repeat (first | (simp only [go_sem, simprocAttr, List.length_map, bne_self_eq_false]) | refine AS.mk ?_ | refine AAp.grow ?_)); (first | ((first | refine hK' _ _ ?_ | refine ⟨?_, hK' _ _ ?_⟩ | refine ⟨?_, ?_, hK' _ _ ?_⟩ | refine ⟨?_, ?_, ?_, hK' _ _ ?_⟩) <;> clear hK' K' <;> (first | (show alist _ _ _ _ _ _; skip) | (intro s hs; cases hs; done) | assumption | (simp; done) | omega | (simp; omega) | skip)) | ((show AC _ _ (D.fn 22 _) _ _); refine acall_p (f := 22) (e := rfl) (hr := rfl) (k := hK' _ _ ?_) (hc := Try.call22) (h := hfl); clear hK' K'))) | refine al_e rfl rfl ?_ | refine al_u rfl rfl ?_ | ((fail_if_success (refine al_t rfl rfl fun K' hK' => ?_)); refine al_s _ rfl rfl rfl (fun hb => ?_) (fun hb => ?_)))); all_goals (refine al_nil ?_; (simp only [go_sem, simprocAttr, List.length_map, bne_self_eq_false]); refine hK _ ?_; clear hK K))
      refine awp_if (!b) rfl (fun hc => ?_) (fun hc => ?_)
      · (refine awp_reg_seq [6] fun K hK => ?_; (repeat' (first | ((first | refine al_r rfl fun K' hK' => ?_ | refine al_d rfl fun K' hK' => ?_ | refine al_t rfl rfl fun K' hK' => ?_); (repeat (first | (simp only [go_sem, simprocAttr, List.length_map, bne_self_eq_false]) | refine AS.mk ?_ | refine AAp.grow ?_)); (first | ((first | refine hK' _ _ ?_ | refine ⟨?_, hK' _ _ ?_⟩ | refine ⟨?_, ?_, hK' _ _ ?_⟩ | refine ⟨?_, ?_, ?_, hK' _ _ ?_⟩) <;> clear hK' K' <;> (first | (show alist _ _ _ _ _ _; skip) | (intro s hs; cases hs; done) | assumption | (simp; done) | omega | (simp; omega) | skip)))) | refine al_e rfl rfl ?_ | refine al_u rfl rfl ?_ | ((fail_if_success (refine al_t rfl rfl fun K' hK' => ?_)); refine al_s _ rfl rfl rfl (fun hb => ?_) (fun hb => ?_)))); all_goals (refine al_nil ?_; (simp only [go_sem, simprocAttr, List.length_map, bne_self_eq_false]); refine hK _ ?_; clear hK K))
        all_goals (refine awp_ret ?_; (first | refine hR _ _ (.inl rfl) rfl ?_ | refine hR _ _ (.inl rfl) rfl ?_ ?_); (first | (simp only [go_sem, simprocAttr, List.length_map, bne_self_eq_false, *, Bool.and_true, Bool.and_false, Bool.true_and, Bool.false_and, Bool.or_true, Bool.true_or, Bool.or_false, Bool.false_or, Bool.not_true, Bool.not_false, Bool.false_eq_true]; done) | contradiction | (simp_all; done) | simp only [go_sem, simprocAttr, List.length_map, bne_self_eq_false, *, Bool.and_true, Bool.and_false, Bool.true_and, Bool.false_and, Bool.or_true, Bool.true_or, Bool.or_false, Bool.false_or, Bool.not_true, Bool.not_false, Bool.false_eq_true]))
      · refine awp_skip ?_
        refine hK _ ?_; clear hK K
        (refine awp_reg_seq [7, 16, 18] fun K hK => ?_; (repeat' (first | ((first | refine al_r rfl fun K' hK' => ?_ | refine al_d rfl fun K' hK' => ?_ | refine al_t rfl rfl fun K' hK' => ?_); (repeat (first | (simp only [go_sem, simprocAttr, List.length_map, bne_self_eq_false]) | refine AS.mk ?_ | refine AAp.grow ?_)); (first | ((first | refine hK' _ _ ?_ | refine ⟨?_, hK' _ _ ?_⟩ | refine ⟨?_, ?_, hK' _ _ ?_⟩ | refine ⟨?_, ?_, ?_, hK' _ _ ?_⟩) <;> clear hK' K' <;> (first | (show alist _ _ _ _ _ _; skip) | (intro s hs; cases hs; done) | assumption | (simp; done) | omega | (simp; omega) | skip)) | ((show AC _ _ (D.fn 23 _) _ _); refine acall_p (f := 23) (e := rfl) (hr := rfl) (k := hK' _ _ ?_) (hc := Try.call23) (h := hbu); clear hK' K'))) | refine al_e rfl rfl ?_ | refine al_u rfl rfl ?_ | ((fail_if_success (refine al_t rfl rfl fun K' hK' => ?_)); refine al_s _ rfl rfl rfl (fun hb => ?_) (fun hb => ?_)))); all_goals (refine al_nil ?_; (simp only [go_sem, simprocAttr, List.length_map, bne_self_eq_false]); refine hK _ ?_; clear hK K))
        refine awp_seq_k fun K hK => ?_
        (refine awp_reg_seq [7, 16, 111] fun K hK => ?_; (repeat' (first | ((first | refine al_r rfl fun K' hK' => ?_ | refine al_d rfl fun K' hK' => ?_ | refine al_t rfl rfl fun K' hK' => ?_); (repeat (first | (simp only [go_sem, simprocAttr, List.length_map, bne_self_eq_false]) | refine AS.mk ?_ | refine AAp.grow ?_)); (first | ((first | refine hK' _ _ ?_ | refine ⟨?_, hK' _ _ ?_⟩ | refine ⟨?_, ?_, hK' _ _ ?_⟩ | refine ⟨?_, ?_, ?_, hK' _ _ ?_⟩) <;> clear hK' K' <;> (first | (show alist _ _ _ _ _ _; skip) | (intro s hs; cases hs; done) | assumption | (simp; done) | omega | (simp; omega) | skip)))) | refine al_e rfl rfl ?_ | refine al_u rfl rfl ?_ | ((fail_if_success (refine al_t rfl rfl fun K' hK' => ?_)); refine al_s _ rfl rfl rfl (fun hb => ?_) (fun hb => ?_)))); all_goals (refine al_nil ?_; (simp only [go_sem, simprocAttr, List.length_map, bne_self_eq_false]); refine hK _ ?_; clear hK K))
        refine awp_if (e2 != 0) rfl (fun hc => ?_) (fun hc => ?_)
        · (refine awp_reg_seq [6] fun K hK => ?_; (repeat' (first | ((first | refine al_r rfl fun K' hK' => ?_ | refine al_d rfl fun K' hK' => ?_ | refine al_t rfl rfl fun K' hK' => ?_); (repeat (first | (simp only [go_sem, simprocAttr, List.length_map, bne_self_eq_false]) | refine AS.mk ?_ | refine AAp.grow ?_)); (first | ((first | refine hK' _ _ ?_ | refine ⟨?_, hK' _ _ ?_⟩ | refine ⟨?_, ?_, hK' _ _ ?_⟩ | refine ⟨?_, ?_, ?_, hK' _ _ ?_⟩) <;> clear hK' K' <;> (first | (show alist _ _ _ _ _ _; skip) | (intro s hs; cases hs; done) | assumption | (simp; done) | omega | (simp; omega) | skip)))) | refine al_e rfl rfl ?_ | refine al_u rfl rfl ?_ | ((fail_if_success (refine al_t rfl rfl fun K' hK' => ?_)); refine al_s _ rfl rfl rfl (fun hb => ?_) (fun hb => ?_)))); all_goals (refine al_nil ?_; (simp only [go_sem, simprocAttr, List.length_map, bne_self_eq_false]); refine hK _ ?_; clear hK K))
          all_goals (refine awp_ret ?_; (first | refine hR _ _ (.inl rfl) rfl ?_ | refine hR _ _ (.inl rfl) rfl ?_ ?_); (first | (simp only [go_sem, simprocAttr, List.length_map, bne_self_eq_false, *, Bool.and_true, Bool.and_false, Bool.true_and, Bool.false_and, Bool.or_true, Bool.true_or, Bool.or_false, Bool.false_or, Bool.not_true, Bool.not_false, Bool.false_eq_true]; done) | contradiction | (simp_all; done) | simp only [go_sem, simprocAttr, List.length_map, bne_self_eq_false, *, Bool.and_true, Bool.and_false, Bool.true_and, Bool.false_and, Bool.or_true, Bool.true_or, Bool.or_false, Bool.false_or, Bool.not_true, Bool.not_false, Bool.false_eq_true]))
        · obtain ⟨m2, hob2, hlm⟩ := hg2 (by simpa using hc)
          have hge : decide ((m2.length : Int) ≥ (l.length : Int)) = true := by simp; omega

          refine awp_skip ?_
          refine hK _ ?_; clear hK K
          (refine awp_reg_seq [7, 19, 20] fun K hK => ?_; (repeat' (first | ((first | refine al_r rfl fun K' hK' => ?_ | refine al_d rfl fun K' hK' => ?_ | refine al_t rfl rfl fun K' hK' => ?_); (repeat (first | (simp only [go_sem, simprocAttr, List.length_map, hge, beq_self_eq_true]) | refine AS.mk ?_ | refine AAp.grow ?_)); (first | ((first | refine hK' _ _ ?_ | refine ⟨?_, hK' _ _ ?_⟩ | refine ⟨?_, ?_, hK' _ _ ?_⟩ | refine ⟨?_, ?_, ?_, hK' _ _ ?_⟩) <;> clear hK' K' <;> (first | (show alist _ _ _ _ _ _; skip) | (intro s hs; cases hs; done) | assumption | (simp; done) | omega | (simp; omega) | skip)) | ((show AC _ _ (D.fn 15 _) _ _); refine acall_p (f := 15) (e := rfl) (hr := rfl) (k := hK' _ _ ?_) (hc := Try.call15) (h := hob); clear hK' K') | ((show AC _ _ (D.fn 15 _) _ _); refine acall_p (f := 15) (e := rfl) (hr := rfl) (k := hK' _ _ ?_) (hc := Try.call15) (h := hob); clear hK' K') | ((show AC _ _ (D.fn 15 _) _ _); refine acall_p (f := 15) (e := rfl) (hr := rfl) (k := hK' _ _ ?_) (hc := Try.call15) (h := hobg); clear hK' K') | ((show AC _ _ (D.fn 15 _) _ _); refine acall_p (f := 15) (e := rfl) (hr := rfl) (k := hK' _ _ ?_) (hc := Try.call15) (h := hob2); clear hK' K'))) | refine al_e rfl rfl ?_ | refine al_u rfl rfl ?_ | ((fail_if_success (refine al_t rfl rfl fun K' hK' => ?_)); refine al_s _ rfl rfl rfl (fun hb => ?_) (fun hb => ?_)))); all_goals (refine al_nil ?_; (simp only [go_sem, simprocAttr, List.length_map, hge, beq_self_eq_true]); refine hK _ ?_; clear hK K))
          (refine awp_reg_tov [6] [(6, bD true)] (h := ?_) (k := ?_); · ((repeat' (first | ((first | refine al_r rfl fun K' hK' => ?_ | refine al_d rfl fun K' hK' => ?_ | refine al_t rfl rfl fun K' hK' => ?_); (repeat (first | (simp only [go_sem, simprocAttr, List.length_map, hge, beq_self_eq_true]) | refine AS.mk ?_ | refine AAp.grow ?_)); (first | ((first | refine hK' _ _ ?_ | refine ⟨?_, hK' _ _ ?_⟩ | refine ⟨?_, ?_, hK' _ _ ?_⟩ | refine ⟨?_, ?_, ?_, hK' _ _ ?_⟩) <;> clear hK' K' <;> (first | (show alist _ _ _ _ _ _; skip) | (intro s hs; cases hs; done) | assumption | (simp; done) | omega | (simp; omega) | skip)))) | refine al_e rfl rfl ?_ | refine al_u rfl rfl ?_ | ((fail_if_success (refine al_t rfl rfl fun K' hK' => ?_)); refine al_s _ rfl rfl rfl (fun hb => ?_) (fun hb => ?_)))); all_goals (refine al_nil ?_; simp only [go_sem, simprocAttr, List.length_map, hge, beq_self_eq_true, *, Bool.and_true, Bool.and_false, Bool.true_and, Bool.false_and, Bool.or_true, Bool.true_or, Bool.or_false, Bool.false_or, Bool.not_true, Bool.not_false, Bool.false_eq_true]))); intro K hK; (simp only [go_sem, simprocAttr, List.length_map, hge, beq_self_eq_true]); refine hK _ ?_; clear hK K
          all_goals (refine awp_ret ?_; (first | refine hR _ _ (.inl rfl) rfl ?_ | refine hR _ _ (.inl rfl) rfl ?_ ?_); (first | (simp only [go_sem, simprocAttr, List.length_map, hge, beq_self_eq_true, *, Bool.and_true, Bool.and_false, Bool.true_and, Bool.false_and, Bool.or_true, Bool.true_or, Bool.or_false, Bool.false_or, Bool.not_true, Bool.not_false, Bool.false_eq_true]; done) | contradiction | (simp_all; done) | simp only [go_sem, simprocAttr, List.length_map, hge, beq_self_eq_true, *, Bool.and_true, Bool.and_false, Bool.true_and, Bool.false_and, Bool.or_true, Bool.true_or, Bool.or_false, Bool.false_or, Bool.not_true, Bool.not_false, Bool.false_eq_true]))

    (refine awp_reg_seq [0, 4, 5, 7, 9, 10, 11] fun K hK => ?_; (repeat' (first | ((first | refine al_r rfl fun K' hK' => ?_ | refine al_d rfl fun K' hK' => ?_ | refine al_t rfl rfl fun K' hK' => ?_); (repeat (first | (simp only [go_sem, simprocAttr, List.length_map, bne_self_eq_false]) | refine AS.mk ?_ | refine AAp.grow ?_)); (first | ((first | refine hK' _ _ ?_ | refine ⟨?_, hK' _ _ ?_⟩ | refine ⟨?_, ?_, hK' _ _ ?_⟩ | refine ⟨?_, ?_, ?_, hK' _ _ ?_⟩) <;> clear hK' K' <;> (first | (show alist _ _ _ _ _ _; skip) | (intro s hs; cases hs; done) | assumption | (simp; done) | omega | (simp; omega) | skip)) | ((show AC _ _ (D.fn 17 _) _ _); refine acall_p (f := 17) (e := rfl) (hr := rfl) (k := hK' _ _ ?_) (hc := Try.call17) (h := hput); clear hK' K'))) | refine al_e rfl rfl ?_ | refine al_u rfl rfl ?_ | ((fail_if_success (refine al_t rfl rfl fun K' hK' => ?_)); refine al_s _ rfl rfl rfl (fun hb => ?_) (fun hb => ?_)))); all_goals (refine al_nil ?_; (simp only [go_sem, simprocAttr, List.length_map, bne_self_eq_false]); refine hK _ ?_; clear hK K))
    (refine awp_reg_seq [0, 4, 5, 7, 9, 10, 46] fun K hK => ?_; (repeat' (first | ((first | refine al_r rfl fun K' hK' => ?_ | refine al_d rfl fun K' hK' => ?_ | refine al_t rfl rfl fun K' hK' => ?_); (repeat (first | (simp only [go_sem, simprocAttr, List.length_map, bne_self_eq_false]) | refine AS.mk ?_ | refine AAp.grow ?_)); (first | ((first | refine hK' _ _ ?_ | refine ⟨?_, hK' _ _ ?_⟩ | refine ⟨?_, ?_, hK' _ _ ?_⟩ | refine ⟨?_, ?_, ?_, hK' _ _ ?_⟩) <;> clear hK' K' <;> (first | (show alist _ _ _ _ _ _; skip) | (intro s hs; cases hs; done) | assumption | (simp; done) | omega | (simp; omega) | skip)))) | refine al_e rfl rfl ?_ | refine al_u rfl rfl ?_ | ((fail_if_success (refine al_t rfl rfl fun K' hK' => ?_)); refine al_s _ rfl rfl rfl (fun hb => ?_) (fun hb => ?_)))); all_goals (refine al_nil ?_; (simp only [go_sem, simprocAttr, List.length_map, bne_self_eq_false]); refine hK _ ?_; clear hK K))
    refine awp_if (e3 == 0) rfl (fun hc => ?_) (fun hc => ?_)
    · obtain ⟨hp4, m, a, hobg, hml, hatg⟩ := hg (by simpa using hc)
      have heq := equalU_same o.parts (by simp [maxLen]; omega)
      have hne : ((m.length : Int) != IntKind.i64.wrap ((l.length : Int) + 1)) = false := by
        rw [Go.Ab.wrap_small (by omega) (by omega), hml]; simp
      (refine awp_reg_seq [0, 4, 5, 7, 9, 10, 12, 13] fun K hK => ?_; (repeat' (first | ((first | refine al_r rfl fun K' hK' => ?_ | refine al_d rfl fun K' hK' => ?_ | refine al_t rfl rfl fun K' hK' => ?_); (repeat (first | (simp only [go_sem, simprocAttr, List.length_map, bne_self_eq_false]) | refine AS.mk ?_ | refine AAp.grow ?_)); (first | ((first | refine hK' _ _ ?_ | refine ⟨?_, hK' _ _ ?_⟩ | refine ⟨?_, ?_, hK' _ _ ?_⟩ | refine ⟨?_, ?_, ?_, hK' _ _ ?_⟩) <;> clear hK' K' <;> (first | (show alist _ _ _ _ _ _; skip) | (intro s hs; cases hs; done) | assumption | (simp; done) | omega | (simp; omega) | skip)) | ((show AC _ _ (D.fn 15 _) _ _); refine acall_p (f := 15) (e := rfl) (hr := rfl) (k := hK' _ _ ?_) (hc := Try.call15) (h := hob); clear hK' K') | ((show AC _ _ (D.fn 15 _) _ _); refine acall_p (f := 15) (e := rfl) (hr := rfl) (k := hK' _ _ ?_) (hc := Try.call15) (h := hob); clear hK' K') | ((show AC _ _ (D.fn 15 _) _ _); refine acall_p (f := 15) (e := rfl) (hr := rfl) (k := hK' _ _ ?_) (hc := Try.call15) (h := hobg); clear hK' K') | ((show AC _ _ (D.fn 15 _) _ _); refine acall_p (f := 15) (e := rfl) (hr := rfl) (k := hK' _ _ ?_) (hc := Try.call15) (h := hob2); clear hK' K'))) | refine al_e rfl rfl ?_ | refine al_u rfl rfl ?_ | ((fail_if_success (refine al_t rfl rfl fun K' hK' => ?_)); refine al_s _ rfl rfl rfl (fun hb => ?_) (fun hb => ?_)))); all_goals (refine al_nil ?_; (simp only [go_sem, simprocAttr, List.length_map, bne_self_eq_false]); refine hK _ ?_; clear hK K))
      (refine awp_reg_seq [0, 4, 5, 7, 12, 13, 14, 15] fun K hK => ?_; (repeat' (first | ((first | refine al_r rfl fun K' hK' => ?_ | refine al_d rfl fun K' hK' => ?_ | refine al_t rfl rfl fun K' hK' => ?_); (repeat (first | (simp only [go_sem, simprocAttr, List.length_map, bne_self_eq_false]) | refine AS.mk ?_ | refine AAp.grow ?_)); (first | ((first | refine hK' _ _ ?_ | refine ⟨?_, hK' _ _ ?_⟩ | refine ⟨?_, ?_, hK' _ _ ?_⟩ | refine ⟨?_, ?_, ?_, hK' _ _ ?_⟩) <;> clear hK' K' <;> (first | (show alist _ _ _ _ _ _; skip) | (intro s hs; cases hs; done) | assumption | (simp; done) | omega | (simp; omega) | skip)) | ((show AC _ _ (D.fn 19 _) _ _); refine acall_p (f := 19) (e := rfl) (hr := rfl) (k := hK' _ _ ?_) (hc := Try.call19) (h := hatg); clear hK' K'))) | refine al_e rfl rfl ?_ | refine al_u rfl rfl ?_ | ((fail_if_success (refine al_t rfl rfl fun K' hK' => ?_)); refine al_s _ rfl rfl rfl (fun hb => ?_) (fun hb => ?_)))); all_goals (refine al_nil ?_; (simp only [go_sem, simprocAttr, List.length_map, bne_self_eq_false]); refine hK _ ?_; clear hK K))
      (refine awp_frz [0, 4, 5, 7, 12, 13, 14, 15] [] (by decide) (by simp) ?_; simp only [go_sem, simprocAttr, List.length_map, bne_self_eq_false])

      (refine awp_reg_tov [0, 5, 7, 99] [(0, words h), (7, objs l), (99, bD false)] (h := ?_) (k := ?_); · ((repeat' (first | ((first | refine al_r rfl fun K' hK' => ?_ | refine al_d rfl fun K' hK' => ?_ | refine al_t rfl rfl fun K' hK' => ?_); (repeat (first | (simp only [go_sem, simprocAttr, List.length_map, bne_self_eq_false, beq_self_eq_true, hne]) | refine AS.mk ?_ | refine AAp.grow ?_)); (first | ((first | refine hK' _ _ ?_ | refine ⟨?_, hK' _ _ ?_⟩ | refine ⟨?_, ?_, hK' _ _ ?_⟩ | refine ⟨?_, ?_, ?_, hK' _ _ ?_⟩) <;> clear hK' K' <;> (first | (show alist _ _ _ _ _ _; skip) | (intro s hs; cases hs; done) | assumption | (simp; done) | omega | (simp; omega) | skip)) | ((show AC _ _ (D.fn 20 _) _ _); refine acall_w [] (by decide) (by simp) (f := 20) (e := rfl) (hr := fun _ => rfl) (k := hK' _ _ ?_) (hc := Try.call20) (h := good00); clear hK' K') | ((show AC _ _ (D.fn 21 _) _ _); refine acall_p (f := 21) (e := rfl) (hr := rfl) (k := hK' _ _ ?_) (hc := Try.call21) (h := heq); clear hK' K'))) | refine al_e rfl rfl ?_ | refine al_u rfl rfl ?_ | ((fail_if_success (refine al_t rfl rfl fun K' hK' => ?_)); refine al_s _ rfl rfl rfl (fun hb => ?_) (fun hb => ?_)))); all_goals (refine al_nil ?_; simp only [go_sem, simprocAttr, List.length_map, bne_self_eq_false, beq_self_eq_true, hne, *, Bool.and_true, Bool.and_false, Bool.true_and, Bool.false_and, Bool.or_true, Bool.true_or, Bool.or_false, Bool.false_or, Bool.not_true, Bool.not_false, Bool.false_eq_true]))); intro K hK; (simp only [go_sem, simprocAttr, List.length_map, bne_self_eq_false, beq_self_eq_true, hne]); refine hK _ ?_; clear hK K
      refine awp_if (_) rfl (fun hc => ?_) (fun hc => ?_)
      · cases hc
      · refine awp_skip ?_
        (refine hcut _ [0, 5, 7] [] (by decide) (by intro q hq; exact absurd hq (Nat.not_lt_zero q)) ?_; simp only [go_sem, simprocAttr, List.length_map, bne_self_eq_false, beq_self_eq_true, hne]; exact key)

    · refine awp_skip ?_
      (refine hcut _ [0, 5, 7] [] (by decide) (by intro q hq; exact absurd hq (Nat.not_lt_zero q)) ?_; simp only [go_sem, simprocAttr, List.length_map]; exact key)

theorem wrap_ok (x : Int) : NumOk (IntKind.i64.wrap x) := by
  simp only [IntKind.wrap, IntKind.bits, IntKind.signed]
  simp
  constructor <;> omega

theorem at_num (h : List Int) (a : Int) : NumOk (atS h a).1.num := by
  have z : NumOk z0.num := ⟨by decide, by decide⟩
  have hO : ∀ (n m : Nat) (o : Obj), NumOk o.num → NumOk (atO h n o m).1.num := fun n m o ho => by
    unfold atO
    split
    · exact z
    · exact ho
  unfold atS
  split
  · exact z
  split
  · exact z
  split
  · exact z
  unfold atR
  split
  · exact hO _ _ _ (wrap_ok _)
  · exact hO _ _ _ z

theorem objF_nums {h : List Int} : ∀ (f a : Nat) (acc : List Obj), (∀ o, o ∈ acc → NumOk o.num) → ∀ o, o ∈ (objF h f a acc).1 → NumOk o.num
  | 0, _, _, ha, o, ho => ha o ho
  | f + 1, a, acc, ha, o, ho => by
    unfold objF at ho
    split at ho
    · split at ho
      · cases ho
      · refine objF_nums f _ _ (fun x hx => ?_) o ho
        rcases List.mem_append.1 hx with hx | hx
        · exact ha x hx
        · rw [List.mem_singleton.1 hx]; exact at_num h a
    · exact ha o ho

theorem chain_right {h : List Int} : ∀ {l : List Obj} {a : Nat}, Chain h a l → ∀ o, o ∈ l → rightS o = true
  | [], _, _, _, ho => by cases ho
  | x :: l, _, hc, o, ho => by
    obtain ⟨_, h1, _, _, h2⟩ := hc
    rcases List.mem_cons.1 ho with rfl | ho
    · exact h1
    · exact chain_right h2 o ho

theorem sum_lt (s : ByteArray) (i : Nat) : sumF s i 8 0 < 18446744073709551616 := by
  have b0 := byteV_lt s (i + 0)
  have b1 := byteV_lt s (i + 1)
  have b2 := byteV_lt s (i + 2)
  have b3 := byteV_lt s (i + 3)
  have b4 := byteV_lt s (i + 4)
  have b5 := byteV_lt s (i + 5)
  have b6 := byteV_lt s (i + 6)
  have b7 := byteV_lt s (i + 7)
  show byteV s (i + 0) * 2 ^ 0 + (byteV s (i + 1) * 2 ^ 8 + (byteV s (i + 2) * 2 ^ 16 + (byteV s (i + 3) * 2 ^ 24 + (byteV s (i + 4) * 2 ^ 32 + (byteV s (i + 5) * 2 ^ 40 + (byteV s (i + 6) * 2 ^ 48 + (byteV s (i + 7) * 2 ^ 56 + 0))))))) < _
  omega

theorem textF_ok (s : ByteArray) : ∀ (m i : Nat) (w : Int), w ∈ textF s m i → WordOk w
  | 0, _, _, h => by cases h
  | m + 1, i, w, h => by
    rcases List.mem_cons.1 h with rfl | h
    · rw [word_val]
      have := sum_lt s i
      exact ⟨Int.natCast_nonneg _, by omega⟩
    · exact textF_ok s m (i + 8) w h

theorem enc_ok {o : Obj} (hp : ∀ w, w ∈ o.parts → WordOk w) : ∀ w, w ∈ encW o → WordOk w := by
  intro w hw
  unfold encW at hw
  rcases List.mem_cons.1 hw with rfl | hw
  · exact bits_ok _ _ _
  · rcases List.mem_append.1 hw with hw | hw
    · unfold numW at hw
      split at hw
      · rw [List.mem_singleton.1 hw, IntKind.wrap_u64]
        exact ⟨by omega, by omega⟩
      · cases hw
    · rcases List.mem_append.1 hw with hw | hw
      · exact textF_ok _ _ _ w hw
      · exact hp w hw

theorem flat_ok : ∀ {L : List Obj}, (∀ o, o ∈ L → ∀ w, w ∈ o.parts → WordOk w) → ∀ w, w ∈ flat L → WordOk w
  | [], _, w, hw => by cases hw
  | o :: L, h, w, hw => by
    rcases List.mem_append.1 (show w ∈ encW o ++ flat L from hw) with hw | hw
    · exact enc_ok (h o List.mem_cons_self) w hw
    · exact flat_ok (fun x hx => h x (List.mem_cons_of_mem _ hx)) w hw

theorem objects_flat {L : List Obj} (h1 : ∀ o, o ∈ L → rightS o = true ∧ NumOk o.num) (h2 : ∀ w, w ∈ flat L → WordOk w) (h4 : (flat L).length ≤ 4000) : ACallP Try.prog 15 [words (flat L)] (.tup [objs (place 0 L), iD 0]) := by
  have h := objects (flat L) (by simp [maxLen]; omega) h2
  rw [objs_flat h1 h4] at h
  exact h

theorem whole (h : List Int) (hlen : h.length ≤ maxLen) (hok : ∀ w, w ∈ h → WordOk w) (o : Obj) (hon : NumOk o.num) (hop : ∀ w, w ∈ o.parts → WordOk w) (f : Nat) (k n : Int) (text : ByteArray) (args : List (List PV))
    (hsh : shapeOk Try.prog f 38 [.lit (.int .i64 k), .lit (.int .i64 n), .lit (.string text), .sl args]) : ACallP Try.prog 4 [words h, objD o, valD k n text args] (bD true) := by
  have hob := objects h hlen hok
  have hv : objsS h = if decide ((h.length : Int) > 4000) then ([], 2) else objF h (h.length + 1) 0 [] := rfl
  by_cases h4 : h.length ≤ 4000
  · rw [if_neg (by simp; omega)] at hv
    rw [hv] at hob
    by_cases he : (objF h (h.length + 1) 0 []).2 = 0
    · obtain ⟨l', hl, hc⟩ := objF_chain hlen hok (h.length + 1) 0 [] (objF h (h.length + 1) 0 []).1 (by omega) (Nat.zero_le _) (by rw [← he])
      rw [List.nil_append] at hl
      rw [← hl] at hc
      rw [he] at hob
      have hnums := objF_nums (h := h) (h.length + 1) 0 [] (fun x hx => by cases hx)
      generalize (objF h (h.length + 1) 0 []).1 = l at *
      have hll := chain_len hc
      have hri := chain_right hc
      have hfl := chain_flat hc
      rw [List.drop_zero] at hfl
      have hgood : ∀ x, x ∈ l → rightS x = true ∧ NumOk x.num := fun x hx => ⟨hri x hx, hnums x hx⟩
      obtain ⟨b, hflat⟩ := flatP f k n text args hsh
      obtain ⟨B, hB⟩ := buildEx f _ hsh
      obtain ⟨hbu, hgr⟩ := hB h h4
      simp only [List.map_cons, List.map_nil] at hbu
      have hput := put h o hlen
      refine wholeGood h _ _ l o k n text args _ _ _ _ b (by omega) hob hput (fun h3 => ?_) hflat hbu (fun h2 => ?_)
      · unfold putS at h3 ⊢
        by_cases hr : (!rightS o) = true
        · rw [if_pos hr] at h3; simp at h3
        rw [if_neg hr] at h3 ⊢
        have hr : rightS o = true := by simpa using hr
        by_cases hm : decide ((h.length : Int) > 4000 - (roomN o.kind o.text.size o.parts.length : Int)) = true
        · rw [if_pos hm] at h3; simp at h3
        rw [if_neg hm]
        have hel := enc_len o
        simp only [decide_eq_true_eq] at hm
        have hlen2 : (h ++ encW o).length ≤ 4000 := by rw [List.length_append, hel]; omega
        have hwok : ∀ w, w ∈ h ++ encW o → WordOk w := fun w hw => by
          rcases List.mem_append.1 hw with hw | hw
          · exact hok w hw
          · exact enc_ok hop w hw
        have hfl2 : h ++ encW o = flat (l ++ [o]) := by rw [flat_append, ← hfl]; simp [flat]
        have hg2 : ∀ x, x ∈ l ++ [o] → rightS x = true ∧ NumOk x.num := fun x hx => by
          rcases List.mem_append.1 hx with hx | hx
          · exact hgood x hx
          · rw [List.mem_singleton.1 hx]; exact ⟨hr, hon⟩
        have hobg := objects_flat hg2 (by rw [← hfl2]; exact hwok) (by rw [← hfl2]; exact hlen2)
        have hat := at_ (h ++ encW o) h.length (by simp [maxLen]; omega) hwok
        have hae := at_enc h [] o hr hon
        rw [List.append_nil] at hae
        rw [hae] at hat
        exact ⟨(right_small hr).2, place 0 (l ++ [o]), h.length, by rw [← hfl2] at hobg; exact hobg, by rw [place_len]; simp, hat⟩
      · rcases hgr with ⟨h5, _⟩ | ⟨_, _, h6, L, h7, h8⟩
        · exact absurd h2 h5
        · have hfl2 : (B h).1 = flat (l ++ L) := by rw [h7, flat_append, ← hfl]
          have hg2 : ∀ x, x ∈ l ++ L → rightS x = true ∧ NumOk x.num := fun x hx => by
            rcases List.mem_append.1 hx with hx | hx
            · exact hgood x hx
            · exact ⟨(h8 x hx).1, (h8 x hx).2.1⟩
          have hwok : ∀ w, w ∈ flat (l ++ L) → WordOk w := fun w hw => by
            rw [← hfl2, h7] at hw
            rcases List.mem_append.1 hw with hw | hw
            · exact hok w hw
            · exact flat_ok (fun x hx => (h8 x hx).2.2) w hw
          have hob2 := objects_flat hg2 hwok (by rw [← hfl2]; exact h6)
          rw [← hfl2] at hob2
          exact ⟨place 0 (l ++ L), hob2, by rw [place_len]; simp⟩
    · rw [objF_err _ _ _ he] at hob
      exact wholeBad h o k n text args _ (by simpa using he) hob
  · rw [if_pos (by simp; omega)] at hv
    rw [hv] at hob
    exact wholeBad h o k n text args 2 (by decide) hob
end Go.Proofs.Ytagphggcdmjlpaa.P
