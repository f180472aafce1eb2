/- Letters of one who sent: a contract. -/
import Derived.Test.YtofbhmcmejhepaaD1
set_option linter.unusedSimpArgs false
set_option linter.unusedVariables false
set_option maxHeartbeats 1000000
namespace Go.Proofs.Ytofbhmcmejhepaa.P
open Go.Ab Go.Proofs.Ytofbhmcmejhepaa.T


theorem cloneL (xs : List (List PV)) (hx : ∀ x, x ∈ xs → x.length = 9) (hn : xs.length ≤ 1000000) :
    ACalls Try.prog 49 [.p (.sl xs)] [] (fun r obs => r = .ref 0 0 xs.length ∧ obs = [.row 9 xs]) := by
  refine acalln_fn [2] Try.func49 rfl rfl Try.ntmps49 (by simp) fun R hR => ?_
  (refine awp_reg_seq [0] fun K hK => ?_; (repeat' (first | ((first | refine al_r rfl fun K' hK' => ?_ | refine al_d rfl fun K' hK' => ?_ | refine al_t rfl rfl fun K' hK' => ?_); (repeat (first | (simp only [go_sem, simprocAttr]) | refine AS.mk ?_ | refine AAp.grow ?_)); (first | ((first | refine hK' _ _ ?_ | refine ⟨?_, hK' _ _ ?_⟩ | refine ⟨?_, ?_, hK' _ _ ?_⟩ | refine ⟨?_, ?_, ?_, hK' _ _ ?_⟩) <;> clear hK' K' <;> (first | (show alist _ _ _ _ _ _; skip) | (intro s hs; cases hs; done) | assumption | (simp; done) | omega | (simp; omega) | skip)))) | refine al_e rfl rfl ?_ | refine al_u rfl rfl ?_ | ((fail_if_success (refine al_t rfl rfl fun K' hK' => ?_)); refine al_s _ rfl rfl rfl (fun hb => ?_) (fun hb => ?_)))); all_goals (refine al_nil ?_; (simp only [go_sem, simprocAttr]); refine hK _ ?_; clear hK K))
  refine awp_seq_k fun K hK => ?_
  refine awp_reg_seq [0, 4] fun K hK => ?_
  repeat' (first | ((first | refine al_r rfl fun K' hK' => ?_ | refine al_d rfl fun K' hK' => ?_ | refine al_t rfl rfl fun K' hK' => ?_); (repeat (first | (simp only [go_sem, simprocAttr]) | refine AS.mk ?_ | refine AAp.grow ?_)); (first | ((first | refine hK' _ _ ?_ | refine ⟨?_, hK' _ _ ?_⟩ | refine ⟨?_, ?_, hK' _ _ ?_⟩ | refine ⟨?_, ?_, ?_, hK' _ _ ?_⟩) <;> clear hK' K' <;> (first | (show alist _ _ _ _ _ _; skip) | (intro s hs; cases hs; done) | assumption | (simp; done) | omega | (simp; omega) | skip)))) | refine al_e rfl rfl ?_ | refine al_u rfl rfl ?_ | ((fail_if_success (refine al_t rfl rfl fun K' hK' => ?_)); refine al_s _ rfl rfl rfl (fun hb => ?_) (fun hb => ?_)))
  refine al_run rfl rfl (by decide) fun K' hK' => ?_
  simp only [go_sem, simprocAttr]
  refine ⟨⟨_, rfl⟩, ?_⟩
  intro b hb
  refine hK' _ _ ?_
  clear hK' K'
  (refine al_nil ?_; (simp only [go_sem, simprocAttr]); refine hK _ ?_; clear hK K)
  refine awp_if (b) rfl (fun hc => ?_) (fun hc => ?_)
  · have hx0 : xs = [] := by
      cases xs with
      | nil => rfl
      | cons y l => have := hb (by simp); rw [this] at hc; cases hc
    subst hx0
    (refine awp_reg_seq [2] fun K hK => ?_; (repeat' (first | ((first | refine al_r rfl fun K' hK' => ?_ | refine al_d rfl fun K' hK' => ?_ | refine al_t rfl rfl fun K' hK' => ?_); (repeat (first | (simp only [go_sem, simprocAttr]) | refine AS.mk ?_ | refine AAp.grow ?_)); (first | ((first | refine hK' _ _ ?_ | refine ⟨?_, hK' _ _ ?_⟩ | refine ⟨?_, ?_, hK' _ _ ?_⟩ | refine ⟨?_, ?_, ?_, hK' _ _ ?_⟩) <;> clear hK' K' <;> (first | (show alist _ _ _ _ _ _; skip) | (intro s hs; cases hs; done) | assumption | (simp; done) | omega | (simp; omega) | skip)))) | refine al_e rfl rfl ?_ | refine al_u rfl rfl ?_ | ((fail_if_success (refine al_t rfl rfl fun K' hK' => ?_)); refine al_s _ rfl rfl rfl (fun hb => ?_) (fun hb => ?_)))); all_goals (refine al_nil ?_; (simp only [go_sem, simprocAttr]); refine hK _ ?_; clear hK K))
    refine awp_born 2 9 rfl ?_
    refine awp_ret (hR _ _ [0] (.inl rfl) rfl (by simp) ?_)
    refine ⟨?_, ?_⟩ <;> simp only [go_sem, simprocAttr]
  · refine awp_skip ?_
    refine hK _ ?_; clear hK K
    refine awp_reg_seq [2] fun K hK => ?_
    repeat' (first | ((first | refine al_r rfl fun K' hK' => ?_ | refine al_d rfl fun K' hK' => ?_ | refine al_t rfl rfl fun K' hK' => ?_); (repeat (first | (simp only [go_sem, simprocAttr]) | refine AS.mk ?_ | refine AAp.grow ?_)); (first | ((first | refine hK' _ _ ?_ | refine ⟨?_, hK' _ _ ?_⟩ | refine ⟨?_, ?_, hK' _ _ ?_⟩ | refine ⟨?_, ?_, ?_, hK' _ _ ?_⟩) <;> clear hK' K' <;> (first | (show alist _ _ _ _ _ _; skip) | (intro s hs; cases hs; done) | assumption | (simp; done) | omega | (simp; omega) | skip)))) | refine al_e rfl rfl ?_ | refine al_u rfl rfl ?_ | ((fail_if_success (refine al_t rfl rfl fun K' hK' => ?_)); refine al_s _ rfl rfl rfl (fun hb => ?_) (fun hb => ?_)))
    (refine al_nil ?_; (simp only [go_sem, simprocAttr]); refine hK _ ?_; clear hK K)
    refine awp_ret (hR _ _ [1] (.inl rfl) rfl (by simp) ?_)
    refine ⟨?_, ?_⟩ <;> simp only [go_sem, simprocAttr]

theorem lrow9 (ls : List Letter) : ∀ x, x ∈ ls.map Letter.row → x.length = 9 := fun x hx => by
  obtain ⟨l, _, rfl⟩ := List.mem_map.1 hx
  rfl


theorem indexL (ls : List Letter) (hlen : ls.length ≤ maxLen) (f : FuncId) (caps : List D) (p : Letter → Bool) (obs : List Ob) (ids : List Nat) (hub : ∀ o, o ∈ obs → o ≠ .unborn) (hd : ids.Nodup) (hp : ∀ k, k < obs.length → ids[k]? = some k)
    (hcap : caps.map (D.map (ren1 ids)) = caps) (hob : newObs obs ids = obs) (hm : merge obs ids obs = obs) (hlt : ∀ i, i ∈ ids → i < obs.length) (hl : ids.length ≤ obs.length)
    (hcf : ∀ args w, (callFunc f args).run Try.prog w = .ok (.enter f args) w) (h : ∀ n, n ∈ ls → ACallO Try.prog f (letterD n :: caps) obs (bD (p n))) :
    ACallO Try.prog 55 [letters ls, .fn f caps] obs (iD (firstAt p ls)) := by
  refine acallo_fn [4] ids Try.func55 rfl rfl Try.ntmps55 (by simp) hub hd hp fun R hR => ?_
  (refine awp_reg_seq [0, 1] fun K hK => ?_; (repeat' (first | ((first | refine al_r rfl fun K' hK' => ?_ | refine al_d rfl fun K' hK' => ?_ | refine al_t rfl rfl fun K' hK' => ?_); (repeat (first | (simp only [go_sem, simprocAttr, List.length_map]) | refine AS.mk ?_ | refine AAp.grow ?_)); (first | ((first | refine hK' _ _ ?_ | refine ⟨?_, hK' _ _ ?_⟩ | refine ⟨?_, ?_, hK' _ _ ?_⟩ | refine ⟨?_, ?_, ?_, hK' _ _ ?_⟩) <;> clear hK' K' <;> (first | (show alist _ _ _ _ _ _; skip) | (intro s hs; cases hs; done) | assumption | (simp; done) | omega | (simp; omega) | skip)))) | refine al_e rfl rfl ?_ | refine al_u rfl rfl ?_ | ((fail_if_success (refine al_t rfl rfl fun K' hK' => ?_)); refine al_s _ rfl rfl rfl (fun hb => ?_) (fun hb => ?_)))); all_goals (refine al_nil ?_; (simp only [go_sem, simprocAttr, List.length_map]); refine hK _ ?_; clear hK K))
  refine awp_seq_k fun K hK => ?_
  (refine awp_reg_seq [0, 1, 7, 8] fun K hK => ?_; (repeat' (first | ((first | refine al_r rfl fun K' hK' => ?_ | refine al_d rfl fun K' hK' => ?_ | refine al_t rfl rfl fun K' hK' => ?_); (repeat (first | (simp only [go_sem, simprocAttr, List.length_map]) | refine AS.mk ?_ | refine AAp.grow ?_)); (first | ((first | refine hK' _ _ ?_ | refine ⟨?_, hK' _ _ ?_⟩ | refine ⟨?_, ?_, hK' _ _ ?_⟩ | refine ⟨?_, ?_, ?_, hK' _ _ ?_⟩) <;> clear hK' K' <;> (first | (show alist _ _ _ _ _ _; skip) | (intro s hs; cases hs; done) | assumption | (simp; done) | omega | (simp; omega) | skip)))) | refine al_e rfl rfl ?_ | refine al_u rfl rfl ?_ | ((fail_if_success (refine al_t rfl rfl fun K' hK' => ?_)); refine al_s _ rfl rfl rfl (fun hb => ?_) (fun hb => ?_)))); all_goals (refine al_nil ?_; (simp only [go_sem, simprocAttr, List.length_map]); refine hK _ ?_; clear hK K))
  refine awp_block ?_
  refine awp_loop (fun m s => ∃ i : Nat, i ≤ ls.length ∧ m = ls.length - i ∧ (∀ j, j < i → ∀ y, ls[j]? = some y → p y = false) ∧ s = ⟨ofL [(0, letters ls), (1, .fn f caps), (7, iD ls.length), (8, iD i)], obs, obs.length⟩) ⟨_, 0, Nat.zero_le _, rfl, fun j hj => absurd hj (by omega), rfl⟩ ?_
  rintro m s ⟨i, hi, rfl, hbefore, rfl⟩
  (refine awp_reg_seq [0, 1, 7, 8, 9] fun K hK => ?_; (repeat' (first | ((first | refine al_r rfl fun K' hK' => ?_ | refine al_d rfl fun K' hK' => ?_ | refine al_t rfl rfl fun K' hK' => ?_); (repeat (first | (simp only [go_sem, simprocAttr, List.length_map]) | refine AS.mk ?_ | refine AAp.grow ?_)); (first | ((first | refine hK' _ _ ?_ | refine ⟨?_, hK' _ _ ?_⟩ | refine ⟨?_, ?_, hK' _ _ ?_⟩ | refine ⟨?_, ?_, ?_, hK' _ _ ?_⟩) <;> clear hK' K' <;> (first | (show alist _ _ _ _ _ _; skip) | (intro s hs; cases hs; done) | assumption | (simp; done) | omega | (simp; omega) | skip)))) | refine al_e rfl rfl ?_ | refine al_u rfl rfl ?_ | ((fail_if_success (refine al_t rfl rfl fun K' hK' => ?_)); refine al_s _ rfl rfl rfl (fun hb => ?_) (fun hb => ?_)))); all_goals (refine al_nil ?_; (simp only [go_sem, simprocAttr, List.length_map]); refine hK _ ?_; clear hK K))
  refine awp_seq_k fun K hK => ?_
  refine awp_if (decide ((i : Int) < ls.length)) rfl (fun hc => ?_) (fun hc => ?_)
  · refine awp_skip ?_
    refine hK _ ?_; clear hK K
    have hi2 : i < ls.length := by simpa using hc
    obtain ⟨n, hget⟩ : ∃ n, ls[i]? = some n := ⟨_, List.getElem?_eq_getElem hi2⟩
    have hnn : (0 : Int) ≤ (i : Int) := Int.natCast_nonneg i

    refine awp_seq_k fun K hK => ?_
    refine awp_block ?_
    (refine awp_reg_seq [0, 1, 5, 7, 8] fun K hK => ?_; (repeat' (first | ((first | refine al_r rfl fun K' hK' => ?_ | refine al_d rfl fun K' hK' => ?_ | refine al_t rfl rfl fun K' hK' => ?_); (repeat (first | (simp only [go_sem, simprocAttr, hget, hnn, List.getElem?_map, Int.toNat_natCast, Option.map_some, Letter.row]) | refine AS.mk ?_ | refine AAp.grow ?_)); (first | ((first | refine hK' _ _ ?_ | refine ⟨?_, hK' _ _ ?_⟩ | refine ⟨?_, ?_, hK' _ _ ?_⟩ | refine ⟨?_, ?_, ?_, hK' _ _ ?_⟩) <;> clear hK' K' <;> (first | (show alist _ _ _ _ _ _; skip) | (intro s hs; cases hs; done) | assumption | (simp; done) | omega | (simp; omega) | skip)))) | refine al_e rfl rfl ?_ | refine al_u rfl rfl ?_ | ((fail_if_success (refine al_t rfl rfl fun K' hK' => ?_)); refine al_s _ rfl rfl rfl (fun hb => ?_) (fun hb => ?_)))); all_goals (refine al_nil ?_; (simp only [go_sem, simprocAttr, hget, hnn, List.getElem?_map, Int.toNat_natCast, Option.map_some, Letter.row]); refine hK _ ?_; clear hK K))
    refine awp_reg_seq [0, 1, 5, 7, 8, 16] fun K hK => ?_
    repeat' (first | ((first | refine al_r rfl fun K' hK' => ?_ | refine al_d rfl fun K' hK' => ?_ | refine al_t rfl rfl fun K' hK' => ?_); (repeat (first | (simp only [go_sem, simprocAttr, hget, hnn, List.getElem?_map, Int.toNat_natCast, Option.map_some, Letter.row]) | refine AS.mk ?_ | refine AAp.grow ?_)); (first | ((first | refine hK' _ _ ?_ | refine ⟨?_, hK' _ _ ?_⟩ | refine ⟨?_, ?_, hK' _ _ ?_⟩ | refine ⟨?_, ?_, ?_, hK' _ _ ?_⟩) <;> clear hK' K' <;> (first | (show alist _ _ _ _ _ _; skip) | (intro s hs; cases hs; done) | assumption | (simp; done) | omega | (simp; omega) | skip)))) | refine al_e rfl rfl ?_ | refine al_u rfl rfl ?_ | ((fail_if_success (refine al_t rfl rfl fun K' hK' => ?_)); refine al_s _ rfl rfl rfl (fun hb => ?_) (fun hb => ?_)))
    · refine al_run rfl rfl (by decide) fun K' hK' => ?_
      simp only [go_sem, simprocAttr, hget, hnn, List.getElem?_map, Int.toNat_natCast, Option.map_some, Letter.row]
      refine acall_o ids hcf (h n (List.mem_of_getElem? hget)) (by simpa [D.map, D.mapL, ren1] using hcap) hob hm hd hlt hl rfl (hK' _ _ ?_)
      clear hK' K'
      (refine al_nil ?_; (simp only [go_sem, simprocAttr, hget, hnn, List.getElem?_map, Int.toNat_natCast, Option.map_some, Letter.row]); refine hK _ ?_; clear hK K)
      refine awp_if (p n) rfl (fun hc => ?_) (fun hc => ?_)
      · (refine awp_reg_seq [4] fun K hK => ?_; (repeat' (first | ((first | refine al_r rfl fun K' hK' => ?_ | refine al_d rfl fun K' hK' => ?_ | refine al_t rfl rfl fun K' hK' => ?_); (repeat (first | (simp only [go_sem, simprocAttr, hget, hnn, List.getElem?_map, Int.toNat_natCast, Option.map_some, Letter.row]) | refine AS.mk ?_ | refine AAp.grow ?_)); (first | ((first | refine hK' _ _ ?_ | refine ⟨?_, hK' _ _ ?_⟩ | refine ⟨?_, ?_, hK' _ _ ?_⟩ | refine ⟨?_, ?_, ?_, hK' _ _ ?_⟩) <;> clear hK' K' <;> (first | (show alist _ _ _ _ _ _; skip) | (intro s hs; cases hs; done) | assumption | (simp; done) | omega | (simp; omega) | skip)))) | refine al_e rfl rfl ?_ | refine al_u rfl rfl ?_ | ((fail_if_success (refine al_t rfl rfl fun K' hK' => ?_)); refine al_s _ rfl rfl rfl (fun hb => ?_) (fun hb => ?_)))); all_goals (refine al_nil ?_; (simp only [go_sem, simprocAttr, hget, hnn, List.getElem?_map, Int.toNat_natCast, Option.map_some, Letter.row]); refine hK _ ?_; clear hK K))
        refine awp_ret ?_; (first | refine hR _ _ (.inl rfl) rfl ?_ | refine hR _ _ (.inl rfl) rfl ?_ ?_)
        · simp only [go_sem, simprocAttr, hget, hnn, List.getElem?_map, Int.toNat_natCast, Option.map_some, Letter.row]
          rw [firstAt_at hbefore hget hc]
        · exact hob
      · have hpn := hc
        refine awp_skip ?_
        refine hK _ ?_; clear hK K
        (refine awp_reg_end [0, 1, 7, 8] fun K hK => ?_; (repeat' (first | ((first | refine al_r rfl fun K' hK' => ?_ | refine al_d rfl fun K' hK' => ?_ | refine al_t rfl rfl fun K' hK' => ?_); (repeat (first | (simp only [go_sem, simprocAttr, hget, hnn, List.getElem?_map, Int.toNat_natCast, Option.map_some, Letter.row]) | refine AS.mk ?_ | refine AAp.grow ?_)); (first | ((first | refine hK' _ _ ?_ | refine ⟨?_, hK' _ _ ?_⟩ | refine ⟨?_, ?_, hK' _ _ ?_⟩ | refine ⟨?_, ?_, ?_, hK' _ _ ?_⟩) <;> clear hK' K' <;> (first | (show alist _ _ _ _ _ _; skip) | (intro s hs; cases hs; done) | assumption | (simp; done) | omega | (simp; omega) | skip)))) | refine al_e rfl rfl ?_ | refine al_u rfl rfl ?_ | ((fail_if_success (refine al_t rfl rfl fun K' hK' => ?_)); refine al_s _ rfl rfl rfl (fun hb => ?_) (fun hb => ?_)))); all_goals (refine al_nil ?_; (simp only [go_sem, simprocAttr, hget, hnn, List.getElem?_map, Int.toNat_natCast, Option.map_some, Letter.row]); refine hK _ ?_; clear hK K))
        refine ⟨_, ?_, i + 1, hi2, rfl, ?_, ?_⟩
        · omega
        · intro j hj y hy
          by_cases e : j = i
          · subst e; rw [hget] at hy; cases hy; exact hpn
          · exact hbefore j (by omega) y hy
        · rw [wrap_next hi2 hlen]

  · refine awp_exit ?_
    clear hK
    refine hK _ ?_; clear hK K
    have hi2 : i = ls.length := by simp at hc; omega
    (refine awp_reg_seq [4] fun K hK => ?_; (repeat' (first | ((first | refine al_r rfl fun K' hK' => ?_ | refine al_d rfl fun K' hK' => ?_ | refine al_t rfl rfl fun K' hK' => ?_); (repeat (first | (simp only [go_sem, simprocAttr, List.length_map]) | refine AS.mk ?_ | refine AAp.grow ?_)); (first | ((first | refine hK' _ _ ?_ | refine ⟨?_, hK' _ _ ?_⟩ | refine ⟨?_, ?_, hK' _ _ ?_⟩ | refine ⟨?_, ?_, ?_, hK' _ _ ?_⟩) <;> clear hK' K' <;> (first | (show alist _ _ _ _ _ _; skip) | (intro s hs; cases hs; done) | assumption | (simp; done) | omega | (simp; omega) | skip)))) | refine al_e rfl rfl ?_ | refine al_u rfl rfl ?_ | ((fail_if_success (refine al_t rfl rfl fun K' hK' => ?_)); refine al_s _ rfl rfl rfl (fun hb => ?_) (fun hb => ?_)))); all_goals (refine al_nil ?_; (simp only [go_sem, simprocAttr, List.length_map]); refine hK _ ?_; clear hK K))
    refine awp_ret ?_; (first | refine hR _ _ (.inl rfl) rfl ?_ | refine hR _ _ (.inl rfl) rfl ?_ ?_)
    · simp only [go_sem, simprocAttr, List.length_map]
      rw [firstAt_none fun j y hy => hbefore j (by
        rcases Nat.lt_or_ge j ls.length with h' | h'
        · omega
        · simp [List.getElem?_eq_none h'] at hy) y hy]
    · exact hob




theorem notWho (n : Letter) (who : Int) : ACallP Try.prog 51 [letterD n, .rd [.lit (.int .i64 who)] 0] (bD (n.src != who)) := by
  refine acallp_fn [3] Try.func51 rfl rfl Try.ntmps51 (by simp) fun R hR => ?_
  (refine awp_reg_seq [1, 2] fun K hK => ?_; (repeat' (first | ((first | refine al_r rfl fun K' hK' => ?_ | refine al_d rfl fun K' hK' => ?_ | refine al_t rfl rfl fun K' hK' => ?_); (repeat (first | (simp only [go_sem, simprocAttr]) | refine AS.mk ?_ | refine AAp.grow ?_)); (first | ((first | refine hK' _ _ ?_ | refine ⟨?_, hK' _ _ ?_⟩ | refine ⟨?_, ?_, hK' _ _ ?_⟩ | refine ⟨?_, ?_, ?_, hK' _ _ ?_⟩) <;> clear hK' K' <;> (first | (show alist _ _ _ _ _ _; skip) | (intro s hs; cases hs; done) | assumption | (simp; done) | omega | (simp; omega) | skip)))) | refine al_e rfl rfl ?_ | refine al_u rfl rfl ?_ | ((fail_if_success (refine al_t rfl rfl fun K' hK' => ?_)); refine al_s _ rfl rfl rfl (fun hb => ?_) (fun hb => ?_)))); all_goals (refine al_nil ?_; (simp only [go_sem, simprocAttr]); refine hK _ ?_; clear hK K))
  (refine awp_reg_seq [3] fun K hK => ?_; (repeat' (first | ((first | refine al_r rfl fun K' hK' => ?_ | refine al_d rfl fun K' hK' => ?_ | refine al_t rfl rfl fun K' hK' => ?_); (repeat (first | (simp only [go_sem, simprocAttr]) | refine AS.mk ?_ | refine AAp.grow ?_)); (first | ((first | refine hK' _ _ ?_ | refine ⟨?_, hK' _ _ ?_⟩ | refine ⟨?_, ?_, hK' _ _ ?_⟩ | refine ⟨?_, ?_, ?_, hK' _ _ ?_⟩) <;> clear hK' K' <;> (first | (show alist _ _ _ _ _ _; skip) | (intro s hs; cases hs; done) | assumption | (simp; done) | omega | (simp; omega) | skip)))) | refine al_e rfl rfl ?_ | refine al_u rfl rfl ?_ | ((fail_if_success (refine al_t rfl rfl fun K' hK' => ?_)); refine al_s _ rfl rfl rfl (fun hb => ?_) (fun hb => ?_)))); all_goals (refine al_nil ?_; (simp only [go_sem, simprocAttr]); refine hK _ ?_; clear hK K))
  all_goals refine awp_ret ?_; (first | refine hR _ _ (.inl rfl) rfl ?_ | refine hR _ _ (.inl rfl) rfl ?_ ?_)
  all_goals (first | simp only [go_sem, simprocAttr, *, Bool.and_true, Bool.and_false, Bool.true_and, Bool.false_and, Bool.or_true, Bool.true_or, Bool.or_false, Bool.false_or, Bool.not_true, Bool.not_false, Bool.false_eq_true] | rfl)

abbrev other (who : Int) (n : Letter) : Bool := n.src != who

theorem findL (ls : List Letter) (hlen : ls.length ≤ maxLen) (who : Int) : ACallP Try.prog 55 [letters ls, .fn 51 [.rd [.lit (.int .i64 who)] 0]] (iD (firstAt (other who) ls)) :=
  (indexL ls hlen 51 [.rd [.lit (.int .i64 who)] 0] (other who) [] [] (by simp) (by simp) (by simp) rfl rfl rfl (by simp) (by simp) Try.call51 fun n _ => notWho n who).p

abbrev zrow : List PV := [.lit (.int .i64 0), .lit (.int .i64 0), .lit (.int .i64 0), .lit (.int .i64 0), .lit (.string ByteArray.empty), .lit (.int .i64 0), .lit (.int .i64 0), .lit (.string ByteArray.empty), .sl []]


theorem delL (ls : List Letter) (hlen : ls.length ≤ maxLen) (p : Letter → Bool) (who : Int) (hix : ACallP Try.prog 55 [.p (.sl (ls.map Letter.row)), .fn 51 [.rd [.lit (.int .i64 who)] 0]] (iD (firstAt p ls))) (h : ∀ n, n ∈ ls → ACallP Try.prog 51 [letterD n, .rd [.lit (.int .i64 who)] 0] (bD (p n))) :
    ACalls Try.prog 50 [.ref 0 0 ls.length, .fn 51 [.rd [.lit (.int .i64 who)] 0]] [.row 9 (ls.map Letter.row)] (fun r obs => r = .ref 0 0 (left p ls).length ∧ obs = [.row 9 ((left p ls).map Letter.row ++ List.replicate (ls.length - (left p ls).length) zrow)]) := by
  have hrange := firstAt_range p ls
  have hix2 : ACallP Try.prog 55 [.p (.sl (List.take ls.length (ls.map Letter.row))), .fn 51 [.rd [.lit (.int .i64 who)] 0]] (iD (firstAt p ls)) := by
    rw [List.take_of_length_le (by simp)]; exact hix
  clear hix
  generalize firstAt p ls = q at hix2 hrange
  refine acallm_fn [4] Try.func50 rfl rfl Try.ntmps50 (by simp) (by simp) fun R hR => ?_
  (refine awp_reg_seq [0, 1] fun K hK => ?_; (repeat' (first | ((first | refine al_r rfl fun K' hK' => ?_ | refine al_d rfl fun K' hK' => ?_ | refine al_t rfl rfl fun K' hK' => ?_); (repeat (first | (simp only [go_sem, simprocAttr, List.length_map]) | refine AS.mk ?_ | refine AAp.grow ?_)); (first | ((first | refine hK' _ _ ?_ | refine ⟨?_, hK' _ _ ?_⟩ | refine ⟨?_, ?_, hK' _ _ ?_⟩ | refine ⟨?_, ?_, ?_, hK' _ _ ?_⟩) <;> clear hK' K' <;> (first | (show alist _ _ _ _ _ _; skip) | (intro s hs; cases hs; done) | assumption | (simp; done) | omega | (simp; omega) | skip)))) | refine al_e rfl rfl ?_ | refine al_u rfl rfl ?_ | ((fail_if_success (refine al_t rfl rfl fun K' hK' => ?_)); refine al_s _ rfl rfl rfl (fun hb => ?_) (fun hb => ?_)))); all_goals (refine al_nil ?_; (simp only [go_sem, simprocAttr, List.length_map]); refine hK _ ?_; clear hK K))
  (refine awp_reg_seq [0, 1, 5] fun K hK => ?_; (repeat' (first | ((first | refine al_r rfl fun K' hK' => ?_ | refine al_d rfl fun K' hK' => ?_ | refine al_t rfl rfl fun K' hK' => ?_); (repeat (first | (simp only [go_sem, simprocAttr, List.length_map]) | refine AS.mk ?_ | refine AAp.grow ?_)); (first | ((first | refine hK' _ _ ?_ | refine ⟨?_, hK' _ _ ?_⟩ | refine ⟨?_, ?_, hK' _ _ ?_⟩ | refine ⟨?_, ?_, ?_, hK' _ _ ?_⟩) <;> clear hK' K' <;> (first | (show alist _ _ _ _ _ _; skip) | (intro s hs; cases hs; done) | assumption | (simp; done) | omega | (simp; omega) | skip)) | ((show AC _ _ (D.fn 55 _) _ _); refine acall_g (f := 55) (e := rfl) (hr := rfl) (hf := by simp [D.all, D.allL, flatL, flatPV]) (k := hK' _ _ ?_) (hc := Try.call55) (h := hix2); clear hK' K'))) | refine al_e rfl rfl ?_ | refine al_u rfl rfl ?_ | ((fail_if_success (refine al_t rfl rfl fun K' hK' => ?_)); refine al_s _ rfl rfl rfl (fun hb => ?_) (fun hb => ?_)))); all_goals (refine al_nil ?_; (simp only [go_sem, simprocAttr, List.length_map]); refine hK _ ?_; clear hK K))
  refine awp_seq_k fun K hK => ?_
  (refine awp_reg_seq [0, 1, 5, 12] fun K hK => ?_; (repeat' (first | ((first | refine al_r rfl fun K' hK' => ?_ | refine al_d rfl fun K' hK' => ?_ | refine al_t rfl rfl fun K' hK' => ?_); (repeat (first | (simp only [go_sem, simprocAttr, List.length_map]) | refine AS.mk ?_ | refine AAp.grow ?_)); (first | ((first | refine hK' _ _ ?_ | refine ⟨?_, hK' _ _ ?_⟩ | refine ⟨?_, ?_, hK' _ _ ?_⟩ | refine ⟨?_, ?_, ?_, hK' _ _ ?_⟩) <;> clear hK' K' <;> (first | (show alist _ _ _ _ _ _; skip) | (intro s hs; cases hs; done) | assumption | (simp; done) | omega | (simp; omega) | skip)))) | refine al_e rfl rfl ?_ | refine al_u rfl rfl ?_ | ((fail_if_success (refine al_t rfl rfl fun K' hK' => ?_)); refine al_s _ rfl rfl rfl (fun hb => ?_) (fun hb => ?_)))); all_goals (refine al_nil ?_; (simp only [go_sem, simprocAttr, List.length_map]); refine hK _ ?_; clear hK K))
  refine awp_if (q == -1) rfl (fun hc => ?_) (fun hc => ?_)
  · have hq : q = -1 := by simpa using hc
    have hnone : ∀ (j : Nat) y, ls[j]? = some y → p y = false := by
      rcases hrange with ⟨_, h1⟩ | ⟨k, x, h1, _⟩
      · exact h1
      · omega
    have hall : left p ls = ls := by
      unfold left
      rw [List.filter_eq_self]
      intro y hy
      obtain ⟨j, hj⟩ := List.getElem?_of_mem hy
      simp [hnone j y hj]
    rw [hall] at hR
    (refine awp_reg_seq [4] fun K hK => ?_; (repeat' (first | ((first | refine al_r rfl fun K' hK' => ?_ | refine al_d rfl fun K' hK' => ?_ | refine al_t rfl rfl fun K' hK' => ?_); (repeat (first | (simp only [go_sem, simprocAttr, List.length_map]) | refine AS.mk ?_ | refine AAp.grow ?_)); (first | ((first | refine hK' _ _ ?_ | refine ⟨?_, hK' _ _ ?_⟩ | refine ⟨?_, ?_, hK' _ _ ?_⟩ | refine ⟨?_, ?_, ?_, hK' _ _ ?_⟩) <;> clear hK' K' <;> (first | (show alist _ _ _ _ _ _; skip) | (intro s hs; cases hs; done) | assumption | (simp; done) | omega | (simp; omega) | skip)))) | refine al_e rfl rfl ?_ | refine al_u rfl rfl ?_ | ((fail_if_success (refine al_t rfl rfl fun K' hK' => ?_)); refine al_s _ rfl rfl rfl (fun hb => ?_) (fun hb => ?_)))); all_goals (refine al_nil ?_; (simp only [go_sem, simprocAttr, List.length_map]); refine hK _ ?_; clear hK K))
    refine awp_ret (hR _ _ [0] (.inl rfl) rfl (by decide) (by simp only [List.length_cons, List.length_nil]; decide) ?_)
    refine ⟨?_, ?_⟩ <;> simp only [go_sem, simprocAttr, List.length_map]
    simp
  · have hq : q ≠ -1 := by simpa using hc
    obtain ⟨k, x, rfl, hkx, hpx, hbefore⟩ : ∃ (k : Nat) (x : Letter), q = k ∧ ls[k]? = some x ∧ p x = true ∧ ∀ j, j < k → ∀ y, ls[j]? = some y → p y = false := by
      rcases hrange with ⟨h1, _⟩ | ⟨k, x, h1, h2, h3, h4⟩
      · exact absurd h1 hq
      · exact ⟨k, x, h1, h2, h3, h4⟩
    have hkl := lt_of_get hkx
    refine awp_skip ?_
    refine hK _ ?_; clear hK K
    refine awp_seq_k fun K hK => ?_
    (refine awp_reg_seq [0, 1, 5, 6] fun K hK => ?_; (repeat' (first | ((first | refine al_r rfl fun K' hK' => ?_ | refine al_d rfl fun K' hK' => ?_ | refine al_t rfl rfl fun K' hK' => ?_); (repeat (first | (simp only [go_sem, simprocAttr, List.length_map]) | refine AS.mk ?_ | refine AAp.grow ?_)); (first | ((first | refine hK' _ _ ?_ | refine ⟨?_, hK' _ _ ?_⟩ | refine ⟨?_, ?_, hK' _ _ ?_⟩ | refine ⟨?_, ?_, ?_, hK' _ _ ?_⟩) <;> clear hK' K' <;> (first | (show alist _ _ _ _ _ _; skip) | (intro s hs; cases hs; done) | assumption | (simp; done) | omega | (simp; omega) | skip)))) | refine al_e rfl rfl ?_ | refine al_u rfl rfl ?_ | ((fail_if_success (refine al_t rfl rfl fun K' hK' => ?_)); refine al_s _ rfl rfl rfl (fun hb => ?_) (fun hb => ?_)))); all_goals (refine al_nil ?_; (simp only [go_sem, simprocAttr, List.length_map]); refine hK _ ?_; clear hK K))
    rw [wrap_next hkl hlen]
    refine awp_block ?_
    -- loop 0 head [0, 1, 5, 6]
    refine awp_loop (fun m s => ∃ (i j : Nat) (cur : List Letter), i < j ∧ j ≤ ls.length ∧ m = ls.length - j ∧ cur.length = ls.length ∧ cur.take i = left p (ls.take j) ∧ cur.drop j = ls.drop j ∧ s = ⟨ofL [(0, .ref 0 0 ls.length), (1, .fn 51 [.rd [.lit (.int .i64 who)] 0]), (5, iD i), (6, iD j)], [.row 9 (cur.map Letter.row)], 1⟩) ⟨_, k, k + 1, ls, by omega, by omega, rfl, rfl, del_start hbefore hkx hpx, rfl, rfl⟩ ?_
    rintro m s ⟨i, j, cur, hij, hj, rfl, hcl, hc1, hc2, rfl⟩
    refine awp_seq_k fun K hK => ?_
    (refine awp_reg_seq [0, 1, 5, 6, 19] fun K hK => ?_; (repeat' (first | ((first | refine al_r rfl fun K' hK' => ?_ | refine al_d rfl fun K' hK' => ?_ | refine al_t rfl rfl fun K' hK' => ?_); (repeat (first | (simp only [go_sem, simprocAttr, List.length_map]) | refine AS.mk ?_ | refine AAp.grow ?_)); (first | ((first | refine hK' _ _ ?_ | refine ⟨?_, hK' _ _ ?_⟩ | refine ⟨?_, ?_, hK' _ _ ?_⟩ | refine ⟨?_, ?_, ?_, hK' _ _ ?_⟩) <;> clear hK' K' <;> (first | (show alist _ _ _ _ _ _; skip) | (intro s hs; cases hs; done) | assumption | (simp; done) | omega | (simp; omega) | skip)))) | refine al_e rfl rfl ?_ | refine al_u rfl rfl ?_ | ((fail_if_success (refine al_t rfl rfl fun K' hK' => ?_)); refine al_s _ rfl rfl rfl (fun hb => ?_) (fun hb => ?_)))); all_goals (refine al_nil ?_; (simp only [go_sem, simprocAttr, List.length_map]); refine hK _ ?_; clear hK K))
    refine awp_if (decide ((j : Int) < ls.length)) rfl (fun hc => ?_) (fun hc => ?_)
    · refine awp_skip ?_
      refine hK _ ?_; clear hK K
      refine awp_seq_k fun K hK => ?_
      refine awp_block ?_
      have hj2 : j < ls.length := by simpa using hc
      obtain ⟨v, hv⟩ := get_of_lt hj2
      have hcv1 : cur[j]? = some v := by
        have := congrArg (·[0]?) hc2
        simpa [hv] using this
      have hnn : (0 : Int) ≤ (j : Int) := Int.natCast_nonneg j
      have hni : (0 : Int) ≤ (i : Int) := Int.natCast_nonneg i
      have hi2 : i < ls.length := by omega
      have hi3 : (i : Int) < (ls.length : Int) := by omega
      have hj3 : (j : Int) < (ls.length : Int) := by omega
      obtain ⟨u, hcu⟩ := get_of_lt (l := cur) (i := i) (by omega)
      have hcv := h v (List.mem_of_getElem? hv)

      (refine awp_reg_seq [0, 1, 5, 6, 7] fun K hK => ?_; (repeat' (first | ((first | refine al_r rfl fun K' hK' => ?_ | refine al_d rfl fun K' hK' => ?_ | refine al_t rfl rfl fun K' hK' => ?_); (repeat (first | (simp only [go_sem, simprocAttr, hcv1, hcu, hnn, hni, hj2, hi2, hi3, hj3, List.getElem?_map, Int.toNat_natCast, Option.map_some, List.length_map, List.length_set, Letter.row, hcl]) | refine AS.mk ?_ | refine AAp.grow ?_)); (first | ((first | refine hK' _ _ ?_ | refine ⟨?_, hK' _ _ ?_⟩ | refine ⟨?_, ?_, hK' _ _ ?_⟩ | refine ⟨?_, ?_, ?_, hK' _ _ ?_⟩) <;> clear hK' K' <;> (first | (show alist _ _ _ _ _ _; skip) | (intro s hs; cases hs; done) | assumption | (simp; done) | omega | (simp; omega) | skip)))) | refine al_e rfl rfl ?_ | refine al_u rfl rfl ?_ | ((fail_if_success (refine al_t rfl rfl fun K' hK' => ?_)); refine al_s _ rfl rfl rfl (fun hb => ?_) (fun hb => ?_)))); all_goals (refine al_nil ?_; (simp only [go_sem, simprocAttr, hcv1, hcu, hnn, hni, hj2, hi2, hi3, hj3, List.getElem?_map, Int.toNat_natCast, Option.map_some, List.length_map, List.length_set, Letter.row, hcl]); refine hK _ ?_; clear hK K))
      (refine awp_frz [0, 1, 5, 6, 7] [0] (by decide) (by simp) ?_; simp only [go_sem, simprocAttr, hcv1, hcu, hnn, hni, hj2, hi2, hi3, hj3, List.getElem?_map, Int.toNat_natCast, Option.map_some, List.length_map, List.length_set, Letter.row, hcl])
      (refine awp_reg_seq [0, 1, 5, 6, 7, 29] fun K hK => ?_; (repeat' (first | ((first | refine al_r rfl fun K' hK' => ?_ | refine al_d rfl fun K' hK' => ?_ | refine al_t rfl rfl fun K' hK' => ?_); (repeat (first | (simp only [go_sem, simprocAttr, hcv1, hcu, hnn, hni, hj2, hi2, hi3, hj3, List.getElem?_map, Int.toNat_natCast, Option.map_some, List.length_map, List.length_set, Letter.row, hcl]) | refine AS.mk ?_ | refine AAp.grow ?_)); (first | ((first | refine hK' _ _ ?_ | refine ⟨?_, hK' _ _ ?_⟩ | refine ⟨?_, ?_, hK' _ _ ?_⟩ | refine ⟨?_, ?_, ?_, hK' _ _ ?_⟩) <;> clear hK' K' <;> (first | (show alist _ _ _ _ _ _; skip) | (intro s hs; cases hs; done) | assumption | (simp; done) | omega | (simp; omega) | skip)) | ((show AC _ _ (D.fn 55 _) _ _); refine acall_g (f := 55) (e := rfl) (hr := rfl) (hf := by simp [D.all, D.allL, flatL, flatPV]) (k := hK' _ _ ?_) (hc := Try.call55) (h := hix2); clear hK' K') | ((show AC _ _ (D.fn 51 _) _ _); refine acall_p (f := 51) (e := rfl) (hr := rfl) (k := hK' _ _ ?_) (hc := Try.call51) (h := hcv); clear hK' K'))) | refine al_e rfl rfl ?_ | refine al_u rfl rfl ?_ | ((fail_if_success (refine al_t rfl rfl fun K' hK' => ?_)); refine al_s _ rfl rfl rfl (fun hb => ?_) (fun hb => ?_)))); all_goals (refine al_nil ?_; (simp only [go_sem, simprocAttr, hcv1, hcu, hnn, hni, hj2, hi2, hi3, hj3, List.getElem?_map, Int.toNat_natCast, Option.map_some, List.length_map, List.length_set, Letter.row, hcl]); refine hK _ ?_; clear hK K))
      refine awp_if (!(p v)) rfl (fun hc => ?_) (fun hc => ?_)
      · have hpv : p v = false := by simpa using hc
        obtain ⟨d1, d2⟩ := del_keep hij hcl hc1 hc2 hv hpv
        have hnx : IntKind.i64.wrap ((i : Int) + 1) = ((i + 1 : Nat) : Int) := wrap_next hi2 hlen
        have hjx : IntKind.i64.wrap ((j : Int) + 1) = ((j + 1 : Nat) : Int) := wrap_next hj2 hlen
        (refine awp_reg_seq [0, 1, 5, 6] fun K hK => ?_; (repeat' (first | ((first | refine al_r rfl fun K' hK' => ?_ | refine al_d rfl fun K' hK' => ?_ | refine al_t rfl rfl fun K' hK' => ?_); (repeat (first | (simp only [go_sem, simprocAttr, hcv1, hcu, hnn, hni, hj2, hi2, hi3, hj3, List.getElem?_map, Int.toNat_natCast, Option.map_some, List.length_map, List.length_set, Letter.row, hcl]) | refine AS.mk ?_ | refine AAp.grow ?_)); (first | ((first | refine hK' _ _ ?_ | refine ⟨?_, hK' _ _ ?_⟩ | refine ⟨?_, ?_, hK' _ _ ?_⟩ | refine ⟨?_, ?_, ?_, hK' _ _ ?_⟩) <;> clear hK' K' <;> (first | (show alist _ _ _ _ _ _; skip) | (intro s hs; cases hs; done) | assumption | (simp; done) | omega | (simp; omega) | skip)))) | refine al_e rfl rfl ?_ | refine al_u rfl rfl ?_ | ((fail_if_success (refine al_t rfl rfl fun K' hK' => ?_)); refine al_s _ rfl rfl rfl (fun hb => ?_) (fun hb => ?_)))); all_goals (refine al_nil ?_; (simp only [go_sem, simprocAttr, hcv1, hcu, hnn, hni, hj2, hi2, hi3, hj3, List.getElem?_map, Int.toNat_natCast, Option.map_some, List.length_map, List.length_set, Letter.row, hcl]); refine hK _ ?_; clear hK K))
        (refine awp_reg_end [0, 1, 5, 6] fun K hK => ?_; (repeat' (first | ((first | refine al_r rfl fun K' hK' => ?_ | refine al_d rfl fun K' hK' => ?_ | refine al_t rfl rfl fun K' hK' => ?_); (repeat (first | (simp only [go_sem, simprocAttr, hcv1, hcu, hnn, hni, hj2, hi2, hi3, hj3, List.getElem?_map, Int.toNat_natCast, Option.map_some, List.length_map, List.length_set, Letter.row, hcl]) | refine AS.mk ?_ | refine AAp.grow ?_)); (first | ((first | refine hK' _ _ ?_ | refine ⟨?_, hK' _ _ ?_⟩ | refine ⟨?_, ?_, hK' _ _ ?_⟩ | refine ⟨?_, ?_, ?_, hK' _ _ ?_⟩) <;> clear hK' K' <;> (first | (show alist _ _ _ _ _ _; skip) | (intro s hs; cases hs; done) | assumption | (simp; done) | omega | (simp; omega) | skip)))) | refine al_e rfl rfl ?_ | refine al_u rfl rfl ?_ | ((fail_if_success (refine al_t rfl rfl fun K' hK' => ?_)); refine al_s _ rfl rfl rfl (fun hb => ?_) (fun hb => ?_)))); all_goals (refine al_nil ?_; (simp only [go_sem, simprocAttr, hcv1, hcu, hnn, hni, hj2, hi2, hi3, hj3, List.getElem?_map, Int.toNat_natCast, Option.map_some, List.length_map, List.length_set, Letter.row, hcl]); refine hK _ ?_; clear hK K))
        refine hK _ ?_; clear hK K
        (refine awp_reg_end [0, 1, 5, 6] fun K hK => ?_; (repeat' (first | ((first | refine al_r rfl fun K' hK' => ?_ | refine al_d rfl fun K' hK' => ?_ | refine al_t rfl rfl fun K' hK' => ?_); (repeat (first | (simp only [go_sem, simprocAttr, hcv1, hcu, hnn, hni, hj2, hi2, hi3, hj3, List.getElem?_map, Int.toNat_natCast, Option.map_some, List.length_map, List.length_set, Letter.row, hcl]) | refine AS.mk ?_ | refine AAp.grow ?_)); (first | ((first | refine hK' _ _ ?_ | refine ⟨?_, hK' _ _ ?_⟩ | refine ⟨?_, ?_, hK' _ _ ?_⟩ | refine ⟨?_, ?_, ?_, hK' _ _ ?_⟩) <;> clear hK' K' <;> (first | (show alist _ _ _ _ _ _; skip) | (intro s hs; cases hs; done) | assumption | (simp; done) | omega | (simp; omega) | skip)))) | refine al_e rfl rfl ?_ | refine al_u rfl rfl ?_ | ((fail_if_success (refine al_t rfl rfl fun K' hK' => ?_)); refine al_s _ rfl rfl rfl (fun hb => ?_) (fun hb => ?_)))); all_goals (refine al_nil ?_; (simp only [go_sem, simprocAttr, hcv1, hcu, hnn, hni, hj2, hi2, hi3, hj3, List.getElem?_map, Int.toNat_natCast, Option.map_some, List.length_map, List.length_set, Letter.row, hcl]); refine hK _ ?_; clear hK K))
        (first
          | (rw [hnx, hjx]; refine ⟨_, ?_, i + 1, j + 1, cur.set i v, by omega, by omega, rfl, by simpa using hcl, d1, d2, ?_⟩; (· omega); (· first | (rw [List.map_set]; done) | (rw [List.map_set]; rfl)))
          | (rw [hjx]; refine ⟨_, ?_, i, j + 1, cur, by omega, by omega, rfl, hcl, d1, d2, rfl⟩; omega))
      · have hpv : p v = true := by simpa using hc
        obtain ⟨d1, d2⟩ := del_drop hc1 hc2 hv hpv
        have hjx : IntKind.i64.wrap ((j : Int) + 1) = ((j + 1 : Nat) : Int) := wrap_next hj2 hlen
        refine awp_skip ?_
        refine hK _ ?_; clear hK K
        (refine awp_reg_end [0, 1, 5, 6] fun K hK => ?_; (repeat' (first | ((first | refine al_r rfl fun K' hK' => ?_ | refine al_d rfl fun K' hK' => ?_ | refine al_t rfl rfl fun K' hK' => ?_); (repeat (first | (simp only [go_sem, simprocAttr, hcv1, hcu, hnn, hni, hj2, hi2, hi3, hj3, List.getElem?_map, Int.toNat_natCast, Option.map_some, List.length_map, List.length_set, Letter.row, hcl]) | refine AS.mk ?_ | refine AAp.grow ?_)); (first | ((first | refine hK' _ _ ?_ | refine ⟨?_, hK' _ _ ?_⟩ | refine ⟨?_, ?_, hK' _ _ ?_⟩ | refine ⟨?_, ?_, ?_, hK' _ _ ?_⟩) <;> clear hK' K' <;> (first | (show alist _ _ _ _ _ _; skip) | (intro s hs; cases hs; done) | assumption | (simp; done) | omega | (simp; omega) | skip)))) | refine al_e rfl rfl ?_ | refine al_u rfl rfl ?_ | ((fail_if_success (refine al_t rfl rfl fun K' hK' => ?_)); refine al_s _ rfl rfl rfl (fun hb => ?_) (fun hb => ?_)))); all_goals (refine al_nil ?_; (simp only [go_sem, simprocAttr, hcv1, hcu, hnn, hni, hj2, hi2, hi3, hj3, List.getElem?_map, Int.toNat_natCast, Option.map_some, List.length_map, List.length_set, Letter.row, hcl]); refine hK _ ?_; clear hK K))
        (first
          | (rw [hnx, hjx]; refine ⟨_, ?_, i + 1, j + 1, cur.set i v, by omega, by omega, rfl, by simpa using hcl, d1, d2, ?_⟩; (· omega); (· first | (rw [List.map_set]; done) | (rw [List.map_set]; rfl)))
          | (rw [hjx]; refine ⟨_, ?_, i, j + 1, cur, by omega, by omega, rfl, hcl, d1, d2, rfl⟩; omega))
    · refine awp_exit ?_
      have hj2 : j = ls.length := by simp at hc; omega
      subst hj2
      rw [List.take_length] at hc1
      have hil : i = (left p ls).length := by rw [← hc1, List.length_take]; omega
      subst hil
      have hni : (0 : Int) ≤ ((left p ls).length : Int) := Int.natCast_nonneg _
      have hi2 : (left p ls).length ≤ ls.length := by omega
      have hi3 : ((left p ls).length : Int) ≤ (ls.length : Int) := by omega
      have hi4 : (left p ls).length + (ls.length - (left p ls).length) ≤ ls.length := by omega
      have hov : over (cur.map Letter.row) (left p ls).length (List.replicate (ls.length - (left p ls).length) zrow) = (left p ls).map Letter.row ++ List.replicate (ls.length - (left p ls).length) zrow := by
        unfold over
        rw [← List.map_take, hc1, List.drop_eq_nil_of_le (by simp [hcl]; omega), List.append_nil]

      clear hK
      refine hK _ ?_; clear hK K
      (refine awp_reg_seq [0, 5] fun K hK => ?_; (repeat' (first | ((first | refine al_r rfl fun K' hK' => ?_ | refine al_d rfl fun K' hK' => ?_ | refine al_t rfl rfl fun K' hK' => ?_); (repeat (first | (simp only [go_sem, simprocAttr, List.length_map, hov, List.length_append, List.length_replicate, Nat.le_add_right, hni, hi2, hi3, hi4, hcl, Int.toNat_natCast, Nat.sub_zero, Nat.zero_add, Nat.le_refl]) | refine AS.mk ?_ | refine AAp.grow ?_)); (first | ((first | refine hK' _ _ ?_ | refine ⟨?_, hK' _ _ ?_⟩ | refine ⟨?_, ?_, hK' _ _ ?_⟩ | refine ⟨?_, ?_, ?_, hK' _ _ ?_⟩) <;> clear hK' K' <;> (first | (show alist _ _ _ _ _ _; skip) | (intro s hs; cases hs; done) | assumption | (simp; done) | omega | (simp; omega) | skip)))) | refine al_e rfl rfl ?_ | refine al_u rfl rfl ?_ | ((fail_if_success (refine al_t rfl rfl fun K' hK' => ?_)); refine al_s _ rfl rfl rfl (fun hb => ?_) (fun hb => ?_)))); all_goals (refine al_nil ?_; (simp only [go_sem, simprocAttr, List.length_map, hov, List.length_append, List.length_replicate, Nat.le_add_right, hni, hi2, hi3, hi4, hcl, Int.toNat_natCast, Nat.sub_zero, Nat.zero_add, Nat.le_refl]); refine hK _ ?_; clear hK K))
      (refine awp_reg_seq [4] fun K hK => ?_; (repeat' (first | ((first | refine al_r rfl fun K' hK' => ?_ | refine al_d rfl fun K' hK' => ?_ | refine al_t rfl rfl fun K' hK' => ?_); (repeat (first | (simp only [go_sem, simprocAttr, List.length_map, hov, List.length_append, List.length_replicate, Nat.le_add_right, hni, hi2, hi3, hi4, hcl, Int.toNat_natCast, Nat.sub_zero, Nat.zero_add, Nat.le_refl]) | refine AS.mk ?_ | refine AAp.grow ?_)); (first | ((first | refine hK' _ _ ?_ | refine ⟨?_, hK' _ _ ?_⟩ | refine ⟨?_, ?_, hK' _ _ ?_⟩ | refine ⟨?_, ?_, ?_, hK' _ _ ?_⟩) <;> clear hK' K' <;> (first | (show alist _ _ _ _ _ _; skip) | (intro s hs; cases hs; done) | assumption | (simp; done) | omega | (simp; omega) | skip)))) | refine al_e rfl rfl ?_ | refine al_u rfl rfl ?_ | ((fail_if_success (refine al_t rfl rfl fun K' hK' => ?_)); refine al_s _ rfl rfl rfl (fun hb => ?_) (fun hb => ?_)))); all_goals (refine al_nil ?_; (simp only [go_sem, simprocAttr, List.length_map, hov, List.length_append, List.length_replicate, Nat.le_add_right, hni, hi2, hi3, hi4, hcl, Int.toNat_natCast, Nat.sub_zero, Nat.zero_add, Nat.le_refl]); refine hK _ ?_; clear hK K))
      refine awp_ret (hR _ _ [0] (.inl rfl) rfl (by decide) (by simp only [List.length_cons, List.length_nil]; decide) ?_)
      refine ⟨?_, ?_⟩ <;> simp only [go_sem, simprocAttr, List.length_map, hov, List.length_append, List.length_replicate, Nat.le_add_right, hni, hi2, hi3, hi4, hcl, Int.toNat_natCast, Nat.sub_zero, Nat.zero_add, Nat.le_refl]



theorem checkS_small {ls : List Letter} {pos : Int} (h : checkS ls pos = 0) : ls.length ≤ 60 := by
  unfold checkS at h
  by_cases h1 : (ls.length : Int) > 60
  · simp [h1] at h
  · omega


theorem fromBad (ls : List Letter) (pos who e : Int) (hlen : ls.length ≤ maxLen) (he : checkS ls pos = e) (hne : (e != 0) = true) : ACallP Try.prog 23 [boxD ls pos, iD who] (.tup [letters [], iD e]) := by
  have hck := check ls pos hlen
  rw [he] at hck
  refine acallp_fn [4, 5] Try.func23 rfl rfl Try.ntmps23 (by simp) fun R hR => ?_
  (refine awp_reg_seq [2, 3] fun K hK => ?_; (repeat' (first | ((first | refine al_r rfl fun K' hK' => ?_ | refine al_d rfl fun K' hK' => ?_ | refine al_t rfl rfl fun K' hK' => ?_); (repeat (first | (simp only [go_sem, simprocAttr, List.length_map]) | refine AS.mk ?_ | refine AAp.grow ?_)); (first | ((first | refine hK' _ _ ?_ | refine ⟨?_, hK' _ _ ?_⟩ | refine ⟨?_, ?_, hK' _ _ ?_⟩ | refine ⟨?_, ?_, ?_, hK' _ _ ?_⟩) <;> clear hK' K' <;> (first | (show alist _ _ _ _ _ _; skip) | (intro s hs; cases hs; done) | assumption | (simp; done) | omega | (simp; omega) | skip)))) | refine al_e rfl rfl ?_ | refine al_u rfl rfl ?_ | ((fail_if_success (refine al_t rfl rfl fun K' hK' => ?_)); refine al_s _ rfl rfl rfl (fun hb => ?_) (fun hb => ?_)))); all_goals (refine al_nil ?_; (simp only [go_sem, simprocAttr, List.length_map]); refine hK _ ?_; clear hK K))
  (refine awp_frz [2, 3] [] (by decide) (by simp) ?_; simp only [go_sem, simprocAttr, List.length_map])
  refine awp_seq_k fun K hK => ?_
  (refine awp_reg_seq [2, 3, 6] fun K hK => ?_; (repeat' (first | ((first | refine al_r rfl fun K' hK' => ?_ | refine al_d rfl fun K' hK' => ?_ | refine al_t rfl rfl fun K' hK' => ?_); (repeat (first | (simp only [go_sem, simprocAttr, List.length_map]) | refine AS.mk ?_ | refine AAp.grow ?_)); (first | ((first | refine hK' _ _ ?_ | refine ⟨?_, hK' _ _ ?_⟩ | refine ⟨?_, ?_, hK' _ _ ?_⟩ | refine ⟨?_, ?_, ?_, hK' _ _ ?_⟩) <;> clear hK' K' <;> (first | (show alist _ _ _ _ _ _; skip) | (intro s hs; cases hs; done) | assumption | (simp; done) | omega | (simp; omega) | skip)) | ((show AC _ _ (D.fn 21 _) _ _); refine acall_p (f := 21) (e := rfl) (hr := rfl) (k := hK' _ _ ?_) (hc := Try.call21) (h := hck); clear hK' K'))) | refine al_e rfl rfl ?_ | refine al_u rfl rfl ?_ | ((fail_if_success (refine al_t rfl rfl fun K' hK' => ?_)); refine al_s _ rfl rfl rfl (fun hb => ?_) (fun hb => ?_)))); all_goals (refine al_nil ?_; (simp only [go_sem, simprocAttr, List.length_map]); refine hK _ ?_; clear hK K))
  (refine awp_reg_seq [2, 3, 6, 10] fun K hK => ?_; (repeat' (first | ((first | refine al_r rfl fun K' hK' => ?_ | refine al_d rfl fun K' hK' => ?_ | refine al_t rfl rfl fun K' hK' => ?_); (repeat (first | (simp only [go_sem, simprocAttr, List.length_map]) | refine AS.mk ?_ | refine AAp.grow ?_)); (first | ((first | refine hK' _ _ ?_ | refine ⟨?_, hK' _ _ ?_⟩ | refine ⟨?_, ?_, hK' _ _ ?_⟩ | refine ⟨?_, ?_, ?_, hK' _ _ ?_⟩) <;> clear hK' K' <;> (first | (show alist _ _ _ _ _ _; skip) | (intro s hs; cases hs; done) | assumption | (simp; done) | omega | (simp; omega) | skip)))) | refine al_e rfl rfl ?_ | refine al_u rfl rfl ?_ | ((fail_if_success (refine al_t rfl rfl fun K' hK' => ?_)); refine al_s _ rfl rfl rfl (fun hb => ?_) (fun hb => ?_)))); all_goals (refine al_nil ?_; (simp only [go_sem, simprocAttr, List.length_map]); refine hK _ ?_; clear hK K))
  refine awp_if (_) rfl (fun hc => ?_) (fun hc => ?_)
  · (refine awp_reg_seq [4, 5] fun K hK => ?_; (repeat' (first | ((first | refine al_r rfl fun K' hK' => ?_ | refine al_d rfl fun K' hK' => ?_ | refine al_t rfl rfl fun K' hK' => ?_); (repeat (first | (simp only [go_sem, simprocAttr, List.length_map]) | refine AS.mk ?_ | refine AAp.grow ?_)); (first | ((first | refine hK' _ _ ?_ | refine ⟨?_, hK' _ _ ?_⟩ | refine ⟨?_, ?_, hK' _ _ ?_⟩ | refine ⟨?_, ?_, ?_, hK' _ _ ?_⟩) <;> clear hK' K' <;> (first | (show alist _ _ _ _ _ _; skip) | (intro s hs; cases hs; done) | assumption | (simp; done) | omega | (simp; omega) | skip)))) | refine al_e rfl rfl ?_ | refine al_u rfl rfl ?_ | ((fail_if_success (refine al_t rfl rfl fun K' hK' => ?_)); refine al_s _ rfl rfl rfl (fun hb => ?_) (fun hb => ?_)))); all_goals (refine al_nil ?_; (simp only [go_sem, simprocAttr, List.length_map]); refine hK _ ?_; clear hK K))
    refine awp_ret ?_; (first | refine hR _ _ (.inl rfl) rfl ?_ | refine hR _ _ (.inl rfl) rfl ?_ ?_)
    simp only [go_sem, simprocAttr, List.length_map, List.map_nil]
    rfl
  · rw [hne] at hc; cases hc


theorem fromOk (ls : List Letter) (pos who : Int) (h : checkS ls pos = 0) : ACalls Try.prog 23 [boxD ls pos, iD who] [] (fun r obs' => r = .tup [.ref 0 0 (left (other who) ls).length, iD 0] ∧ obs' = [.row 9 ((left (other who) ls).map Letter.row ++ List.replicate (ls.length - (left (other who) ls).length) zrow)]) := by
  have h60 := checkS_small h
  have hlen : ls.length ≤ maxLen := by simp [maxLen]; omega
  have hck := check ls pos hlen
  rw [h] at hck
  have hcl := cloneL (ls.map Letter.row) (lrow9 ls) (by simp; omega)
  rw [List.length_map] at hcl
  have hdel := delL ls hlen (other who) who (findL ls hlen who) (fun n _ => notWho n who)
  refine acallm_fn [4, 5] Try.func23 rfl rfl Try.ntmps23 (by simp) (by simp) fun R hR => ?_
  (refine awp_reg_seq [2, 3] fun K hK => ?_; (repeat' (first | ((first | refine al_r rfl fun K' hK' => ?_ | refine al_d rfl fun K' hK' => ?_ | refine al_t rfl rfl fun K' hK' => ?_); (repeat (first | (simp only [go_sem, simprocAttr, List.length_map, bne_self_eq_false]) | refine AS.mk ?_ | refine AAp.grow ?_)); (first | ((first | refine hK' _ _ ?_ | refine ⟨?_, hK' _ _ ?_⟩ | refine ⟨?_, ?_, hK' _ _ ?_⟩ | refine ⟨?_, ?_, ?_, hK' _ _ ?_⟩) <;> clear hK' K' <;> (first | (show alist _ _ _ _ _ _; skip) | (intro s hs; cases hs; done) | assumption | (simp; done) | omega | (simp; omega) | skip)))) | refine al_e rfl rfl ?_ | refine al_u rfl rfl ?_ | ((fail_if_success (refine al_t rfl rfl fun K' hK' => ?_)); refine al_s _ rfl rfl rfl (fun hb => ?_) (fun hb => ?_)))); all_goals (refine al_nil ?_; (simp only [go_sem, simprocAttr, List.length_map, bne_self_eq_false]); refine hK _ ?_; clear hK K))
  (refine awp_frz [2, 3] [] (by decide) (by simp) ?_; simp only [go_sem, simprocAttr, List.length_map, bne_self_eq_false])
  refine awp_seq_k fun K hK => ?_
  (refine awp_reg_seq [2, 3, 6] fun K hK => ?_; (repeat' (first | ((first | refine al_r rfl fun K' hK' => ?_ | refine al_d rfl fun K' hK' => ?_ | refine al_t rfl rfl fun K' hK' => ?_); (repeat (first | (simp only [go_sem, simprocAttr, List.length_map, bne_self_eq_false]) | refine AS.mk ?_ | refine AAp.grow ?_)); (first | ((first | refine hK' _ _ ?_ | refine ⟨?_, hK' _ _ ?_⟩ | refine ⟨?_, ?_, hK' _ _ ?_⟩ | refine ⟨?_, ?_, ?_, hK' _ _ ?_⟩) <;> clear hK' K' <;> (first | (show alist _ _ _ _ _ _; skip) | (intro s hs; cases hs; done) | assumption | (simp; done) | omega | (simp; omega) | skip)) | ((show AC _ _ (D.fn 21 _) _ _); refine acall_p (f := 21) (e := rfl) (hr := rfl) (k := hK' _ _ ?_) (hc := Try.call21) (h := hck); clear hK' K') | ((show AC _ _ (D.fn 21 _) _ _); refine acall_p (f := 21) (e := rfl) (hr := rfl) (k := hK' _ _ ?_) (hc := Try.call21) (h := hck); clear hK' K'))) | refine al_e rfl rfl ?_ | refine al_u rfl rfl ?_ | ((fail_if_success (refine al_t rfl rfl fun K' hK' => ?_)); refine al_s _ rfl rfl rfl (fun hb => ?_) (fun hb => ?_)))); all_goals (refine al_nil ?_; (simp only [go_sem, simprocAttr, List.length_map, bne_self_eq_false]); refine hK _ ?_; clear hK K))
  (refine awp_reg_seq [2, 3, 6, 10] fun K hK => ?_; (repeat' (first | ((first | refine al_r rfl fun K' hK' => ?_ | refine al_d rfl fun K' hK' => ?_ | refine al_t rfl rfl fun K' hK' => ?_); (repeat (first | (simp only [go_sem, simprocAttr, List.length_map, bne_self_eq_false]) | refine AS.mk ?_ | refine AAp.grow ?_)); (first | ((first | refine hK' _ _ ?_ | refine ⟨?_, hK' _ _ ?_⟩ | refine ⟨?_, ?_, hK' _ _ ?_⟩ | refine ⟨?_, ?_, ?_, hK' _ _ ?_⟩) <;> clear hK' K' <;> (first | (show alist _ _ _ _ _ _; skip) | (intro s hs; cases hs; done) | assumption | (simp; done) | omega | (simp; omega) | skip)))) | refine al_e rfl rfl ?_ | refine al_u rfl rfl ?_ | ((fail_if_success (refine al_t rfl rfl fun K' hK' => ?_)); refine al_s _ rfl rfl rfl (fun hb => ?_) (fun hb => ?_)))); all_goals (refine al_nil ?_; (simp only [go_sem, simprocAttr, List.length_map, bne_self_eq_false]); refine hK _ ?_; clear hK K))
  refine awp_if (_) rfl (fun hc => ?_) (fun hc => ?_)
  · cases hc
  · refine awp_skip ?_
    refine hK _ ?_; clear hK K
    (refine awp_reg_seq [4, 5] fun K hK => ?_; (repeat' (first | ((first | refine al_r rfl fun K' hK' => ?_ | refine al_d rfl fun K' hK' => ?_ | refine al_t rfl rfl fun K' hK' => ?_); (repeat (first | (simp only [go_sem, simprocAttr, List.length_map, bne_self_eq_false]) | refine AS.mk ?_ | refine AAp.grow ?_)); (first | ((first | refine hK' _ _ ?_ | refine ⟨?_, hK' _ _ ?_⟩ | refine ⟨?_, ?_, hK' _ _ ?_⟩ | refine ⟨?_, ?_, ?_, hK' _ _ ?_⟩) <;> clear hK' K' <;> (first | (show alist _ _ _ _ _ _; skip) | (intro s hs; cases hs; done) | assumption | (simp; done) | omega | (simp; omega) | skip)) | ((show AC _ _ (D.fn 49 _) _ _); refine acall_new (f := 49) Try.call49 hcl rfl ?_; rintro r obs' ⟨rfl, rfl⟩; (simp only [go_sem, simprocAttr, List.length_map, bne_self_eq_false]); refine hK' _ _ ?_; clear hK' K') | ((show AC _ _ (D.fn 50 _) _ _); refine acall_m (f := 50) [0] Try.call50 hdel rfl rfl (by decide) (by simp) ?_; rintro r obs' ⟨rfl, rfl⟩; refine ⟨by simp, ?_⟩; (simp only [go_sem, simprocAttr, List.length_map, bne_self_eq_false]); refine hK' _ _ ?_; clear hK' K'))) | refine al_e rfl rfl ?_ | refine al_u rfl rfl ?_ | ((fail_if_success (refine al_t rfl rfl fun K' hK' => ?_)); refine al_s _ rfl rfl rfl (fun hb => ?_) (fun hb => ?_)))); all_goals (refine al_nil ?_; (simp only [go_sem, simprocAttr, List.length_map, bne_self_eq_false]); refine hK _ ?_; clear hK K))
    refine awp_ret (hR _ _ [0] (.inl rfl) rfl (by decide) (by simp only [List.length_cons, List.length_nil]; decide) ?_)
    all_goals (refine ⟨?_, ?_⟩ <;> simp only [go_sem, simprocAttr, List.length_map, bne_self_eq_false])
end Go.Proofs.Ytofbhmcmejhepaa.P
