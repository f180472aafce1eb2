/- What the search for a bad error answers: contracts. -/
import Derived.Test.YtofbhmcmejhepaaQ1
namespace Go.Proofs.Ytofbhmcmejhepaa.P
open Go.Ab Go.Proofs.Ytofbhmcmejhepaa.T
set_option linter.unusedSimpArgs false
set_option linter.unusedVariables false

abbrev errs (ns : List Int) : D := .p (.sl (ns.map fun n => [.lit (.int .i64 n)]))

/-- The place of the first. -/
def firstI {α : Type} (p : α → Bool) (l : List α) : Int := match l.findIdx? p with | some i => i | none => -1

theorem firstI_at {α : Type} {p : α → Bool} {l : List α} {i : Nat} {x : α} (h : ∀ j, j < i → ∀ y, l[j]? = some y → p y = false) (hx : l[i]? = some x) (hp : p x = true) : firstI p l = i := by
  unfold firstI
  have : l.findIdx? p = some i := by
    rw [List.findIdx?_eq_some_iff_getElem]
    have hlt : i < l.length := by
      rcases Nat.lt_or_ge i l.length with h' | h'
      · exact h'
      · simp [List.getElem?_eq_none h'] at hx
    refine ⟨hlt, ?_, fun j hj => ?_⟩
    · rw [List.getElem?_eq_getElem hlt] at hx; cases hx; exact hp
    · have := h j hj l[j] (List.getElem?_eq_getElem (by omega))
      simp [this]
  rw [this]

theorem firstI_none {α : Type} {p : α → Bool} {l : List α} (h : ∀ (j : Nat) (y : α), l[j]? = some y → p y = false) : firstI p l = -1 := by
  unfold firstI
  have : l.findIdx? p = none := by
    rw [List.findIdx?_eq_none_iff]
    intro x hx
    obtain ⟨j, hj⟩ := List.getElem?_of_mem hx
    exact h j x hj
  rw [this]

theorem firstI_nonneg {α : Type} {p : α → Bool} {l : List α} : decide (firstI p l ≥ 0) = l.any p := by
  unfold firstI
  cases h : l.findIdx? p with
  | none => simp only []; rw [List.findIdx?_eq_none_iff] at h; simp; exact fun x hx => h x hx
  | some i =>
    have : ∃ x, x ∈ l ∧ p x = true := by
      rw [List.findIdx?_eq_some_iff_getElem] at h
      obtain ⟨hl, h1, _⟩ := h
      exact ⟨_, List.getElem_mem hl, h1⟩
    simp; exact this


theorem indexErr (ns : List Int) (hlen : ns.length < 4611686018427387904) (f : FuncId) (caps : List D) (p : Int → Bool) (obs : List Ob) (ids : List Nat) (hub : ∀ o, o ∈ obs → o ≠ .unborn) (hd : ids.Nodup) (hp : ∀ k, k < obs.length → ids[k]? = some k)
    (hcap : caps.map (D.map (ren1 ids)) = caps) (hob : newObs obs ids = obs) (hm : merge obs ids obs = obs) (hlt : ∀ i, i ∈ ids → i < obs.length) (hl : ids.length ≤ obs.length)
    (hcf : ∀ args w, (callFunc f args).run Try.prog w = .ok (.enter f args) w) (h : ∀ n, n ∈ ns → ACallO Try.prog f (iD n :: caps) obs (bD (p n))) :
    ACallO Try.prog 63 [errs ns, .fn f caps] obs (iD (firstI p ns)) := by
  refine acallo_fn [4] ids Try.func63 rfl rfl Try.ntmps63 (by simp) hub hd hp fun R hR => ?_
  (refine awp_reg_seq [0, 1] fun K hK => ?_; (repeat' (first | ((first | refine al_r rfl fun K' hK' => ?_ | refine al_d rfl fun K' hK' => ?_ | refine al_t rfl rfl fun K' hK' => ?_); (repeat (first | (simp only [go_sem, simprocAttr, List.length_map]) | refine AS.mk ?_ | refine AAp.grow ?_)); (first | ((first | refine hK' _ _ ?_ | refine ⟨?_, hK' _ _ ?_⟩ | refine ⟨?_, ?_, hK' _ _ ?_⟩ | refine ⟨?_, ?_, ?_, hK' _ _ ?_⟩) <;> clear hK' K' <;> (first | (show alist _ _ _ _ _ _; skip) | (intro s hs; cases hs; done) | assumption | (simp; done) | omega | (simp; omega) | skip)) | ((show AC _ _ (D.fn 12 _) _ _); refine acall_p (f := 12) (e := rfl) (hr := rfl) (k := hK' _ _ ?_) (hc := Try.call12) (h := word _ _); clear hK' K'))) | refine al_e rfl rfl ?_ | refine al_u rfl rfl ?_ | ((fail_if_success (refine al_t rfl rfl fun K' hK' => ?_)); refine al_s _ rfl rfl rfl (fun hb => ?_) (fun hb => ?_)))); all_goals (refine al_nil ?_; (simp only [go_sem, simprocAttr, List.length_map]); refine hK _ ?_; clear hK K))
  refine awp_seq_k fun K hK => ?_
  (refine awp_reg_seq [0, 1, 7, 8] fun K hK => ?_; (repeat' (first | ((first | refine al_r rfl fun K' hK' => ?_ | refine al_d rfl fun K' hK' => ?_ | refine al_t rfl rfl fun K' hK' => ?_); (repeat (first | (simp only [go_sem, simprocAttr, List.length_map]) | refine AS.mk ?_ | refine AAp.grow ?_)); (first | ((first | refine hK' _ _ ?_ | refine ⟨?_, hK' _ _ ?_⟩ | refine ⟨?_, ?_, hK' _ _ ?_⟩ | refine ⟨?_, ?_, ?_, hK' _ _ ?_⟩) <;> clear hK' K' <;> (first | (show alist _ _ _ _ _ _; skip) | (intro s hs; cases hs; done) | assumption | (simp; done) | omega | (simp; omega) | skip)) | ((show AC _ _ (D.fn 12 _) _ _); refine acall_p (f := 12) (e := rfl) (hr := rfl) (k := hK' _ _ ?_) (hc := Try.call12) (h := word _ _); clear hK' K'))) | refine al_e rfl rfl ?_ | refine al_u rfl rfl ?_ | ((fail_if_success (refine al_t rfl rfl fun K' hK' => ?_)); refine al_s _ rfl rfl rfl (fun hb => ?_) (fun hb => ?_)))); all_goals (refine al_nil ?_; (simp only [go_sem, simprocAttr, List.length_map]); refine hK _ ?_; clear hK K))
  refine awp_block ?_
  refine awp_loop (fun m s => ∃ i : Nat, i ≤ ns.length ∧ m = ns.length - i ∧ (∀ j, j < i → ∀ y, ns[j]? = some y → p y = false) ∧ s = ⟨ofL [(0, errs ns), (1, .fn f caps), (7, iD ns.length), (8, iD i)], obs, obs.length⟩) ⟨_, 0, Nat.zero_le _, rfl, fun j hj => absurd hj (by omega), rfl⟩ ?_
  rintro m s ⟨i, hi, rfl, hbefore, rfl⟩
  (refine awp_reg_seq [0, 1, 7, 8, 9] fun K hK => ?_; (repeat' (first | ((first | refine al_r rfl fun K' hK' => ?_ | refine al_d rfl fun K' hK' => ?_ | refine al_t rfl rfl fun K' hK' => ?_); (repeat (first | (simp only [go_sem, simprocAttr, List.length_map]) | refine AS.mk ?_ | refine AAp.grow ?_)); (first | ((first | refine hK' _ _ ?_ | refine ⟨?_, hK' _ _ ?_⟩ | refine ⟨?_, ?_, hK' _ _ ?_⟩ | refine ⟨?_, ?_, ?_, hK' _ _ ?_⟩) <;> clear hK' K' <;> (first | (show alist _ _ _ _ _ _; skip) | (intro s hs; cases hs; done) | assumption | (simp; done) | omega | (simp; omega) | skip)) | ((show AC _ _ (D.fn 12 _) _ _); refine acall_p (f := 12) (e := rfl) (hr := rfl) (k := hK' _ _ ?_) (hc := Try.call12) (h := word _ _); clear hK' K'))) | refine al_e rfl rfl ?_ | refine al_u rfl rfl ?_ | ((fail_if_success (refine al_t rfl rfl fun K' hK' => ?_)); refine al_s _ rfl rfl rfl (fun hb => ?_) (fun hb => ?_)))); all_goals (refine al_nil ?_; (simp only [go_sem, simprocAttr, List.length_map]); refine hK _ ?_; clear hK K))
  refine awp_seq_k fun K hK => ?_
  refine awp_if (decide ((i : Int) < ns.length)) rfl (fun hc => ?_) (fun hc => ?_)
  · refine awp_skip ?_
    refine hK _ ?_; clear hK K
    have hi2 : i < ns.length := by simpa using hc
    obtain ⟨n, hget⟩ : ∃ n, ns[i]? = some n := ⟨_, List.getElem?_eq_getElem hi2⟩
    have hnn : (0 : Int) ≤ (i : Int) := Int.natCast_nonneg i

    refine awp_seq_k fun K hK => ?_
    refine awp_block ?_
    (refine awp_reg_seq [0, 1, 5, 7, 8] fun K hK => ?_; (repeat' (first | ((first | refine al_r rfl fun K' hK' => ?_ | refine al_d rfl fun K' hK' => ?_ | refine al_t rfl rfl fun K' hK' => ?_); (repeat (first | (simp only [go_sem, simprocAttr, hget, hnn, List.getElem?_map, Int.toNat_natCast, Option.map_some]) | refine AS.mk ?_ | refine AAp.grow ?_)); (first | ((first | refine hK' _ _ ?_ | refine ⟨?_, hK' _ _ ?_⟩ | refine ⟨?_, ?_, hK' _ _ ?_⟩ | refine ⟨?_, ?_, ?_, hK' _ _ ?_⟩) <;> clear hK' K' <;> (first | (show alist _ _ _ _ _ _; skip) | (intro s hs; cases hs; done) | assumption | (simp; done) | omega | (simp; omega) | skip)) | ((show AC _ _ (D.fn 12 _) _ _); refine acall_p (f := 12) (e := rfl) (hr := rfl) (k := hK' _ _ ?_) (hc := Try.call12) (h := word _ _); clear hK' K'))) | refine al_e rfl rfl ?_ | refine al_u rfl rfl ?_ | ((fail_if_success (refine al_t rfl rfl fun K' hK' => ?_)); refine al_s _ rfl rfl rfl (fun hb => ?_) (fun hb => ?_)))); all_goals (refine al_nil ?_; (simp only [go_sem, simprocAttr, hget, hnn, List.getElem?_map, Int.toNat_natCast, Option.map_some]); refine hK _ ?_; clear hK K))
    refine awp_reg_seq [0, 1, 5, 7, 8, 16] fun K hK => ?_
    repeat' (first | ((first | refine al_r rfl fun K' hK' => ?_ | refine al_d rfl fun K' hK' => ?_ | refine al_t rfl rfl fun K' hK' => ?_); (repeat (first | (simp only [go_sem, simprocAttr, hget, hnn, List.getElem?_map, Int.toNat_natCast, Option.map_some]) | refine AS.mk ?_ | refine AAp.grow ?_)); (first | ((first | refine hK' _ _ ?_ | refine ⟨?_, hK' _ _ ?_⟩ | refine ⟨?_, ?_, hK' _ _ ?_⟩ | refine ⟨?_, ?_, ?_, hK' _ _ ?_⟩) <;> clear hK' K' <;> (first | (show alist _ _ _ _ _ _; skip) | (intro s hs; cases hs; done) | assumption | (simp; done) | omega | (simp; omega) | skip)) | ((show AC _ _ (D.fn 12 _) _ _); refine acall_p (f := 12) (e := rfl) (hr := rfl) (k := hK' _ _ ?_) (hc := Try.call12) (h := word _ _); clear hK' K'))) | refine al_e rfl rfl ?_ | refine al_u rfl rfl ?_ | ((fail_if_success (refine al_t rfl rfl fun K' hK' => ?_)); refine al_s _ rfl rfl rfl (fun hb => ?_) (fun hb => ?_)))
    · refine al_run rfl rfl (by decide) fun K' hK' => ?_
      simp only [go_sem, simprocAttr, hget, hnn, List.getElem?_map, Int.toNat_natCast, Option.map_some]
      refine acall_o ids hcf (h n (List.mem_of_getElem? hget)) (by simpa [D.map, ren1] using hcap) hob hm hd hlt hl rfl (hK' _ _ ?_)
      clear hK' K'
      (refine al_nil ?_; (simp only [go_sem, simprocAttr, hget, hnn, List.getElem?_map, Int.toNat_natCast, Option.map_some]); refine hK _ ?_; clear hK K)
      refine awp_if (p n) rfl (fun hc => ?_) (fun hc => ?_)
      · (refine awp_reg_seq [4] fun K hK => ?_; (repeat' (first | ((first | refine al_r rfl fun K' hK' => ?_ | refine al_d rfl fun K' hK' => ?_ | refine al_t rfl rfl fun K' hK' => ?_); (repeat (first | (simp only [go_sem, simprocAttr, hget, hnn, List.getElem?_map, Int.toNat_natCast, Option.map_some]) | refine AS.mk ?_ | refine AAp.grow ?_)); (first | ((first | refine hK' _ _ ?_ | refine ⟨?_, hK' _ _ ?_⟩ | refine ⟨?_, ?_, hK' _ _ ?_⟩ | refine ⟨?_, ?_, ?_, hK' _ _ ?_⟩) <;> clear hK' K' <;> (first | (show alist _ _ _ _ _ _; skip) | (intro s hs; cases hs; done) | assumption | (simp; done) | omega | (simp; omega) | skip)) | ((show AC _ _ (D.fn 12 _) _ _); refine acall_p (f := 12) (e := rfl) (hr := rfl) (k := hK' _ _ ?_) (hc := Try.call12) (h := word _ _); clear hK' K'))) | refine al_e rfl rfl ?_ | refine al_u rfl rfl ?_ | ((fail_if_success (refine al_t rfl rfl fun K' hK' => ?_)); refine al_s _ rfl rfl rfl (fun hb => ?_) (fun hb => ?_)))); all_goals (refine al_nil ?_; (simp only [go_sem, simprocAttr, hget, hnn, List.getElem?_map, Int.toNat_natCast, Option.map_some]); refine hK _ ?_; clear hK K))
        refine awp_ret ?_; (first | refine hR _ _ (.inl rfl) rfl ?_ | refine hR _ _ (.inl rfl) rfl ?_ ?_)
        · simp only [go_sem, simprocAttr, hget, hnn, List.getElem?_map, Int.toNat_natCast, Option.map_some]
          rw [firstI_at hbefore hget hc]
        · exact hob
      · have hpn := hc
        refine awp_skip ?_
        refine hK _ ?_; clear hK K
        (refine awp_reg_end [0, 1, 7, 8] fun K hK => ?_; (repeat' (first | ((first | refine al_r rfl fun K' hK' => ?_ | refine al_d rfl fun K' hK' => ?_ | refine al_t rfl rfl fun K' hK' => ?_); (repeat (first | (simp only [go_sem, simprocAttr, hget, hnn, List.getElem?_map, Int.toNat_natCast, Option.map_some]) | refine AS.mk ?_ | refine AAp.grow ?_)); (first | ((first | refine hK' _ _ ?_ | refine ⟨?_, hK' _ _ ?_⟩ | refine ⟨?_, ?_, hK' _ _ ?_⟩ | refine ⟨?_, ?_, ?_, hK' _ _ ?_⟩) <;> clear hK' K' <;> (first | (show alist _ _ _ _ _ _; skip) | (intro s hs; cases hs; done) | assumption | (simp; done) | omega | (simp; omega) | skip)) | ((show AC _ _ (D.fn 12 _) _ _); refine acall_p (f := 12) (e := rfl) (hr := rfl) (k := hK' _ _ ?_) (hc := Try.call12) (h := word _ _); clear hK' K'))) | refine al_e rfl rfl ?_ | refine al_u rfl rfl ?_ | ((fail_if_success (refine al_t rfl rfl fun K' hK' => ?_)); refine al_s _ rfl rfl rfl (fun hb => ?_) (fun hb => ?_)))); all_goals (refine al_nil ?_; (simp only [go_sem, simprocAttr, hget, hnn, List.getElem?_map, Int.toNat_natCast, Option.map_some]); refine hK _ ?_; clear hK K))
        refine ⟨_, ?_, i + 1, hi2, rfl, ?_, ?_⟩
        · omega
        · intro j hj y hy
          by_cases e : j = i
          · subst e; rw [hget] at hy; cases hy; exact hpn
          · exact hbefore j (by omega) y hy
        · have : IntKind.i64.wrap ((i : Int) + 1) = ((i + 1 : Nat) : Int) := by
            simp [IntKind.wrap, IntKind.bits, IntKind.signed]; omega
          rw [this]

  · refine awp_exit ?_
    clear hK
    refine hK _ ?_; clear hK K
    have hi2 : i = ns.length := by simp at hc; omega
    (refine awp_reg_seq [4] fun K hK => ?_; (repeat' (first | ((first | refine al_r rfl fun K' hK' => ?_ | refine al_d rfl fun K' hK' => ?_ | refine al_t rfl rfl fun K' hK' => ?_); (repeat (first | (simp only [go_sem, simprocAttr, List.length_map]) | refine AS.mk ?_ | refine AAp.grow ?_)); (first | ((first | refine hK' _ _ ?_ | refine ⟨?_, hK' _ _ ?_⟩ | refine ⟨?_, ?_, hK' _ _ ?_⟩ | refine ⟨?_, ?_, ?_, hK' _ _ ?_⟩) <;> clear hK' K' <;> (first | (show alist _ _ _ _ _ _; skip) | (intro s hs; cases hs; done) | assumption | (simp; done) | omega | (simp; omega) | skip)) | ((show AC _ _ (D.fn 12 _) _ _); refine acall_p (f := 12) (e := rfl) (hr := rfl) (k := hK' _ _ ?_) (hc := Try.call12) (h := word _ _); clear hK' K'))) | refine al_e rfl rfl ?_ | refine al_u rfl rfl ?_ | ((fail_if_success (refine al_t rfl rfl fun K' hK' => ?_)); refine al_s _ rfl rfl rfl (fun hb => ?_) (fun hb => ?_)))); all_goals (refine al_nil ?_; (simp only [go_sem, simprocAttr, List.length_map]); refine hK _ ?_; clear hK K))
    refine awp_ret ?_; (first | refine hR _ _ (.inl rfl) rfl ?_ | refine hR _ _ (.inl rfl) rfl ?_ ?_)
    · simp only [go_sem, simprocAttr, List.length_map]
      rw [firstI_none fun j y hy => hbefore j (by
        rcases Nat.lt_or_ge j ns.length with h' | h'
        · omega
        · simp [List.getElem?_eq_none h'] at hy) y hy]
    · exact hob


theorem good1 (n : Int) : ACallP Try.prog 47 [iD n] (bD (n != 0)) := by
  refine acallp_fn [2] Try.func47 rfl rfl Try.ntmps47 (by simp) fun R hR => ?_
  (refine awp_reg_seq [0] fun K hK => ?_; (repeat' (first | ((first | refine al_r rfl fun K' hK' => ?_ | refine al_d rfl fun K' hK' => ?_ | refine al_t rfl rfl fun K' hK' => ?_); (repeat (first | (simp only [go_sem, simprocAttr]) | refine AS.mk ?_ | refine AAp.grow ?_)); (first | ((first | refine hK' _ _ ?_ | refine ⟨?_, hK' _ _ ?_⟩ | refine ⟨?_, ?_, hK' _ _ ?_⟩ | refine ⟨?_, ?_, ?_, hK' _ _ ?_⟩) <;> clear hK' K' <;> (first | (show alist _ _ _ _ _ _; skip) | (intro s hs; cases hs; done) | assumption | (simp; done) | omega | (simp; omega) | skip)) | ((show AC _ _ (D.fn 12 _) _ _); refine acall_p (f := 12) (e := rfl) (hr := rfl) (k := hK' _ _ ?_) (hc := Try.call12) (h := word _ _); clear hK' K'))) | refine al_e rfl rfl ?_ | refine al_u rfl rfl ?_ | ((fail_if_success (refine al_t rfl rfl fun K' hK' => ?_)); refine al_s _ rfl rfl rfl (fun hb => ?_) (fun hb => ?_)))); all_goals (refine al_nil ?_; (simp only [go_sem, simprocAttr]); refine hK _ ?_; clear hK K))
  (refine awp_reg_seq [2] fun K hK => ?_; (repeat' (first | ((first | refine al_r rfl fun K' hK' => ?_ | refine al_d rfl fun K' hK' => ?_ | refine al_t rfl rfl fun K' hK' => ?_); (repeat (first | (simp only [go_sem, simprocAttr]) | refine AS.mk ?_ | refine AAp.grow ?_)); (first | ((first | refine hK' _ _ ?_ | refine ⟨?_, hK' _ _ ?_⟩ | refine ⟨?_, ?_, hK' _ _ ?_⟩ | refine ⟨?_, ?_, ?_, hK' _ _ ?_⟩) <;> clear hK' K' <;> (first | (show alist _ _ _ _ _ _; skip) | (intro s hs; cases hs; done) | assumption | (simp; done) | omega | (simp; omega) | skip)) | ((show AC _ _ (D.fn 12 _) _ _); refine acall_p (f := 12) (e := rfl) (hr := rfl) (k := hK' _ _ ?_) (hc := Try.call12) (h := word _ _); clear hK' K'))) | refine al_e rfl rfl ?_ | refine al_u rfl rfl ?_ | ((fail_if_success (refine al_t rfl rfl fun K' hK' => ?_)); refine al_s _ rfl rfl rfl (fun hb => ?_) (fun hb => ?_)))); all_goals (refine al_nil ?_; (simp only [go_sem, simprocAttr]); refine hK _ ?_; clear hK K))
  refine awp_ret ?_; (first | refine hR _ _ (.inl rfl) rfl ?_ | refine hR _ _ (.inl rfl) rfl ?_ ?_)
  simp only [go_sem, simprocAttr]

theorem containsGood (ns : List Int) (hlen : ns.length < 4611686018427387904) : ACallP Try.prog 46 [errs ns, .fn 47 []] (bD (ns.any (· != 0))) := by
  refine acallp_fn [4] Try.func46 rfl rfl Try.ntmps46 (by simp) fun R hR => ?_
  (refine awp_reg_seq [0, 1] fun K hK => ?_; (repeat' (first | ((first | refine al_r rfl fun K' hK' => ?_ | refine al_d rfl fun K' hK' => ?_ | refine al_t rfl rfl fun K' hK' => ?_); (repeat (first | (simp only [go_sem, simprocAttr]) | refine AS.mk ?_ | refine AAp.grow ?_)); (first | ((first | refine hK' _ _ ?_ | refine ⟨?_, hK' _ _ ?_⟩ | refine ⟨?_, ?_, hK' _ _ ?_⟩ | refine ⟨?_, ?_, ?_, hK' _ _ ?_⟩) <;> clear hK' K' <;> (first | (show alist _ _ _ _ _ _; skip) | (intro s hs; cases hs; done) | assumption | (simp; done) | omega | (simp; omega) | skip)) | ((show AC _ _ (D.fn 12 _) _ _); refine acall_p (f := 12) (e := rfl) (hr := rfl) (k := hK' _ _ ?_) (hc := Try.call12) (h := word _ _); clear hK' K'))) | refine al_e rfl rfl ?_ | refine al_u rfl rfl ?_ | ((fail_if_success (refine al_t rfl rfl fun K' hK' => ?_)); refine al_s _ rfl rfl rfl (fun hb => ?_) (fun hb => ?_)))); all_goals (refine al_nil ?_; (simp only [go_sem, simprocAttr]); refine hK _ ?_; clear hK K))
  refine awp_reg_seq [4] fun K hK => ?_
  repeat' (first | ((first | refine al_r rfl fun K' hK' => ?_ | refine al_d rfl fun K' hK' => ?_ | refine al_t rfl rfl fun K' hK' => ?_); (repeat (first | (simp only [go_sem, simprocAttr]) | refine AS.mk ?_ | refine AAp.grow ?_)); (first | ((first | refine hK' _ _ ?_ | refine ⟨?_, hK' _ _ ?_⟩ | refine ⟨?_, ?_, hK' _ _ ?_⟩ | refine ⟨?_, ?_, ?_, hK' _ _ ?_⟩) <;> clear hK' K' <;> (first | (show alist _ _ _ _ _ _; skip) | (intro s hs; cases hs; done) | assumption | (simp; done) | omega | (simp; omega) | skip)) | ((show AC _ _ (D.fn 12 _) _ _); refine acall_p (f := 12) (e := rfl) (hr := rfl) (k := hK' _ _ ?_) (hc := Try.call12) (h := word _ _); clear hK' K'))) | refine al_e rfl rfl ?_ | refine al_u rfl rfl ?_ | ((fail_if_success (refine al_t rfl rfl fun K' hK' => ?_)); refine al_s _ rfl rfl rfl (fun hb => ?_) (fun hb => ?_)))
  have := indexErr ns hlen 47 [] (· != 0) [] [] (by simp) (by simp) (by simp) rfl rfl rfl (by simp) (by simp) Try.call47 fun n _ => good1 n
  (first | refine al_r rfl fun K' hK' => ?_ | refine al_d rfl fun K' hK' => ?_ | refine al_t rfl rfl fun K' hK' => ?_); (simp only [go_sem, simprocAttr]); ((show AC _ _ (D.fn 63 _) _ _); refine acall_p (f := 63) (e := rfl) (hr := rfl) (k := hK' _ _ ?_) (hc := Try.call63) (h := this.p); clear hK' K')
  repeat' (first | ((first | refine al_r rfl fun K' hK' => ?_ | refine al_d rfl fun K' hK' => ?_ | refine al_t rfl rfl fun K' hK' => ?_); (repeat (first | (simp only [go_sem, simprocAttr]) | refine AS.mk ?_ | refine AAp.grow ?_)); (first | ((first | refine hK' _ _ ?_ | refine ⟨?_, hK' _ _ ?_⟩ | refine ⟨?_, ?_, hK' _ _ ?_⟩ | refine ⟨?_, ?_, ?_, hK' _ _ ?_⟩) <;> clear hK' K' <;> (first | (show alist _ _ _ _ _ _; skip) | (intro s hs; cases hs; done) | assumption | (simp; done) | omega | (simp; omega) | skip)) | ((show AC _ _ (D.fn 12 _) _ _); refine acall_p (f := 12) (e := rfl) (hr := rfl) (k := hK' _ _ ?_) (hc := Try.call12) (h := word _ _); clear hK' K'))) | refine al_e rfl rfl ?_ | refine al_u rfl rfl ?_ | ((fail_if_success (refine al_t rfl rfl fun K' hK' => ?_)); refine al_s _ rfl rfl rfl (fun hb => ?_) (fun hb => ?_)))
  (refine al_nil ?_; (simp only [go_sem, simprocAttr]); refine hK _ ?_; clear hK K)
  refine awp_ret ?_; (first | refine hR _ _ (.inl rfl) rfl ?_ | refine hR _ _ (.inl rfl) rfl ?_ ?_)
  simp only [go_sem, simprocAttr, firstI_nonneg]

def goodS (ns : List Int) : Bool := ns.all (· == 0)

theorem good (ns : List Int) (hlen : ns.length < 4611686018427387904) : ACallP Try.prog 15 [errs ns] (bD (goodS ns)) := by
  unfold goodS
  refine acallp_fn [2] Try.func15 rfl rfl Try.ntmps15 (by simp) fun R hR => ?_
  (refine awp_reg_seq [0] fun K hK => ?_; (repeat' (first | ((first | refine al_r rfl fun K' hK' => ?_ | refine al_d rfl fun K' hK' => ?_ | refine al_t rfl rfl fun K' hK' => ?_); (repeat (first | (simp only [go_sem, simprocAttr]) | refine AS.mk ?_ | refine AAp.grow ?_)); (first | ((first | refine hK' _ _ ?_ | refine ⟨?_, hK' _ _ ?_⟩ | refine ⟨?_, ?_, hK' _ _ ?_⟩ | refine ⟨?_, ?_, ?_, hK' _ _ ?_⟩) <;> clear hK' K' <;> (first | (show alist _ _ _ _ _ _; skip) | (intro s hs; cases hs; done) | assumption | (simp; done) | omega | (simp; omega) | skip)) | ((show AC _ _ (D.fn 12 _) _ _); refine acall_p (f := 12) (e := rfl) (hr := rfl) (k := hK' _ _ ?_) (hc := Try.call12) (h := word _ _); clear hK' K'))) | refine al_e rfl rfl ?_ | refine al_u rfl rfl ?_ | ((fail_if_success (refine al_t rfl rfl fun K' hK' => ?_)); refine al_s _ rfl rfl rfl (fun hb => ?_) (fun hb => ?_)))); all_goals (refine al_nil ?_; (simp only [go_sem, simprocAttr]); refine hK _ ?_; clear hK K))
  refine awp_reg_seq [2] fun K hK => ?_
  repeat' (first | ((first | refine al_r rfl fun K' hK' => ?_ | refine al_d rfl fun K' hK' => ?_ | refine al_t rfl rfl fun K' hK' => ?_); (repeat (first | (simp only [go_sem, simprocAttr]) | refine AS.mk ?_ | refine AAp.grow ?_)); (first | ((first | refine hK' _ _ ?_ | refine ⟨?_, hK' _ _ ?_⟩ | refine ⟨?_, ?_, hK' _ _ ?_⟩ | refine ⟨?_, ?_, ?_, hK' _ _ ?_⟩) <;> clear hK' K' <;> (first | (show alist _ _ _ _ _ _; skip) | (intro s hs; cases hs; done) | assumption | (simp; done) | omega | (simp; omega) | skip)) | ((show AC _ _ (D.fn 12 _) _ _); refine acall_p (f := 12) (e := rfl) (hr := rfl) (k := hK' _ _ ?_) (hc := Try.call12) (h := word _ _); clear hK' K'))) | refine al_e rfl rfl ?_ | refine al_u rfl rfl ?_ | ((fail_if_success (refine al_t rfl rfl fun K' hK' => ?_)); refine al_s _ rfl rfl rfl (fun hb => ?_) (fun hb => ?_)))
  (first | refine al_r rfl fun K' hK' => ?_ | refine al_d rfl fun K' hK' => ?_ | refine al_t rfl rfl fun K' hK' => ?_); (simp only [go_sem, simprocAttr]); ((show AC _ _ (D.fn 46 _) _ _); refine acall_p (f := 46) (e := rfl) (hr := rfl) (k := hK' _ _ ?_) (hc := Try.call46) (h := containsGood ns hlen); clear hK' K')
  repeat' (first | ((first | refine al_r rfl fun K' hK' => ?_ | refine al_d rfl fun K' hK' => ?_ | refine al_t rfl rfl fun K' hK' => ?_); (repeat (first | (simp only [go_sem, simprocAttr]) | refine AS.mk ?_ | refine AAp.grow ?_)); (first | ((first | refine hK' _ _ ?_ | refine ⟨?_, hK' _ _ ?_⟩ | refine ⟨?_, ?_, hK' _ _ ?_⟩ | refine ⟨?_, ?_, ?_, hK' _ _ ?_⟩) <;> clear hK' K' <;> (first | (show alist _ _ _ _ _ _; skip) | (intro s hs; cases hs; done) | assumption | (simp; done) | omega | (simp; omega) | skip)) | ((show AC _ _ (D.fn 12 _) _ _); refine acall_p (f := 12) (e := rfl) (hr := rfl) (k := hK' _ _ ?_) (hc := Try.call12) (h := word _ _); clear hK' K'))) | refine al_e rfl rfl ?_ | refine al_u rfl rfl ?_ | ((fail_if_success (refine al_t rfl rfl fun K' hK' => ?_)); refine al_s _ rfl rfl rfl (fun hb => ?_) (fun hb => ?_)))
  (refine al_nil ?_; (simp only [go_sem, simprocAttr]); refine hK _ ?_; clear hK K)
  refine awp_ret ?_; (first | refine hR _ _ (.inl rfl) rfl ?_ | refine hR _ _ (.inl rfl) rfl ?_ ?_)
  simp only [go_sem, simprocAttr]
  have : (!ns.any (· != 0)) = ns.all (· == 0) := by
    clear hR hlen
    induction ns with
    | nil => rfl
    | cons x l ih => rw [List.any_cons, List.all_cons, Bool.not_or, ih]; simp [bne]
  rw [this]

end Go.Proofs.Ytofbhmcmejhepaa.P
