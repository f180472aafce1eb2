/- Lines of tasks, copied, one of them to be written on: a contract. -/
import Derived.Test.YtjaghpkmbgcabaaS2
set_option linter.unusedSimpArgs false
set_option linter.unusedVariables false
set_option maxHeartbeats 1000000
namespace Go.Proofs.Ytjaghpkmbgcabaa.P
open Go.Ab Go.Proofs.Ytjaghpkmbgcabaa.T

/-- The lines, as cells. -/
def lcells (ls : List (List Int)) : List D := ls.map fun l => .p (.sl (l.map irow))

theorem lcells_of (ls : List (List Int)) : cellsOf (ls.map lrow) = lcells ls := by
  unfold cellsOf lcells
  induction ls with
  | nil => rfl
  | cons x l ih => simp only [List.map_cons, List.flatten_cons, List.map_append, ih]; rfl

theorem ren_cells (ids : List Nat) (ls : List (List Int)) : (lcells ls).map (D.map (ren1 ids)) = lcells ls := by
  unfold lcells
  rw [List.map_map]
  exact List.map_congr_left fun _ _ => rfl


theorem copiedOwn (ls : List (List Int)) (hlen : ls.length ≤ 1000) (hw : ∀ x, x ∈ ls → x.length ≤ 1000) (c : Nat) (x : List Int) (hx : ls[c]? = some x) :
    ACalls Try.prog 39 [lines ls] [] (fun r obs' => r = .gref 0 1 0 ls.length ∧ obs' = [.box ((lcells ls).set c (.ref 1 0 x.length)), .row 1 (x.map irow)]) := by
  have hcl0 := lt_of_get hx
  have hne : ¬ ls.length = 0 := by omega
  have hrA : D.mapL (ren1 [0, 1]) (lcells ls) = lcells ls := by rw [D.mapL_eq, ren_cells]
  have hrB : D.mapL (ren1 [0, 1]) ((lcells ls).set c (.ref 1 0 x.length)) = (lcells ls).set c (.ref 1 0 x.length) := by rw [D.mapL_eq, List.map_set, ren_cells]; rfl
  have hnm : ls.map lrow ≠ [] := by intro h; have := congrArg List.length h; simp at this; exact hne (by rw [this]; rfl)
  refine acallm_fn [2] Try.func39 rfl rfl Try.ntmps39 (by simp) (by simp) fun R hR => ?_
  (refine awp_reg_seq [0] fun K hK => ?_; (repeat' (first | ((first | refine al_r rfl fun K' hK' => ?_ | refine al_d rfl fun K' hK' => ?_ | refine al_t rfl rfl fun K' hK' => ?_); (repeat (first | (simp only [go_sem, simprocAttr, List.length_map]) | refine AS.mk ?_ | refine AAp.grow ?_)); (first | ((first | refine hK' _ _ ?_ | refine ⟨?_, hK' _ _ ?_⟩ | refine ⟨?_, ?_, hK' _ _ ?_⟩ | refine ⟨?_, ?_, ?_, hK' _ _ ?_⟩) <;> clear hK' K' <;> (first | (show alist _ _ _ _ _ _; skip) | (intro s hs; cases hs; done) | assumption | (simp; done) | omega | (simp; omega) | skip)))) | refine al_e rfl rfl ?_ | refine al_u rfl rfl ?_ | ((fail_if_success (refine al_t rfl rfl fun K' hK' => ?_)); refine al_s _ rfl rfl rfl (fun hb => ?_) (fun hb => ?_)))); all_goals (refine al_nil ?_; (simp only [go_sem, simprocAttr, List.length_map]); refine hK _ ?_; clear hK K))
  refine awp_reg_seq [3] fun K hK => ?_
  repeat' (first | ((first | refine al_r rfl fun K' hK' => ?_ | refine al_d rfl fun K' hK' => ?_ | refine al_t rfl rfl fun K' hK' => ?_); (repeat (first | (simp only [go_sem, simprocAttr, List.length_map]) | refine AS.mk ?_ | refine AAp.grow ?_)); (first | ((first | refine hK' _ _ ?_ | refine ⟨?_, hK' _ _ ?_⟩ | refine ⟨?_, ?_, hK' _ _ ?_⟩ | refine ⟨?_, ?_, ?_, hK' _ _ ?_⟩) <;> clear hK' K' <;> (first | (show alist _ _ _ _ _ _; skip) | (intro s hs; cases hs; done) | assumption | (simp; done) | omega | (simp; omega) | skip)))) | refine al_e rfl rfl ?_ | refine al_u rfl rfl ?_ | ((fail_if_success (refine al_t rfl rfl fun K' hK' => ?_)); refine al_s _ rfl rfl rfl (fun hb => ?_) (fun hb => ?_)))
  refine al_run rfl rfl (by decide) fun K' hK' => ?_
  simp only [go_sem, simprocAttr, List.length_map]
  refine acall_new (f := 54) Try.call54 (cloneL (ls.map lrow) (lrow1 ls) (by simp; omega)) rfl ?_
  rintro r obs' ⟨rfl, rfl⟩
  simp only [go_sem, simprocAttr, List.length_map]
  refine hK' _ _ ?_
  clear hK' K'
  repeat' (first | ((first | refine al_r rfl fun K' hK' => ?_ | refine al_d rfl fun K' hK' => ?_ | refine al_t rfl rfl fun K' hK' => ?_); (repeat (first | (simp only [go_sem, simprocAttr, List.length_map]) | refine AS.mk ?_ | refine AAp.grow ?_)); (first | ((first | refine hK' _ _ ?_ | refine ⟨?_, hK' _ _ ?_⟩ | refine ⟨?_, ?_, hK' _ _ ?_⟩ | refine ⟨?_, ?_, ?_, hK' _ _ ?_⟩) <;> clear hK' K' <;> (first | (show alist _ _ _ _ _ _; skip) | (intro s hs; cases hs; done) | assumption | (simp; done) | omega | (simp; omega) | skip)))) | refine al_e rfl rfl ?_ | refine al_u rfl rfl ?_ | ((fail_if_success (refine al_t rfl rfl fun K' hK' => ?_)); refine al_s _ rfl rfl rfl (fun hb => ?_) (fun hb => ?_)))
  (refine al_nil ?_; (simp only [go_sem, simprocAttr, List.length_map]); refine hK _ ?_; clear hK K)
  refine awp_unrow 0 rfl hnm (Nat.le_refl _) ?_
  simp only [go_sem, simprocAttr, List.length_map, lcells_of, hne]
  refine awp_dummy 1 ?_
  simp only [go_sem, simprocAttr, List.length_map]
  refine awp_seq_k fun K hK => ?_
  (refine awp_reg_seq [3, 8, 9] fun K hK => ?_; (repeat' (first | ((first | refine al_r rfl fun K' hK' => ?_ | refine al_d rfl fun K' hK' => ?_ | refine al_t rfl rfl fun K' hK' => ?_); (repeat (first | (simp only [go_sem, simprocAttr, List.length_map]) | refine AS.mk ?_ | refine AAp.grow ?_)); (first | ((first | refine hK' _ _ ?_ | refine ⟨?_, hK' _ _ ?_⟩ | refine ⟨?_, ?_, hK' _ _ ?_⟩ | refine ⟨?_, ?_, ?_, hK' _ _ ?_⟩) <;> clear hK' K' <;> (first | (show alist _ _ _ _ _ _; skip) | (intro s hs; cases hs; done) | assumption | (simp; done) | omega | (simp; omega) | skip)))) | refine al_e rfl rfl ?_ | refine al_u rfl rfl ?_ | ((fail_if_success (refine al_t rfl rfl fun K' hK' => ?_)); refine al_s _ rfl rfl rfl (fun hb => ?_) (fun hb => ?_)))); all_goals (refine al_nil ?_; (simp only [go_sem, simprocAttr, List.length_map]); refine hK _ ?_; clear hK K))
  refine awp_block ?_
  -- loop 0 head [3, 8, 9]
  refine awp_loop_cut (fun m s => ∃ (i : Nat) (C : List D) (X : List (List PV)), i ≤ ls.length ∧ m = ls.length - i ∧ ((i ≤ c ∧ C = lcells ls ∧ X = []) ∨ (c < i ∧ C = (lcells ls).set c (.ref 1 0 x.length) ∧ X = x.map irow)) ∧ s = ⟨ofL [(3, .gref 0 1 0 ls.length), (8, iD ls.length), (9, iD i)], [.box C, .row 1 X], 0⟩) ⟨_, 0, _, _, Nat.zero_le _, rfl, .inl ⟨Nat.zero_le _, rfl, rfl⟩, rfl⟩ ?_
  rintro m s ⟨i, C, X, hi, hmi, hCX, rfl⟩
  (refine awp_reg_seq [3, 8, 9, 10] fun K hK => ?_; (repeat' (first | ((first | refine al_r rfl fun K' hK' => ?_ | refine al_d rfl fun K' hK' => ?_ | refine al_t rfl rfl fun K' hK' => ?_); (repeat (first | (simp only [go_sem, simprocAttr, List.length_map]) | refine AS.mk ?_ | refine AAp.grow ?_)); (first | ((first | refine hK' _ _ ?_ | refine ⟨?_, hK' _ _ ?_⟩ | refine ⟨?_, ?_, hK' _ _ ?_⟩ | refine ⟨?_, ?_, ?_, hK' _ _ ?_⟩) <;> clear hK' K' <;> (first | (show alist _ _ _ _ _ _; skip) | (intro s hs; cases hs; done) | assumption | (simp; done) | omega | (simp; omega) | skip)))) | refine al_e rfl rfl ?_ | refine al_u rfl rfl ?_ | ((fail_if_success (refine al_t rfl rfl fun K' hK' => ?_)); refine al_s _ rfl rfl rfl (fun hb => ?_) (fun hb => ?_)))); all_goals (refine al_nil ?_; (simp only [go_sem, simprocAttr, List.length_map]); refine hK _ ?_; clear hK K))
  refine awp_seq_k fun K hK => ?_
  refine awp_if (decide ((i : Int) < ls.length)) rfl (fun hc => ?_) (fun hc => ?_)
  · refine awp_skip ?_
    refine hK _ ?_; clear hK K
    refine awp_seq_k fun K hK => ?_
    refine awp_block ?_
    have hi2 : i < ls.length := by simpa using hc
    obtain ⟨y, hget⟩ := get_of_lt hi2
    have hnn : (0 : Int) ≤ (i : Int) := Int.natCast_nonneg i
    have hnx : IntKind.i64.wrap ((i : Int) + 1) = ((i + 1 : Nat) : Int) := wrap_next hi2 (by simp [maxLen]; omega)
    have hyl := hw y (List.mem_of_getElem? hget)
    have hcl := cloneI (y.map irow) (irow1 _) (by simp; omega)
    simp only [List.length_map] at hcl
    have htw : List.take y.length (y.map irow) = y.map irow := List.take_of_length_le (by simp)
    have hLl : (lcells ls).length = ls.length := by simp [lcells]
    have hLi : (lcells ls)[i]? = some (.p (.sl (y.map irow))) := by unfold lcells; rw [List.getElem?_map, hget]; rfl
    have hCl : C.length = ls.length := by rcases hCX with ⟨_, h, _⟩ | ⟨_, h, _⟩ <;> rw [h] <;> simp [hLl]
    have hCi : C[i]? = some (.p (.sl (y.map irow))) := by
      rcases hCX with ⟨_, h, _⟩ | ⟨h1, h, _⟩
      · rw [h]; exact hLi
      · rw [h, List.getElem?_set_ne (by omega)]; exact hLi
    have hdr : (List.drop i C)[0]? = some (.p (.sl (y.map irow))) := by rw [List.getElem?_drop]; simpa using hCi
    have hren : D.mapL (ren1 [0, 1]) C = C := by
      rcases hCX with ⟨_, h, _⟩ | ⟨_, h, _⟩
      · rw [h]; exact hrA
      · rw [h]; exact hrB
    have hput : ∀ d : D, List.take i C ++ [d] ++ List.drop (i + 1) C = C.set i d := fun d => put_set (by omega) d
    have hfit : i + 1 ≤ ls.length := hi2

    (refine awp_reg_seq [3, 4, 8, 9] fun K hK => ?_; (repeat' (first | ((first | refine al_r rfl fun K' hK' => ?_ | refine al_d rfl fun K' hK' => ?_ | refine al_t rfl rfl fun K' hK' => ?_); (repeat (first | (simp only [go_sem, simprocAttr, hget, hnn, hi2, hnx, Int.toNat_natCast, List.getElem?_map, Option.map_some, List.length_map, htw, List.drop_zero, hdr, hput, hCl, hfit, Nat.mul_one, hren]) | refine AS.mk ?_ | refine AAp.grow ?_)); (first | ((first | refine hK' _ _ ?_ | refine ⟨?_, hK' _ _ ?_⟩ | refine ⟨?_, ?_, hK' _ _ ?_⟩ | refine ⟨?_, ?_, ?_, hK' _ _ ?_⟩) <;> clear hK' K' <;> (first | (show alist _ _ _ _ _ _; skip) | (intro s hs; cases hs; done) | assumption | (simp; done) | omega | (simp; omega) | skip)))) | refine al_e rfl rfl ?_ | refine al_u rfl rfl ?_ | ((fail_if_success (refine al_t rfl rfl fun K' hK' => ?_)); refine al_s _ rfl rfl rfl (fun hb => ?_) (fun hb => ?_)))); all_goals (refine al_nil ?_; (simp only [go_sem, simprocAttr, hget, hnn, hi2, hnx, Int.toNat_natCast, List.getElem?_map, Option.map_some, List.length_map, htw, List.drop_zero, hdr, hput, hCl, hfit, Nat.mul_one, hren]); refine hK _ ?_; clear hK K))
    refine awp_reg_end [3, 8, 9] fun K hK => ?_
    by_cases hic : i = c
    · repeat' (first | ((first | refine al_r rfl fun K' hK' => ?_ | refine al_d rfl fun K' hK' => ?_ | refine al_t rfl rfl fun K' hK' => ?_); (repeat (first | (simp only [go_sem, simprocAttr, hget, hnn, hi2, hnx, Int.toNat_natCast, List.getElem?_map, Option.map_some, List.length_map, htw, List.drop_zero, hdr, hput, hCl, hfit, Nat.mul_one, hren]) | refine AS.mk ?_ | refine AAp.grow ?_)); (first | ((first | refine hK' _ _ ?_ | refine ⟨?_, hK' _ _ ?_⟩ | refine ⟨?_, ?_, hK' _ _ ?_⟩ | refine ⟨?_, ?_, ?_, hK' _ _ ?_⟩) <;> clear hK' K' <;> (first | (show alist _ _ _ _ _ _; skip) | (intro s hs; cases hs; done) | assumption | (simp; done) | omega | (simp; omega) | skip)) | ((show AC _ _ (D.fn 18 _) _ _); refine acall_new (f := 18) Try.call18 hcl rfl ?_; rintro r obs' ⟨rfl, rfl⟩; (simp only [go_sem, simprocAttr, hget, hnn, hi2, hnx, Int.toNat_natCast, List.getElem?_map, Option.map_some, List.length_map, htw, List.drop_zero, hdr, hput, hCl, hfit, Nat.mul_one, hren]); refine hK' _ _ ?_; clear hK' K'))) | refine al_e rfl rfl ?_ | refine al_u rfl rfl ?_ | ((fail_if_success (refine al_t rfl rfl fun K' hK' => ?_)); refine al_s _ rfl rfl rfl (fun hb => ?_) (fun hb => ?_)))
      all_goals (refine al_nil ?_; (simp only [go_sem, simprocAttr, hget, hnn, hi2, hnx, Int.toNat_natCast, List.getElem?_map, Option.map_some, List.length_map, htw, List.drop_zero, hdr, hput, hCl, hfit, Nat.mul_one, hren]); refine hK _ ?_; clear hK K)
      refine hK _ ?_; clear hK K
      (refine awp_reg_end [3, 8, 9] fun K hK => ?_; (repeat' (first | ((first | refine al_r rfl fun K' hK' => ?_ | refine al_d rfl fun K' hK' => ?_ | refine al_t rfl rfl fun K' hK' => ?_); (repeat (first | (simp only [go_sem, simprocAttr, hget, hnn, hi2, hnx, Int.toNat_natCast, List.getElem?_map, Option.map_some, List.length_map, htw, List.drop_zero, hdr, hput, hCl, hfit, Nat.mul_one, hren]) | refine AS.mk ?_ | refine AAp.grow ?_)); (first | ((first | refine hK' _ _ ?_ | refine ⟨?_, hK' _ _ ?_⟩ | refine ⟨?_, ?_, hK' _ _ ?_⟩ | refine ⟨?_, ?_, ?_, hK' _ _ ?_⟩) <;> clear hK' K' <;> (first | (show alist _ _ _ _ _ _; skip) | (intro s hs; cases hs; done) | assumption | (simp; done) | omega | (simp; omega) | skip)) | ((show AC _ _ (D.fn 18 _) _ _); refine acall_new (f := 18) Try.call18 hcl rfl ?_; rintro r obs' ⟨rfl, rfl⟩; (simp only [go_sem, simprocAttr, hget, hnn, hi2, hnx, Int.toNat_natCast, List.getElem?_map, Option.map_some, List.length_map, htw, List.drop_zero, hdr, hput, hCl, hfit, Nat.mul_one, hren]); refine hK' _ _ ?_; clear hK' K'))) | refine al_e rfl rfl ?_ | refine al_u rfl rfl ?_ | ((fail_if_success (refine al_t rfl rfl fun K' hK' => ?_)); refine al_s _ rfl rfl rfl (fun hb => ?_) (fun hb => ?_)))); all_goals (refine al_nil ?_; (simp only [go_sem, simprocAttr, hget, hnn, hi2, hnx, Int.toNat_natCast, List.getElem?_map, Option.map_some, List.length_map, htw, List.drop_zero, hdr, hput, hCl, hfit, Nat.mul_one, hren]); refine hK _ ?_; clear hK K))
      have hc0 : C = lcells ls ∧ X = [] := by rcases hCX with ⟨_, h1, h2⟩ | ⟨h, _⟩; exact ⟨h1, h2⟩; omega
      have hyx : y = x := by rw [hic, hx] at hget; exact (Option.some.inj hget).symm
      refine ⟨ls.length - (i + 1), by omega, [3, 8, 9], [0, 2], by decide, by intro j hj; exact absurd hj (Nat.not_lt_zero j), i + 1, (lcells ls).set c (.ref 1 0 x.length), x.map irow, hi2, rfl, .inr ⟨by omega, rfl, rfl⟩, ?_⟩
      rw [hc0.1, hyx, hic]
      simp only [go_sem, simprocAttr, hget, hnn, hi2, hnx, Int.toNat_natCast, List.getElem?_map, Option.map_some, List.length_map, htw, List.drop_zero, hdr, hput, hCl, hfit, Nat.mul_one, hren, D.mapL_eq, List.map_set, ren_cells]
    iterate 8 (first | ((first | refine al_r rfl fun K' hK' => ?_ | refine al_d rfl fun K' hK' => ?_ | refine al_t rfl rfl fun K' hK' => ?_); (repeat (first | (simp only [go_sem, simprocAttr, hget, hnn, hi2, hnx, Int.toNat_natCast, List.getElem?_map, Option.map_some, List.length_map, htw, List.drop_zero, hdr, hput, hCl, hfit, Nat.mul_one, hren]) | refine AS.mk ?_ | refine AAp.grow ?_)); (first | ((first | refine hK' _ _ ?_ | refine ⟨?_, hK' _ _ ?_⟩ | refine ⟨?_, ?_, hK' _ _ ?_⟩ | refine ⟨?_, ?_, ?_, hK' _ _ ?_⟩) <;> clear hK' K' <;> (first | (show alist _ _ _ _ _ _; skip) | (intro s hs; cases hs; done) | assumption | (simp; done) | omega | (simp; omega) | skip)) | ((show AC _ _ (D.fn 18 _) _ _); refine acall_new (f := 18) Try.call18 hcl rfl ?_; rintro r obs' ⟨rfl, rfl⟩; (simp only [go_sem, simprocAttr, hget, hnn, hi2, hnx, Int.toNat_natCast, List.getElem?_map, Option.map_some, List.length_map, htw, List.drop_zero, hdr, hput, hCl, hfit, Nat.mul_one, hren]); refine hK' _ _ ?_; clear hK' K'))) | refine al_e rfl rfl ?_ | refine al_u rfl rfl ?_ | ((fail_if_success (refine al_t rfl rfl fun K' hK' => ?_)); refine al_s _ rfl rfl rfl (fun hb => ?_) (fun hb => ?_)))
    ((first | refine al_r rfl fun K' hK' => ?_ | refine al_d rfl fun K' hK' => ?_ | refine al_t rfl rfl fun K' hK' => ?_); (simp only [go_sem, simprocAttr, hget, hnn, hi2, hnx, Int.toNat_natCast, List.getElem?_map, Option.map_some, List.length_map, htw, List.drop_zero, hdr, hput, hCl, hfit, Nat.mul_one, hren]); refine as_away [0, 1] (by decide) (by simp) ?_; (simp only [go_sem, simprocAttr, hget, hnn, hi2, hnx, Int.toNat_natCast, List.getElem?_map, Option.map_some, List.length_map, htw, List.drop_zero, hdr, hput, hCl, hfit, Nat.mul_one, hren]); (first | ((first | refine hK' _ _ ?_ | refine ⟨?_, hK' _ _ ?_⟩ | refine ⟨?_, ?_, hK' _ _ ?_⟩ | refine ⟨?_, ?_, ?_, hK' _ _ ?_⟩) <;> clear hK' K' <;> (first | (show alist _ _ _ _ _ _; skip) | (intro s hs; cases hs; done) | assumption | (simp; done) | omega | (simp; omega) | skip))))
    all_goals (refine al_nil ?_; (simp only [go_sem, simprocAttr, hget, hnn, hi2, hnx, Int.toNat_natCast, List.getElem?_map, Option.map_some, List.length_map, htw, List.drop_zero, hdr, hput, hCl, hfit, Nat.mul_one, hren]); refine hK _ ?_; clear hK K)
    refine hK _ ?_; clear hK K
    (refine awp_reg_end [3, 8, 9] fun K hK => ?_; (repeat' (first | ((first | refine al_r rfl fun K' hK' => ?_ | refine al_d rfl fun K' hK' => ?_ | refine al_t rfl rfl fun K' hK' => ?_); (repeat (first | (simp only [go_sem, simprocAttr, hget, hnn, hi2, hnx, Int.toNat_natCast, List.getElem?_map, Option.map_some, List.length_map, htw, List.drop_zero, hdr, hput, hCl, hfit, Nat.mul_one, hren]) | refine AS.mk ?_ | refine AAp.grow ?_)); (first | ((first | refine hK' _ _ ?_ | refine ⟨?_, hK' _ _ ?_⟩ | refine ⟨?_, ?_, hK' _ _ ?_⟩ | refine ⟨?_, ?_, ?_, hK' _ _ ?_⟩) <;> clear hK' K' <;> (first | (show alist _ _ _ _ _ _; skip) | (intro s hs; cases hs; done) | assumption | (simp; done) | omega | (simp; omega) | skip)))) | refine al_e rfl rfl ?_ | refine al_u rfl rfl ?_ | ((fail_if_success (refine al_t rfl rfl fun K' hK' => ?_)); refine al_s _ rfl rfl rfl (fun hb => ?_) (fun hb => ?_)))); all_goals (refine al_nil ?_; (simp only [go_sem, simprocAttr, hget, hnn, hi2, hnx, Int.toNat_natCast, List.getElem?_map, Option.map_some, List.length_map, htw, List.drop_zero, hdr, hput, hCl, hfit, Nat.mul_one, hren]); refine hK _ ?_; clear hK K))
    refine ⟨ls.length - (i + 1), by omega, [3, 8, 9], [0, 1], by decide, by intro j hj; exact absurd hj (Nat.not_lt_zero j), i + 1, C, X, hi2, rfl, ?_, ?_⟩
    · rcases hCX with ⟨h1, h2, h3⟩ | ⟨h1, h2, h3⟩
      · exact .inl ⟨by omega, h2, h3⟩
      · exact .inr ⟨by omega, h2, h3⟩
    · have hsm : C.set i (.p (.sl (y.map irow))) = C := set_same hCi
      simp only [go_sem, simprocAttr, hget, hnn, hi2, hnx, Int.toNat_natCast, List.getElem?_map, Option.map_some, List.length_map, htw, List.drop_zero, hdr, hput, hCl, hfit, Nat.mul_one, hren, hsm]

  · obtain ⟨hC, hX⟩ : C = (lcells ls).set c (.ref 1 0 x.length) ∧ X = x.map irow := by
      have hil : i = ls.length := by simp at hc; omega
      rcases hCX with ⟨h1, _⟩ | ⟨_, h2, h3⟩
      · omega
      · exact ⟨h2, h3⟩
    subst hC hX

    refine awp_exit ?_
    clear hK
    refine hK _ ?_; clear hK K
    (refine awp_reg_seq [2] fun K hK => ?_; (repeat' (first | ((first | refine al_r rfl fun K' hK' => ?_ | refine al_d rfl fun K' hK' => ?_ | refine al_t rfl rfl fun K' hK' => ?_); (repeat (first | (simp only [go_sem, simprocAttr, List.length_map, hrB]) | refine AS.mk ?_ | refine AAp.grow ?_)); (first | ((first | refine hK' _ _ ?_ | refine ⟨?_, hK' _ _ ?_⟩ | refine ⟨?_, ?_, hK' _ _ ?_⟩ | refine ⟨?_, ?_, ?_, hK' _ _ ?_⟩) <;> clear hK' K' <;> (first | (show alist _ _ _ _ _ _; skip) | (intro s hs; cases hs; done) | assumption | (simp; done) | omega | (simp; omega) | skip)))) | refine al_e rfl rfl ?_ | refine al_u rfl rfl ?_ | ((fail_if_success (refine al_t rfl rfl fun K' hK' => ?_)); refine al_s _ rfl rfl rfl (fun hb => ?_) (fun hb => ?_)))); all_goals (refine al_nil ?_; (simp only [go_sem, simprocAttr, List.length_map, hrB]); refine hK _ ?_; clear hK K))
    refine awp_ret (hR _ _ [0, 1] (.inl rfl) rfl (by decide) (by simp only [List.length_cons, List.length_nil]; decide) ?_)
    all_goals (simp only [go_sem, simprocAttr, List.length_map, hrB])
end Go.Proofs.Ytjaghpkmbgcabaa.P
