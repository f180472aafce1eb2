/- A task is pushed: a contract. -/
import Derived.Test.YtjaghpkmbgcabaaS4
import Derived.Test.YtjaghpkmbgcabaaS5
set_option linter.unusedSimpArgs false
set_option linter.unusedVariables false
set_option maxHeartbeats 1000000
namespace Go.Proofs.Ytjaghpkmbgcabaa.P
open Go.Ab Go.Proofs.Ytjaghpkmbgcabaa.T


theorem indexI (ls : List Int) (hlen : ls.length ≤ maxLen) (v : Int) : ACallP Try.prog 37 [ints ls, iD v] (iD (firstAt (fun n => v == n) ls)) := by
  refine acallp_fn [4] Try.func37 rfl rfl Try.ntmps37 (by simp) fun R hR => ?_
  (refine awp_reg_seq [0, 1] fun K hK => ?_; (repeat' (first | ((first | refine al_r rfl fun K' hK' => ?_ | refine al_d rfl fun K' hK' => ?_ | refine al_t rfl rfl fun K' hK' => ?_); (repeat (first | (simp only [go_sem, simprocAttr, List.length_map]) | refine AS.mk ?_ | refine AAp.grow ?_)); (first | ((first | refine hK' _ _ ?_ | refine ⟨?_, hK' _ _ ?_⟩ | refine ⟨?_, ?_, hK' _ _ ?_⟩ | refine ⟨?_, ?_, ?_, hK' _ _ ?_⟩) <;> clear hK' K' <;> (first | (show alist _ _ _ _ _ _; skip) | (intro s hs; cases hs; done) | assumption | (simp; done) | omega | (simp; omega) | skip)))) | refine al_e rfl rfl ?_ | refine al_u rfl rfl ?_ | ((fail_if_success (refine al_t rfl rfl fun K' hK' => ?_)); refine al_s _ rfl rfl rfl (fun hb => ?_) (fun hb => ?_)))); all_goals (refine al_nil ?_; (simp only [go_sem, simprocAttr, List.length_map]); refine hK _ ?_; clear hK K))
  refine awp_seq_k fun K hK => ?_
  (refine awp_reg_seq [0, 1, 7, 8] fun K hK => ?_; (repeat' (first | ((first | refine al_r rfl fun K' hK' => ?_ | refine al_d rfl fun K' hK' => ?_ | refine al_t rfl rfl fun K' hK' => ?_); (repeat (first | (simp only [go_sem, simprocAttr, List.length_map]) | refine AS.mk ?_ | refine AAp.grow ?_)); (first | ((first | refine hK' _ _ ?_ | refine ⟨?_, hK' _ _ ?_⟩ | refine ⟨?_, ?_, hK' _ _ ?_⟩ | refine ⟨?_, ?_, ?_, hK' _ _ ?_⟩) <;> clear hK' K' <;> (first | (show alist _ _ _ _ _ _; skip) | (intro s hs; cases hs; done) | assumption | (simp; done) | omega | (simp; omega) | skip)))) | refine al_e rfl rfl ?_ | refine al_u rfl rfl ?_ | ((fail_if_success (refine al_t rfl rfl fun K' hK' => ?_)); refine al_s _ rfl rfl rfl (fun hb => ?_) (fun hb => ?_)))); all_goals (refine al_nil ?_; (simp only [go_sem, simprocAttr, List.length_map]); refine hK _ ?_; clear hK K))
  refine awp_block ?_
  -- loop 0 head [0, 1, 7, 8]
  refine awp_loop (fun m s => ∃ i : Nat, i ≤ ls.length ∧ m = ls.length - i ∧ (∀ (j : Nat) y, j < i → ls[j]? = some y → (v == y) = false) ∧ s = ⟨ofL [(0, ints ls), (1, iD v), (7, iD ls.length), (8, iD i)], [], 0⟩) ⟨_, 0, Nat.zero_le _, rfl, fun j _ hj => absurd hj (by omega), rfl⟩ ?_
  rintro m s ⟨i, hi, rfl, hbefore, rfl⟩
  (refine awp_reg_seq [0, 1, 7, 8, 9] fun K hK => ?_; (repeat' (first | ((first | refine al_r rfl fun K' hK' => ?_ | refine al_d rfl fun K' hK' => ?_ | refine al_t rfl rfl fun K' hK' => ?_); (repeat (first | (simp only [go_sem, simprocAttr, List.length_map]) | refine AS.mk ?_ | refine AAp.grow ?_)); (first | ((first | refine hK' _ _ ?_ | refine ⟨?_, hK' _ _ ?_⟩ | refine ⟨?_, ?_, hK' _ _ ?_⟩ | refine ⟨?_, ?_, ?_, hK' _ _ ?_⟩) <;> clear hK' K' <;> (first | (show alist _ _ _ _ _ _; skip) | (intro s hs; cases hs; done) | assumption | (simp; done) | omega | (simp; omega) | skip)))) | refine al_e rfl rfl ?_ | refine al_u rfl rfl ?_ | ((fail_if_success (refine al_t rfl rfl fun K' hK' => ?_)); refine al_s _ rfl rfl rfl (fun hb => ?_) (fun hb => ?_)))); all_goals (refine al_nil ?_; (simp only [go_sem, simprocAttr, List.length_map]); refine hK _ ?_; clear hK K))
  refine awp_seq_k fun K hK => ?_
  refine awp_if (decide ((i : Int) < ls.length)) rfl (fun hc => ?_) (fun hc => ?_)
  · refine awp_skip ?_
    refine hK _ ?_; clear hK K
    refine awp_seq_k fun K hK => ?_
    refine awp_block ?_
    have hi2 : i < ls.length := by simpa using hc
    obtain ⟨x, hx⟩ := get_of_lt hi2
    have hnn : (0 : Int) ≤ (i : Int) := Int.natCast_nonneg i
    have hnx : IntKind.i64.wrap ((i : Int) + 1) = ((i + 1 : Nat) : Int) := wrap_next hi2 hlen

    (refine awp_reg_seq [0, 1, 5, 7, 8] fun K hK => ?_; (repeat' (first | ((first | refine al_r rfl fun K' hK' => ?_ | refine al_d rfl fun K' hK' => ?_ | refine al_t rfl rfl fun K' hK' => ?_); (repeat (first | (simp only [go_sem, simprocAttr, List.length_map, hx, hnn, hi2, Int.toNat_natCast, List.getElem?_map, Option.map_some, hnx]) | refine AS.mk ?_ | refine AAp.grow ?_)); (first | ((first | refine hK' _ _ ?_ | refine ⟨?_, hK' _ _ ?_⟩ | refine ⟨?_, ?_, hK' _ _ ?_⟩ | refine ⟨?_, ?_, ?_, hK' _ _ ?_⟩) <;> clear hK' K' <;> (first | (show alist _ _ _ _ _ _; skip) | (intro s hs; cases hs; done) | assumption | (simp; done) | omega | (simp; omega) | skip)))) | refine al_e rfl rfl ?_ | refine al_u rfl rfl ?_ | ((fail_if_success (refine al_t rfl rfl fun K' hK' => ?_)); refine al_s _ rfl rfl rfl (fun hb => ?_) (fun hb => ?_)))); all_goals (refine al_nil ?_; (simp only [go_sem, simprocAttr, List.length_map, hx, hnn, hi2, Int.toNat_natCast, List.getElem?_map, Option.map_some, hnx]); refine hK _ ?_; clear hK K))
    (refine awp_reg_seq [0, 1, 5, 7, 8, 16] fun K hK => ?_; (repeat' (first | ((first | refine al_r rfl fun K' hK' => ?_ | refine al_d rfl fun K' hK' => ?_ | refine al_t rfl rfl fun K' hK' => ?_); (repeat (first | (simp only [go_sem, simprocAttr, List.length_map, hx, hnn, hi2, Int.toNat_natCast, List.getElem?_map, Option.map_some, hnx]) | refine AS.mk ?_ | refine AAp.grow ?_)); (first | ((first | refine hK' _ _ ?_ | refine ⟨?_, hK' _ _ ?_⟩ | refine ⟨?_, ?_, hK' _ _ ?_⟩ | refine ⟨?_, ?_, ?_, hK' _ _ ?_⟩) <;> clear hK' K' <;> (first | (show alist _ _ _ _ _ _; skip) | (intro s hs; cases hs; done) | assumption | (simp; done) | omega | (simp; omega) | skip)))) | refine al_e rfl rfl ?_ | refine al_u rfl rfl ?_ | ((fail_if_success (refine al_t rfl rfl fun K' hK' => ?_)); refine al_s _ rfl rfl rfl (fun hb => ?_) (fun hb => ?_)))); all_goals (refine al_nil ?_; (simp only [go_sem, simprocAttr, List.length_map, hx, hnn, hi2, Int.toNat_natCast, List.getElem?_map, Option.map_some, hnx]); refine hK _ ?_; clear hK K))
    refine awp_if (v == x) rfl (fun hc => ?_) (fun hc => ?_)
    · rw [firstAt_at (fun j hj y hy => hbefore j y hj hy) hx hc] at hR
      (refine awp_reg_seq [4] fun K hK => ?_; (repeat' (first | ((first | refine al_r rfl fun K' hK' => ?_ | refine al_d rfl fun K' hK' => ?_ | refine al_t rfl rfl fun K' hK' => ?_); (repeat (first | (simp only [go_sem, simprocAttr, List.length_map, hx, hnn, hi2, Int.toNat_natCast, List.getElem?_map, Option.map_some, hnx]) | refine AS.mk ?_ | refine AAp.grow ?_)); (first | ((first | refine hK' _ _ ?_ | refine ⟨?_, hK' _ _ ?_⟩ | refine ⟨?_, ?_, hK' _ _ ?_⟩ | refine ⟨?_, ?_, ?_, hK' _ _ ?_⟩) <;> clear hK' K' <;> (first | (show alist _ _ _ _ _ _; skip) | (intro s hs; cases hs; done) | assumption | (simp; done) | omega | (simp; omega) | skip)))) | refine al_e rfl rfl ?_ | refine al_u rfl rfl ?_ | ((fail_if_success (refine al_t rfl rfl fun K' hK' => ?_)); refine al_s _ rfl rfl rfl (fun hb => ?_) (fun hb => ?_)))); all_goals (refine al_nil ?_; (simp only [go_sem, simprocAttr, List.length_map, hx, hnn, hi2, Int.toNat_natCast, List.getElem?_map, Option.map_some, hnx]); refine hK _ ?_; clear hK K))
      all_goals (refine awp_ret ?_; (first | refine hR _ _ (.inl rfl) rfl ?_ | refine hR _ _ (.inl rfl) rfl ?_ ?_); (first | (simp only [go_sem, simprocAttr, List.length_map, hx, hnn, hi2, Int.toNat_natCast, List.getElem?_map, Option.map_some, hnx, *, Bool.and_true, Bool.and_false, Bool.true_and, Bool.false_and, Bool.or_true, Bool.true_or, Bool.or_false, Bool.false_or, Bool.not_true, Bool.not_false, Bool.false_eq_true]; done) | contradiction | (simp_all; done) | simp only [go_sem, simprocAttr, List.length_map, hx, hnn, hi2, Int.toNat_natCast, List.getElem?_map, Option.map_some, hnx, *, Bool.and_true, Bool.and_false, Bool.true_and, Bool.false_and, Bool.or_true, Bool.true_or, Bool.or_false, Bool.false_or, Bool.not_true, Bool.not_false, Bool.false_eq_true]))
    · have hne := hc
      refine awp_skip ?_
      refine hK _ ?_; clear hK K
      (refine awp_reg_end [0, 1, 7, 8] fun K hK => ?_; (repeat' (first | ((first | refine al_r rfl fun K' hK' => ?_ | refine al_d rfl fun K' hK' => ?_ | refine al_t rfl rfl fun K' hK' => ?_); (repeat (first | (simp only [go_sem, simprocAttr, List.length_map, hx, hnn, hi2, Int.toNat_natCast, List.getElem?_map, Option.map_some, hnx]) | refine AS.mk ?_ | refine AAp.grow ?_)); (first | ((first | refine hK' _ _ ?_ | refine ⟨?_, hK' _ _ ?_⟩ | refine ⟨?_, ?_, hK' _ _ ?_⟩ | refine ⟨?_, ?_, ?_, hK' _ _ ?_⟩) <;> clear hK' K' <;> (first | (show alist _ _ _ _ _ _; skip) | (intro s hs; cases hs; done) | assumption | (simp; done) | omega | (simp; omega) | skip)))) | refine al_e rfl rfl ?_ | refine al_u rfl rfl ?_ | ((fail_if_success (refine al_t rfl rfl fun K' hK' => ?_)); refine al_s _ rfl rfl rfl (fun hb => ?_) (fun hb => ?_)))); all_goals (refine al_nil ?_; (simp only [go_sem, simprocAttr, List.length_map, hx, hnn, hi2, Int.toNat_natCast, List.getElem?_map, Option.map_some, hnx]); refine hK _ ?_; clear hK K))
      refine ⟨_, ?_, i + 1, hi2, rfl, fun j y hj hy => ?_, ?_⟩
      · omega
      · rcases Nat.lt_succ_iff_lt_or_eq.1 hj with h | rfl
        · exact hbefore j y h hy
        · rw [hx] at hy; cases hy; exact hne
      · rfl

  · refine awp_exit ?_
    have hie : i = ls.length := by simp at hc; omega
    rw [firstAt_none (fun j y hy => hbefore j y (by rw [hie]; exact lt_of_get hy) hy)] at hR
    clear hK
    refine hK _ ?_; clear hK K
    (refine awp_reg_seq [4] fun K hK => ?_; (repeat' (first | ((first | refine al_r rfl fun K' hK' => ?_ | refine al_d rfl fun K' hK' => ?_ | refine al_t rfl rfl fun K' hK' => ?_); (repeat (first | (simp only [go_sem, simprocAttr, List.length_map]) | refine AS.mk ?_ | refine AAp.grow ?_)); (first | ((first | refine hK' _ _ ?_ | refine ⟨?_, hK' _ _ ?_⟩ | refine ⟨?_, ?_, hK' _ _ ?_⟩ | refine ⟨?_, ?_, ?_, hK' _ _ ?_⟩) <;> clear hK' K' <;> (first | (show alist _ _ _ _ _ _; skip) | (intro s hs; cases hs; done) | assumption | (simp; done) | omega | (simp; omega) | skip)))) | refine al_e rfl rfl ?_ | refine al_u rfl rfl ?_ | ((fail_if_success (refine al_t rfl rfl fun K' hK' => ?_)); refine al_s _ rfl rfl rfl (fun hb => ?_) (fun hb => ?_)))); all_goals (refine al_nil ?_; (simp only [go_sem, simprocAttr, List.length_map]); refine hK _ ?_; clear hK K))
    all_goals (refine awp_ret ?_; (first | refine hR _ _ (.inl rfl) rfl ?_ | refine hR _ _ (.inl rfl) rfl ?_ ?_); (first | (simp only [go_sem, simprocAttr, List.length_map, *, Bool.and_true, Bool.and_false, Bool.true_and, Bool.false_and, Bool.or_true, Bool.true_or, Bool.or_false, Bool.false_or, Bool.not_true, Bool.not_false, Bool.false_eq_true]; done) | contradiction | (simp_all; done) | simp only [go_sem, simprocAttr, List.length_map, *, Bool.and_true, Bool.and_false, Bool.true_and, Bool.false_and, Bool.or_true, Bool.true_or, Bool.or_false, Bool.false_or, Bool.not_true, Bool.not_false, Bool.false_eq_true]))


theorem contains (ls : List Int) (hlen : ls.length ≤ maxLen) (v : Int) : ACallP Try.prog 21 [ints ls, iD v] (bD (decide (firstAt (fun n => v == n) ls ≥ 0))) := by
  have hix := indexI ls hlen v
  refine acallp_fn [4] Try.func21 rfl rfl Try.ntmps21 (by simp) fun R hR => ?_
  (refine awp_reg_seq [0, 1] fun K hK => ?_; (repeat' (first | ((first | refine al_r rfl fun K' hK' => ?_ | refine al_d rfl fun K' hK' => ?_ | refine al_t rfl rfl fun K' hK' => ?_); (repeat (first | (simp only [go_sem, simprocAttr]) | refine AS.mk ?_ | refine AAp.grow ?_)); (first | ((first | refine hK' _ _ ?_ | refine ⟨?_, hK' _ _ ?_⟩ | refine ⟨?_, ?_, hK' _ _ ?_⟩ | refine ⟨?_, ?_, ?_, hK' _ _ ?_⟩) <;> clear hK' K' <;> (first | (show alist _ _ _ _ _ _; skip) | (intro s hs; cases hs; done) | assumption | (simp; done) | omega | (simp; omega) | skip)))) | refine al_e rfl rfl ?_ | refine al_u rfl rfl ?_ | ((fail_if_success (refine al_t rfl rfl fun K' hK' => ?_)); refine al_s _ rfl rfl rfl (fun hb => ?_) (fun hb => ?_)))); all_goals (refine al_nil ?_; (simp only [go_sem, simprocAttr]); refine hK _ ?_; clear hK K))
  (refine awp_reg_seq [4] fun K hK => ?_; (repeat' (first | ((first | refine al_r rfl fun K' hK' => ?_ | refine al_d rfl fun K' hK' => ?_ | refine al_t rfl rfl fun K' hK' => ?_); (repeat (first | (simp only [go_sem, simprocAttr]) | refine AS.mk ?_ | refine AAp.grow ?_)); (first | ((first | refine hK' _ _ ?_ | refine ⟨?_, hK' _ _ ?_⟩ | refine ⟨?_, ?_, hK' _ _ ?_⟩ | refine ⟨?_, ?_, ?_, hK' _ _ ?_⟩) <;> clear hK' K' <;> (first | (show alist _ _ _ _ _ _; skip) | (intro s hs; cases hs; done) | assumption | (simp; done) | omega | (simp; omega) | skip)) | ((show AC _ _ (D.fn 37 _) _ _); refine acall_p (f := 37) (e := rfl) (hr := rfl) (k := hK' _ _ ?_) (hc := Try.call37) (h := hix); clear hK' K'))) | refine al_e rfl rfl ?_ | refine al_u rfl rfl ?_ | ((fail_if_success (refine al_t rfl rfl fun K' hK' => ?_)); refine al_s _ rfl rfl rfl (fun hb => ?_) (fun hb => ?_)))); all_goals (refine al_nil ?_; (simp only [go_sem, simprocAttr]); refine hK _ ?_; clear hK K))
  all_goals (refine awp_ret ?_; (first | refine hR _ _ (.inl rfl) rfl ?_ | refine hR _ _ (.inl rfl) rfl ?_ ?_); (first | (simp only [go_sem, simprocAttr, *, Bool.and_true, Bool.and_false, Bool.true_and, Bool.false_and, Bool.or_true, Bool.true_or, Bool.or_false, Bool.false_or, Bool.not_true, Bool.not_false, Bool.false_eq_true]; done) | contradiction | (simp_all; done) | simp only [go_sem, simprocAttr, *, Bool.and_true, Bool.and_false, Bool.true_and, Bool.false_and, Bool.or_true, Bool.true_or, Bool.or_false, Bool.false_or, Bool.not_true, Bool.not_false, Bool.false_eq_true]))


theorem has_of {l : List Int} {v : Int} : decide (firstAt (fun n => v == n) l ≥ 0) = l.any (fun n => v == n) := firstAt_nonneg

def sumLen : List (List Int) → Nat
  | [] => 0
  | x :: l => x.length + sumLen l

def hasT (task : Int) (ls : List (List Int)) : Bool := ls.any fun x => x.any fun n => task == n

theorem hasT_cons (task : Int) (x : List Int) (l : List (List Int)) : hasT task (x :: l) = ((x.any fun n => task == n) || hasT task l) := rfl

theorem scanS_sum {ls : List (List Int)} : ∀ {n : Int} {seen : List Int}, 0 ≤ n → n ≤ 100 → scanS n seen ls = 0 → n + sumLen ls ≤ 100 := by
  induction ls with
  | nil => intro n seen h0 h1 _; simp [sumLen]; omega
  | cons y l ih =>
    intro n seen h0 h1 h
    unfold scanS at h
    split at h
    · cases h
    · rename_i h2
      simp at h2
      split at h
      · cases h
      · have := ih (by omega) (by omega) h
        simp only [sumLen]
        omega

theorem checkS_sum {ls : List (List Int)} (h : checkS ls = 0) : sumLen ls ≤ 100 := by
  unfold checkS at h
  split at h
  · cases h
  · have := scanS_sum (Int.le_refl 0) (by omega) h
    omega

/-- What Push answers. -/
def pushS (ls : List (List Int)) (cpu task : Int) : List (List Int) × Int :=
  if checkC ls cpu != 0 then ([], checkC ls cpu) else if hasT task ls then ([], 5) else if ((sumLen ls : Nat) : Int) == 100 then ([], 6) else
  match ls[cpu.toNat]? with
  | some x => (ls.set cpu.toNat (x ++ [task]), 0)
  | none => ([], 0)

theorem cells_pv (ls : List (List Int)) (ids : List Nat) (obs : List Ob) (c k m : Nat) (X : List (List PV)) (hk : idx ids k = none) (ho : obs[k]? = some (.row 1 X)) :
    toPVs (List.map (giveRow ids obs) ((lcells ls).set c (.ref k 0 m))) = some ((ls.map fun l => PV.sl (l.map irow)).set c (.sl ((X.drop 0).take m))) := by
  have h1 : (lcells ls).map (giveRow ids obs) = (ls.map fun l => PV.sl (l.map irow)).map D.p := by
    unfold lcells
    rw [List.map_map, List.map_map]
    exact List.map_congr_left fun _ _ => rfl
  have h2 : giveRow ids obs (.ref k 0 m) = .p (.sl ((X.drop 0).take m)) := by
    simp only [giveRow, hk, ho]
  rw [List.map_set, h1, h2, ← List.map_set]
  exact toPVs_map _

theorem chunk_lines (ls : List (List Int)) (c : Nat) (x : List Int) (task : Int) {X : List (List PV)} (hX : X = x.map irow ++ [irow task]) :
    chunk 1 ls.length ((ls.map fun l => PV.sl (l.map irow)).set c (.sl ((X.drop 0).take (x.length + 1)))) = (ls.set c (x ++ [task])).map lrow := by
  have h1 : (X.drop 0).take (x.length + 1) = (x ++ [task]).map irow := by
    rw [hX, List.drop_zero, List.take_of_length_le (by simp), List.map_append]; rfl
  have h2 : ls.length = ((ls.map fun l => PV.sl (l.map irow)).set c (.sl ((X.drop 0).take (x.length + 1)))).length := by simp
  conv => lhs; rw [h2]
  rw [chunk_one, List.map_set, List.map_map, List.map_set, h1]
  rfl

theorem back_cells (ids : List Nat) (n : Nat) (ls : List (List Int)) : (lcells ls).map (D.map (back ids n)) = lcells ls := by
  unfold lcells
  rw [List.map_map]
  exact List.map_congr_left fun _ _ => rfl


theorem push (ls : List (List Int)) (cpu task : Int) (hf : Fits ls) : ACallP Try.prog 22 [lines ls, iD cpu, iD task] (.tup [lines (pushS ls cpu task).1, iD (pushS ls cpu task).2]) := by
  have hck := checkCpu ls cpu hf
  have hok := checkC_ok (ls := ls) (cpu := cpu)
  obtain ⟨R0, hR0⟩ : ∃ R0, R0 = pushS ls cpu task := ⟨_, rfl⟩
  have hv : R0 = if checkC ls cpu != 0 then ([], checkC ls cpu) else if hasT task ls then ([], 5) else if ((sumLen ls : Nat) : Int) == 100 then ([], 6) else
    match ls[cpu.toNat]? with
    | some x => (ls.set cpu.toNat (x ++ [task]), 0)
    | none => ([], 0) := hR0
  rw [← hR0]
  clear hR0
  generalize checkC ls cpu = e at hck hok hv
  refine acallp_fn [6, 7] Try.func22 rfl rfl Try.ntmps22 (by simp) fun R hR => ?_
  (refine awp_reg_seq [0, 1, 2] fun K hK => ?_; (repeat' (first | ((first | refine al_r rfl fun K' hK' => ?_ | refine al_d rfl fun K' hK' => ?_ | refine al_t rfl rfl fun K' hK' => ?_); (repeat (first | (simp only [go_sem, simprocAttr, List.length_map]) | refine AS.mk ?_ | refine AAp.grow ?_)); (first | ((first | refine hK' _ _ ?_ | refine ⟨?_, hK' _ _ ?_⟩ | refine ⟨?_, ?_, hK' _ _ ?_⟩ | refine ⟨?_, ?_, ?_, hK' _ _ ?_⟩) <;> clear hK' K' <;> (first | (show alist _ _ _ _ _ _; skip) | (intro s hs; cases hs; done) | assumption | (simp; done) | omega | (simp; omega) | skip)))) | refine al_e rfl rfl ?_ | refine al_u rfl rfl ?_ | ((fail_if_success (refine al_t rfl rfl fun K' hK' => ?_)); refine al_s _ rfl rfl rfl (fun hb => ?_) (fun hb => ?_)))); all_goals (refine al_nil ?_; (simp only [go_sem, simprocAttr, List.length_map]); refine hK _ ?_; clear hK K))
  refine awp_seq_k fun K hK => ?_
  (refine awp_reg_seq [0, 1, 2, 8] fun K hK => ?_; (repeat' (first | ((first | refine al_r rfl fun K' hK' => ?_ | refine al_d rfl fun K' hK' => ?_ | refine al_t rfl rfl fun K' hK' => ?_); (repeat (first | (simp only [go_sem, simprocAttr, List.length_map]) | refine AS.mk ?_ | refine AAp.grow ?_)); (first | ((first | refine hK' _ _ ?_ | refine ⟨?_, hK' _ _ ?_⟩ | refine ⟨?_, ?_, hK' _ _ ?_⟩ | refine ⟨?_, ?_, ?_, hK' _ _ ?_⟩) <;> clear hK' K' <;> (first | (show alist _ _ _ _ _ _; skip) | (intro s hs; cases hs; done) | assumption | (simp; done) | omega | (simp; omega) | skip)) | ((show AC _ _ (D.fn 38 _) _ _); refine acall_p (f := 38) (e := rfl) (hr := rfl) (k := hK' _ _ ?_) (hc := Try.call38) (h := hck); clear hK' K'))) | refine al_e rfl rfl ?_ | refine al_u rfl rfl ?_ | ((fail_if_success (refine al_t rfl rfl fun K' hK' => ?_)); refine al_s _ rfl rfl rfl (fun hb => ?_) (fun hb => ?_)))); all_goals (refine al_nil ?_; (simp only [go_sem, simprocAttr, List.length_map]); refine hK _ ?_; clear hK K))
  (refine awp_reg_seq [0, 1, 2, 8, 17] fun K hK => ?_; (repeat' (first | ((first | refine al_r rfl fun K' hK' => ?_ | refine al_d rfl fun K' hK' => ?_ | refine al_t rfl rfl fun K' hK' => ?_); (repeat (first | (simp only [go_sem, simprocAttr, List.length_map]) | refine AS.mk ?_ | refine AAp.grow ?_)); (first | ((first | refine hK' _ _ ?_ | refine ⟨?_, hK' _ _ ?_⟩ | refine ⟨?_, ?_, hK' _ _ ?_⟩ | refine ⟨?_, ?_, ?_, hK' _ _ ?_⟩) <;> clear hK' K' <;> (first | (show alist _ _ _ _ _ _; skip) | (intro s hs; cases hs; done) | assumption | (simp; done) | omega | (simp; omega) | skip)))) | refine al_e rfl rfl ?_ | refine al_u rfl rfl ?_ | ((fail_if_success (refine al_t rfl rfl fun K' hK' => ?_)); refine al_s _ rfl rfl rfl (fun hb => ?_) (fun hb => ?_)))); all_goals (refine al_nil ?_; (simp only [go_sem, simprocAttr, List.length_map]); refine hK _ ?_; clear hK K))
  refine awp_if (_) rfl (fun hc => ?_) (fun hc => ?_)
  · (refine awp_reg_seq [6, 7] fun K hK => ?_; (repeat' (first | ((first | refine al_r rfl fun K' hK' => ?_ | refine al_d rfl fun K' hK' => ?_ | refine al_t rfl rfl fun K' hK' => ?_); (repeat (first | (simp only [go_sem, simprocAttr, List.length_map]) | refine AS.mk ?_ | refine AAp.grow ?_)); (first | ((first | refine hK' _ _ ?_ | refine ⟨?_, hK' _ _ ?_⟩ | refine ⟨?_, ?_, hK' _ _ ?_⟩ | refine ⟨?_, ?_, ?_, hK' _ _ ?_⟩) <;> clear hK' K' <;> (first | (show alist _ _ _ _ _ _; skip) | (intro s hs; cases hs; done) | assumption | (simp; done) | omega | (simp; omega) | skip)))) | refine al_e rfl rfl ?_ | refine al_u rfl rfl ?_ | ((fail_if_success (refine al_t rfl rfl fun K' hK' => ?_)); refine al_s _ rfl rfl rfl (fun hb => ?_) (fun hb => ?_)))); all_goals (refine al_nil ?_; (simp only [go_sem, simprocAttr, List.length_map]); refine hK _ ?_; clear hK K))
    refine awp_ret ?_; (first | refine hR _ _ (.inl rfl) rfl ?_ | refine hR _ _ (.inl rfl) rfl ?_ ?_)
    rw [if_pos hc] at hv
    rw [hv]
    simp only [go_sem, simprocAttr, List.length_map]
    rfl
  · have hc0 := hc
    have he : e = 0 := by simpa using hc
    obtain ⟨hcs, hn1, hn8, c, rfl, hcl⟩ := hok he
    obtain ⟨_, hlens⟩ := checkS_len hcs
    have hsum := checkS_sum hcs
    rw [if_neg (by rw [hc0]; simp)] at hv
    obtain ⟨h, hh⟩ : ∃ h, h = hasT task ls := ⟨_, rfl⟩
    rw [← hh] at hv
    refine awp_skip ?_
    refine hK _ ?_; clear hK K
    (refine awp_reg_seq [0, 1, 2, 9] fun K hK => ?_; (repeat' (first | ((first | refine al_r rfl fun K' hK' => ?_ | refine al_d rfl fun K' hK' => ?_ | refine al_t rfl rfl fun K' hK' => ?_); (repeat (first | (simp only [go_sem, simprocAttr, List.length_map]) | refine AS.mk ?_ | refine AAp.grow ?_)); (first | ((first | refine hK' _ _ ?_ | refine ⟨?_, hK' _ _ ?_⟩ | refine ⟨?_, ?_, hK' _ _ ?_⟩ | refine ⟨?_, ?_, ?_, hK' _ _ ?_⟩) <;> clear hK' K' <;> (first | (show alist _ _ _ _ _ _; skip) | (intro s hs; cases hs; done) | assumption | (simp; done) | omega | (simp; omega) | skip)))) | refine al_e rfl rfl ?_ | refine al_u rfl rfl ?_ | ((fail_if_success (refine al_t rfl rfl fun K' hK' => ?_)); refine al_s _ rfl rfl rfl (fun hb => ?_) (fun hb => ?_)))); all_goals (refine al_nil ?_; (simp only [go_sem, simprocAttr, List.length_map]); refine hK _ ?_; clear hK K))
    refine awp_seq_k fun K hK => ?_
    (refine awp_reg_seq [0, 1, 2, 9, 19, 20, 21] fun K hK => ?_; (repeat' (first | ((first | refine al_r rfl fun K' hK' => ?_ | refine al_d rfl fun K' hK' => ?_ | refine al_t rfl rfl fun K' hK' => ?_); (repeat (first | (simp only [go_sem, simprocAttr, List.length_map]) | refine AS.mk ?_ | refine AAp.grow ?_)); (first | ((first | refine hK' _ _ ?_ | refine ⟨?_, hK' _ _ ?_⟩ | refine ⟨?_, ?_, hK' _ _ ?_⟩ | refine ⟨?_, ?_, ?_, hK' _ _ ?_⟩) <;> clear hK' K' <;> (first | (show alist _ _ _ _ _ _; skip) | (intro s hs; cases hs; done) | assumption | (simp; done) | omega | (simp; omega) | skip)))) | refine al_e rfl rfl ?_ | refine al_u rfl rfl ?_ | ((fail_if_success (refine al_t rfl rfl fun K' hK' => ?_)); refine al_s _ rfl rfl rfl (fun hb => ?_) (fun hb => ?_)))); all_goals (refine al_nil ?_; (simp only [go_sem, simprocAttr, List.length_map]); refine hK _ ?_; clear hK K))
    refine awp_block ?_
    -- loop 0 head [0, 1, 2, 9, 19, 20, 21]
    refine awp_loop (fun m s => ∃ (i n : Nat), i ≤ ls.length ∧ m = ls.length - i ∧ n + sumLen (ls.drop i) = sumLen ls ∧ h = hasT task (ls.drop i) ∧ s = ⟨ofL [(0, lines ls), (1, iD c), (2, iD task), (9, iD n), (19, lines ls), (20, iD ls.length), (21, iD i)], [], 0⟩) ⟨_, 0, 0, Nat.zero_le _, rfl, by simp, by simpa using hh, rfl⟩ ?_
    clear hh
    rintro m s ⟨i, n, hi, rfl, hn, hh, rfl⟩
    (refine awp_reg_seq [0, 1, 2, 9, 19, 20, 21, 22] fun K hK => ?_; (repeat' (first | ((first | refine al_r rfl fun K' hK' => ?_ | refine al_d rfl fun K' hK' => ?_ | refine al_t rfl rfl fun K' hK' => ?_); (repeat (first | (simp only [go_sem, simprocAttr, List.length_map]) | refine AS.mk ?_ | refine AAp.grow ?_)); (first | ((first | refine hK' _ _ ?_ | refine ⟨?_, hK' _ _ ?_⟩ | refine ⟨?_, ?_, hK' _ _ ?_⟩ | refine ⟨?_, ?_, ?_, hK' _ _ ?_⟩) <;> clear hK' K' <;> (first | (show alist _ _ _ _ _ _; skip) | (intro s hs; cases hs; done) | assumption | (simp; done) | omega | (simp; omega) | skip)))) | refine al_e rfl rfl ?_ | refine al_u rfl rfl ?_ | ((fail_if_success (refine al_t rfl rfl fun K' hK' => ?_)); refine al_s _ rfl rfl rfl (fun hb => ?_) (fun hb => ?_)))); all_goals (refine al_nil ?_; (simp only [go_sem, simprocAttr, List.length_map]); refine hK _ ?_; clear hK K))
    refine awp_seq_k fun K hK => ?_
    refine awp_if (decide ((i : Int) < ls.length)) rfl (fun hc => ?_) (fun hc => ?_)
    · refine awp_skip ?_
      refine hK _ ?_; clear hK K
      refine awp_seq_k fun K hK => ?_
      refine awp_block ?_
      have hi2 : i < ls.length := by simpa using hc
      obtain ⟨y, hget⟩ := get_of_lt hi2
      have hyl := hlens y (List.mem_of_getElem? hget)
      have hnn : (0 : Int) ≤ (i : Int) := Int.natCast_nonneg i
      rw [drop_of hget] at hn hh
      rw [hasT_cons] at hh
      simp only [sumLen] at hn
      have hnw : IntKind.i64.wrap ((n : Int) + (y.length : Int)) = ((n + y.length : Nat) : Int) := by rw [wrap_small (by omega) (by omega)]; rfl
      have hix : IntKind.i64.wrap ((i : Int) + 1) = ((i + 1 : Nat) : Int) := by rw [wrap_small (by omega) (by omega)]; rfl
      have hcon := contains y (by simp [maxLen]; omega) task
      rw [has_of] at hcon
      generalize (y.any fun n => task == n) = dd at hcon hh

      (refine awp_reg_seq [0, 1, 2, 9, 11, 19, 20, 21] fun K hK => ?_; (repeat' (first | ((first | refine al_r rfl fun K' hK' => ?_ | refine al_d rfl fun K' hK' => ?_ | refine al_t rfl rfl fun K' hK' => ?_); (repeat (first | (simp only [go_sem, simprocAttr, hget, hnn, Int.toNat_natCast, List.getElem?_map, Option.map_some, List.length_map, hnw, hix]) | refine AS.mk ?_ | refine AAp.grow ?_)); (first | ((first | refine hK' _ _ ?_ | refine ⟨?_, hK' _ _ ?_⟩ | refine ⟨?_, ?_, hK' _ _ ?_⟩ | refine ⟨?_, ?_, ?_, hK' _ _ ?_⟩) <;> clear hK' K' <;> (first | (show alist _ _ _ _ _ _; skip) | (intro s hs; cases hs; done) | assumption | (simp; done) | omega | (simp; omega) | skip)))) | refine al_e rfl rfl ?_ | refine al_u rfl rfl ?_ | ((fail_if_success (refine al_t rfl rfl fun K' hK' => ?_)); refine al_s _ rfl rfl rfl (fun hb => ?_) (fun hb => ?_)))); all_goals (refine al_nil ?_; (simp only [go_sem, simprocAttr, hget, hnn, Int.toNat_natCast, List.getElem?_map, Option.map_some, List.length_map, hnw, hix]); refine hK _ ?_; clear hK K))
      (refine awp_reg_seq [0, 1, 2, 9, 11, 19, 20, 21] fun K hK => ?_; (repeat' (first | ((first | refine al_r rfl fun K' hK' => ?_ | refine al_d rfl fun K' hK' => ?_ | refine al_t rfl rfl fun K' hK' => ?_); (repeat (first | (simp only [go_sem, simprocAttr, hget, hnn, Int.toNat_natCast, List.getElem?_map, Option.map_some, List.length_map, hnw, hix]) | refine AS.mk ?_ | refine AAp.grow ?_)); (first | ((first | refine hK' _ _ ?_ | refine ⟨?_, hK' _ _ ?_⟩ | refine ⟨?_, ?_, hK' _ _ ?_⟩ | refine ⟨?_, ?_, ?_, hK' _ _ ?_⟩) <;> clear hK' K' <;> (first | (show alist _ _ _ _ _ _; skip) | (intro s hs; cases hs; done) | assumption | (simp; done) | omega | (simp; omega) | skip)))) | refine al_e rfl rfl ?_ | refine al_u rfl rfl ?_ | ((fail_if_success (refine al_t rfl rfl fun K' hK' => ?_)); refine al_s _ rfl rfl rfl (fun hb => ?_) (fun hb => ?_)))); all_goals (refine al_nil ?_; (simp only [go_sem, simprocAttr, hget, hnn, Int.toNat_natCast, List.getElem?_map, Option.map_some, List.length_map, hnw, hix]); refine hK _ ?_; clear hK K))
      (refine awp_reg_seq [0, 1, 2, 9, 19, 20, 21, 31] fun K hK => ?_; (repeat' (first | ((first | refine al_r rfl fun K' hK' => ?_ | refine al_d rfl fun K' hK' => ?_ | refine al_t rfl rfl fun K' hK' => ?_); (repeat (first | (simp only [go_sem, simprocAttr, hget, hnn, Int.toNat_natCast, List.getElem?_map, Option.map_some, List.length_map, hnw, hix]) | refine AS.mk ?_ | refine AAp.grow ?_)); (first | ((first | refine hK' _ _ ?_ | refine ⟨?_, hK' _ _ ?_⟩ | refine ⟨?_, ?_, hK' _ _ ?_⟩ | refine ⟨?_, ?_, ?_, hK' _ _ ?_⟩) <;> clear hK' K' <;> (first | (show alist _ _ _ _ _ _; skip) | (intro s hs; cases hs; done) | assumption | (simp; done) | omega | (simp; omega) | skip)) | ((show AC _ _ (D.fn 21 _) _ _); refine acall_p (f := 21) (e := rfl) (hr := rfl) (k := hK' _ _ ?_) (hc := Try.call21) (h := hcon); clear hK' K'))) | refine al_e rfl rfl ?_ | refine al_u rfl rfl ?_ | ((fail_if_success (refine al_t rfl rfl fun K' hK' => ?_)); refine al_s _ rfl rfl rfl (fun hb => ?_) (fun hb => ?_)))); all_goals (refine al_nil ?_; (simp only [go_sem, simprocAttr, hget, hnn, Int.toNat_natCast, List.getElem?_map, Option.map_some, List.length_map, hnw, hix]); refine hK _ ?_; clear hK K))
      refine awp_if (_) rfl (fun hc => ?_) (fun hc => ?_)
      · (refine awp_reg_seq [6, 7] fun K hK => ?_; (repeat' (first | ((first | refine al_r rfl fun K' hK' => ?_ | refine al_d rfl fun K' hK' => ?_ | refine al_t rfl rfl fun K' hK' => ?_); (repeat (first | (simp only [go_sem, simprocAttr, hget, hnn, Int.toNat_natCast, List.getElem?_map, Option.map_some, List.length_map, hnw, hix]) | refine AS.mk ?_ | refine AAp.grow ?_)); (first | ((first | refine hK' _ _ ?_ | refine ⟨?_, hK' _ _ ?_⟩ | refine ⟨?_, ?_, hK' _ _ ?_⟩ | refine ⟨?_, ?_, ?_, hK' _ _ ?_⟩) <;> clear hK' K' <;> (first | (show alist _ _ _ _ _ _; skip) | (intro s hs; cases hs; done) | assumption | (simp; done) | omega | (simp; omega) | skip)))) | refine al_e rfl rfl ?_ | refine al_u rfl rfl ?_ | ((fail_if_success (refine al_t rfl rfl fun K' hK' => ?_)); refine al_s _ rfl rfl rfl (fun hb => ?_) (fun hb => ?_)))); all_goals (refine al_nil ?_; (simp only [go_sem, simprocAttr, hget, hnn, Int.toNat_natCast, List.getElem?_map, Option.map_some, List.length_map, hnw, hix]); refine hK _ ?_; clear hK K))
        refine awp_ret ?_; (first | refine hR _ _ (.inl rfl) rfl ?_ | refine hR _ _ (.inl rfl) rfl ?_ ?_)
        have hht : h = true := by rw [hh, hc]; rfl
        rw [if_pos hht] at hv
        rw [hv]
        simp only [go_sem, simprocAttr, hget, hnn, Int.toNat_natCast, List.getElem?_map, Option.map_some, List.length_map, hnw, hix]
        rfl
      · rw [hc, Bool.false_or] at hh
        refine awp_skip ?_
        refine hK _ ?_; clear hK K
        (refine awp_reg_end [0, 1, 2, 9, 19, 20, 21] fun K hK => ?_; (repeat' (first | ((first | refine al_r rfl fun K' hK' => ?_ | refine al_d rfl fun K' hK' => ?_ | refine al_t rfl rfl fun K' hK' => ?_); (repeat (first | (simp only [go_sem, simprocAttr, hget, hnn, Int.toNat_natCast, List.getElem?_map, Option.map_some, List.length_map, hnw, hix]) | refine AS.mk ?_ | refine AAp.grow ?_)); (first | ((first | refine hK' _ _ ?_ | refine ⟨?_, hK' _ _ ?_⟩ | refine ⟨?_, ?_, hK' _ _ ?_⟩ | refine ⟨?_, ?_, ?_, hK' _ _ ?_⟩) <;> clear hK' K' <;> (first | (show alist _ _ _ _ _ _; skip) | (intro s hs; cases hs; done) | assumption | (simp; done) | omega | (simp; omega) | skip)))) | refine al_e rfl rfl ?_ | refine al_u rfl rfl ?_ | ((fail_if_success (refine al_t rfl rfl fun K' hK' => ?_)); refine al_s _ rfl rfl rfl (fun hb => ?_) (fun hb => ?_)))); all_goals (refine al_nil ?_; (simp only [go_sem, simprocAttr, hget, hnn, Int.toNat_natCast, List.getElem?_map, Option.map_some, List.length_map, hnw, hix]); refine hK _ ?_; clear hK K))
        exact ⟨_, by omega, i + 1, n + y.length, hi2, rfl, by omega, hh, rfl⟩

    · have hil : i = ls.length := by simp at hc; omega
      subst hil
      have hhf : h = false := by rw [hh]; simp [hasT]
      rw [if_neg (by rw [hhf]; simp)] at hv
      have hns : n = sumLen ls := by simp [sumLen] at hn; omega
      subst hns
      refine awp_exit ?_
      clear hK
      refine hK _ ?_; clear hK K
      refine awp_seq_k fun K hK => ?_
      (refine awp_reg_seq [0, 1, 2, 34] fun K hK => ?_; (repeat' (first | ((first | refine al_r rfl fun K' hK' => ?_ | refine al_d rfl fun K' hK' => ?_ | refine al_t rfl rfl fun K' hK' => ?_); (repeat (first | (simp only [go_sem, simprocAttr, List.length_map]) | refine AS.mk ?_ | refine AAp.grow ?_)); (first | ((first | refine hK' _ _ ?_ | refine ⟨?_, hK' _ _ ?_⟩ | refine ⟨?_, ?_, hK' _ _ ?_⟩ | refine ⟨?_, ?_, ?_, hK' _ _ ?_⟩) <;> clear hK' K' <;> (first | (show alist _ _ _ _ _ _; skip) | (intro s hs; cases hs; done) | assumption | (simp; done) | omega | (simp; omega) | skip)))) | refine al_e rfl rfl ?_ | refine al_u rfl rfl ?_ | ((fail_if_success (refine al_t rfl rfl fun K' hK' => ?_)); refine al_s _ rfl rfl rfl (fun hb => ?_) (fun hb => ?_)))); all_goals (refine al_nil ?_; (simp only [go_sem, simprocAttr, List.length_map]); refine hK _ ?_; clear hK K))
      refine awp_if (_) rfl (fun hc => ?_) (fun hc => ?_)
      · (refine awp_reg_seq [6, 7] fun K hK => ?_; (repeat' (first | ((first | refine al_r rfl fun K' hK' => ?_ | refine al_d rfl fun K' hK' => ?_ | refine al_t rfl rfl fun K' hK' => ?_); (repeat (first | (simp only [go_sem, simprocAttr, List.length_map]) | refine AS.mk ?_ | refine AAp.grow ?_)); (first | ((first | refine hK' _ _ ?_ | refine ⟨?_, hK' _ _ ?_⟩ | refine ⟨?_, ?_, hK' _ _ ?_⟩ | refine ⟨?_, ?_, ?_, hK' _ _ ?_⟩) <;> clear hK' K' <;> (first | (show alist _ _ _ _ _ _; skip) | (intro s hs; cases hs; done) | assumption | (simp; done) | omega | (simp; omega) | skip)))) | refine al_e rfl rfl ?_ | refine al_u rfl rfl ?_ | ((fail_if_success (refine al_t rfl rfl fun K' hK' => ?_)); refine al_s _ rfl rfl rfl (fun hb => ?_) (fun hb => ?_)))); all_goals (refine al_nil ?_; (simp only [go_sem, simprocAttr, List.length_map]); refine hK _ ?_; clear hK K))
        refine awp_ret ?_; (first | refine hR _ _ (.inl rfl) rfl ?_ | refine hR _ _ (.inl rfl) rfl ?_ ?_)
        rw [if_pos hc] at hv
        rw [hv]
        simp only [go_sem, simprocAttr, List.length_map]
        rfl
      · rw [if_neg (by rw [hc]; simp)] at hv
        obtain ⟨x, hx⟩ := get_of_lt hcl
        rw [Int.toNat_natCast, hx] at hv
        have hxl := hlens x (List.mem_of_getElem? hx)
        have hcp := copiedOwn ls (by omega) (fun z hz => by have := hlens z hz; omega) c x hx
        have hcn : (0 : Int) ≤ (c : Int) := Int.natCast_nonneg c
        have hcl2 : (c : Int) < (ls.length : Int) := by omega
        have hLl : ∀ d : D, ((lcells ls).set c d).length = ls.length := fun d => by simp [lcells]
        have hdr : (List.drop c ((lcells ls).set c (.ref 1 0 x.length)))[0]? = some (.ref 1 0 x.length) := by
          rw [List.getElem?_drop]; exact List.getElem?_set_self (by simpa [lcells] using hcl)
        have hput : ∀ d d' : D, List.take c ((lcells ls).set c d) ++ [d'] ++ List.drop (c + 1) ((lcells ls).set c d) = (lcells ls).set c d' := fun d d' => by
          rw [put_set (by rw [hLl]; exact hcl), List.set_set]
        have hbk : D.mapL (back [] 0) ((lcells ls).set c (.ref 1 0 x.length)) = (lcells ls).set c (.ref 1 0 x.length) := by rw [D.mapL_eq, List.map_set, back_cells]; rfl
        have hfit : (x.length + 1) * 8 ≤ 140737488355328 := by omega
        have hc1 : c + 1 ≤ ls.length := hcl
        have htk : List.take x.length (x.map irow) = x.map irow := List.take_of_length_le (by simp)
        refine awp_skip ?_
        refine hK _ ?_; clear hK K

        (refine awp_reg_seq [1, 2, 12] fun K hK => ?_; (repeat' (first | ((first | refine al_r rfl fun K' hK' => ?_ | refine al_d rfl fun K' hK' => ?_ | refine al_t rfl rfl fun K' hK' => ?_); (repeat (first | (simp only [go_sem, simprocAttr, hcn, hcl2, hcl, Int.toNat_natCast, List.getElem?_map, Option.map_some, List.length_map, hLl, hdr, hput, hfit, hc1, htk, hbk, Nat.mul_one, List.drop_zero]) | refine AS.mk ?_ | refine AAp.grow ?_)); (first | ((first | refine hK' _ _ ?_ | refine ⟨?_, hK' _ _ ?_⟩ | refine ⟨?_, ?_, hK' _ _ ?_⟩ | refine ⟨?_, ?_, ?_, hK' _ _ ?_⟩) <;> clear hK' K' <;> (first | (show alist _ _ _ _ _ _; skip) | (intro s hs; cases hs; done) | assumption | (simp; done) | omega | (simp; omega) | skip)) | ((show AC _ _ (D.fn 39 _) _ _); refine acall_new (f := 39) Try.call39 hcp rfl ?_; rintro r obs' ⟨rfl, rfl⟩; (simp only [go_sem, simprocAttr, hcn, hcl2, hcl, Int.toNat_natCast, List.getElem?_map, Option.map_some, List.length_map, hLl, hdr, hput, hfit, hc1, htk, hbk, Nat.mul_one, List.drop_zero]); refine hK' _ _ ?_; clear hK' K'))) | refine al_e rfl rfl ?_ | refine al_u rfl rfl ?_ | ((fail_if_success (refine al_t rfl rfl fun K' hK' => ?_)); refine al_s _ rfl rfl rfl (fun hb => ?_) (fun hb => ?_)))); all_goals (refine al_nil ?_; (simp only [go_sem, simprocAttr, hcn, hcl2, hcl, Int.toNat_natCast, List.getElem?_map, Option.map_some, List.length_map, hLl, hdr, hput, hfit, hc1, htk, hbk, Nat.mul_one, List.drop_zero]); refine hK _ ?_; clear hK K))
        (refine awp_reg_seq [12] fun K hK => ?_; (repeat' (first | ((first | refine al_r rfl fun K' hK' => ?_ | refine al_d rfl fun K' hK' => ?_ | refine al_t rfl rfl fun K' hK' => ?_); (repeat (first | (simp only [go_sem, simprocAttr, hcn, hcl2, hcl, Int.toNat_natCast, List.getElem?_map, Option.map_some, List.length_map, hLl, hdr, hput, hfit, hc1, htk, hbk, Nat.mul_one, List.drop_zero]) | refine AS.mk ?_ | refine AAp.grow ?_)); (first | ((first | refine hK' _ _ ?_ | refine ⟨?_, hK' _ _ ?_⟩ | refine ⟨?_, ?_, hK' _ _ ?_⟩ | refine ⟨?_, ?_, ?_, hK' _ _ ?_⟩) <;> clear hK' K' <;> (first | (show alist _ _ _ _ _ _; skip) | (intro s hs; cases hs; done) | assumption | (simp; done) | omega | (simp; omega) | skip)))) | refine al_e rfl rfl ?_ | refine al_u rfl rfl ?_ | ((fail_if_success (refine al_t rfl rfl fun K' hK' => ?_)); refine al_s _ rfl rfl rfl (fun hb => ?_) (fun hb => ?_)))); all_goals (refine al_nil ?_; (simp only [go_sem, simprocAttr, hcn, hcl2, hcl, Int.toNat_natCast, List.getElem?_map, Option.map_some, List.length_map, hLl, hdr, hput, hfit, hc1, htk, hbk, Nat.mul_one, List.drop_zero]); refine hK _ ?_; clear hK K))
        (refine awp_reg_seq [6, 7] fun K hK => ?_; (repeat' (first | ((first | refine al_r rfl fun K' hK' => ?_ | refine al_d rfl fun K' hK' => ?_ | refine al_t rfl rfl fun K' hK' => ?_); (repeat (first | (simp only [go_sem, simprocAttr, hcn, hcl2, hcl, Int.toNat_natCast, List.getElem?_map, Option.map_some, List.length_map, hLl, hdr, hput, hfit, hc1, htk, hbk, Nat.mul_one, List.drop_zero]) | refine AS.mk ?_ | refine AAp.grow ?_)); (first | ((first | refine hK' _ _ ?_ | refine ⟨?_, hK' _ _ ?_⟩ | refine ⟨?_, ?_, hK' _ _ ?_⟩ | refine ⟨?_, ?_, ?_, hK' _ _ ?_⟩) <;> clear hK' K' <;> (first | (show alist _ _ _ _ _ _; skip) | (intro s hs; cases hs; done) | assumption | (simp; done) | omega | (simp; omega) | skip)))) | refine al_e rfl rfl ?_ | refine al_u rfl rfl ?_ | ((fail_if_success (refine al_t rfl rfl fun K' hK' => ?_)); refine al_s _ rfl rfl rfl (fun hb => ?_) (fun hb => ?_)))); all_goals (refine al_nil ?_; (simp only [go_sem, simprocAttr, hcn, hcl2, hcl, Int.toNat_natCast, List.getElem?_map, Option.map_some, List.length_map, hLl, hdr, hput, hfit, hc1, htk, hbk, Nat.mul_one, List.drop_zero]); refine hK _ ?_; clear hK K))
        refine awp_ret ?_; (first | refine hR _ _ (.inl rfl) rfl ?_ | refine hR _ _ (.inl rfl) rfl ?_ ?_)
        rw [hv]
        simp only [go_sem, simprocAttr, hcn, hcl2, hcl, Int.toNat_natCast, List.getElem?_map, Option.map_some, List.length_map, hLl, hdr, hput, hfit, hc1, htk, hbk, Nat.mul_one, List.drop_zero]
        rw [cells_pv ls [] _ c 3 _ _ rfl rfl]
        simp only
        rw [chunk_lines ls c x task (by rfl)]
end Go.Proofs.Ytjaghpkmbgcabaa.P
