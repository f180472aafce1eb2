/- Somebody watches: a contract. -/
import Derived.Test.YtfjfiemcdnicoaaK11
set_option linter.unusedSimpArgs false
set_option linter.unusedVariables false
set_option maxHeartbeats 1000000
namespace Go.Proofs.Ytfjfiemcdnicoaa.P
open Go.Ab Go.Proofs.Ytfjfiemcdnicoaa.T

theorem flat_set {α : Type} {s : Nat} (y : α) : ∀ {xs : List (List α)} {i j : Nat} {x : List α}, (∀ x, x ∈ xs → x.length = s) → xs[i]? = some x → j < s → xs.flatten.set (i * s + j) y = (xs.set i (x.set j y)).flatten
  | [], _, _, _, _, h, _ => by simp at h
  | z :: xs, 0, j, x, hs, h, hj => by
    simp at h; subst h
    have hz := hs z List.mem_cons_self
    rw [List.set_cons_zero, List.flatten_cons, List.flatten_cons, Nat.zero_mul, Nat.zero_add, List.set_append_left _ _ (by omega)]
  | z :: xs, i + 1, j, x, hs, h, hj => by
    have hz := hs z List.mem_cons_self
    have ih := flat_set y (i := i) (fun w hw => hs w (List.mem_cons_of_mem _ hw)) (by simpa using h) hj
    have e : (i + 1) * s + j = s + (i * s + j) := by rw [Nat.succ_mul]; omega
    rw [List.set_cons_succ, List.flatten_cons, List.flatten_cons, e, List.set_append_right _ _ (by omega), hz, Nat.add_sub_cancel_left, ih]

theorem chunk_flat {s : Nat} : ∀ {xs : List (List PV)}, (∀ x, x ∈ xs → x.length = s) → chunk s xs.length xs.flatten = xs
  | [], _ => rfl
  | x :: xs, h => by
    have hx := h x List.mem_cons_self
    have ih := chunk_flat (xs := xs) fun y hy => h y (List.mem_cons_of_mem _ hy)
    show (List.take s (x ++ xs.flatten)) :: chunk s xs.length (List.drop s (x ++ xs.flatten)) = x :: xs
    rw [List.take_append_of_le_length (by omega), List.take_of_length_le (by omega), List.drop_append_of_le_length (by omega), List.drop_of_length_le (by omega), List.nil_append, ih]

theorem rows_pv2 (ls : List Row) (ids : List Nat) (obs : List Ob) (n k m : Nat) (X : List (List PV)) (hk : idx ids k = none) (ho : obs[k]? = some (.row 1 X)) (n' k' m' : Nat) (X' : List (List PV)) (hk' : idx ids k' = none) (ho' : obs[k']? = some (.row 1 X')) :
    toPVs (List.map (giveRow ids obs) (((rcells ls).set n (.ref k 0 m)).set n' (.ref k' 0 m'))) = some ((((ls.map Row.row).flatten).set n (.sl ((X.drop 0).take m))).set n' (.sl ((X'.drop 0).take m'))) := by
  have h1 : (rcells ls).map (giveRow ids obs) = (ls.map Row.row).flatten.map D.p := by
    unfold rcells cellsOf
    rw [List.map_map]
    exact List.map_congr_left fun _ _ => rfl
  have h2 : giveRow ids obs (.ref k 0 m) = .p (.sl ((X.drop 0).take m)) := by
    simp only [giveRow, hk, ho]
  have h3 : giveRow ids obs (.ref k' 0 m') = .p (.sl ((X'.drop 0).take m')) := by
    simp only [giveRow, hk', ho']
  rw [List.map_set, List.map_set, h1, h2, h3, ← List.map_set, ← List.map_set]
  exact toPVs_map _

theorem chunk_rows2 (ls : List Row) {c : Nat} {x x' : Row} {v v' : PV} (hx : ls[c]? = some x) (hv : (x.row.set 1 v).set 2 v' = x'.row) :
    chunk 3 ls.length ((((ls.map Row.row).flatten).set (c * 3 + 1) v).set (c * 3 + 2) v') = (ls.set c x').map Row.row := by
  have hxr : (ls.map Row.row)[c]? = some x.row := by rw [List.getElem?_map, hx]; rfl
  have hc : c < (ls.map Row.row).length := lt_of_get hxr
  rw [flat_set v (lrow3 ls) hxr (by decide), flat_set v' (x := x.row.set 1 v) (fun y hy => ?_) (List.getElem?_set_self hc) (by decide), List.set_set, hv, List.map_set]
  · have : ls.length = ((ls.map Row.row).set c x'.row).length := by simp
    rw [this]
    refine chunk_flat fun y hy => ?_
    rcases List.mem_or_eq_of_mem_set hy with h | rfl
    · exact lrow3 ls y h
    · rfl
  · rcases List.mem_or_eq_of_mem_set hy with h | rfl
    · exact lrow3 ls y h
    · rw [List.length_set]; rfl

/-- What Watch answers. -/
def watchS (ls : List Row) (by_ ref : Int) : List Row × Int :=
  if (thereS ls ref).2 != 0 then ([], (thereS ls ref).2) else
  match ls[(thereS ls ref).1.toNat]? with
  | some r => if (r.watches.length : Int) == 100 then ([], 6) else (ls.set (thereS ls ref).1.toNat ⟨r.ref, r.watches ++ [by_], r.links⟩, 0)
  | none => ([], 0)


theorem watch (ls : List Row) (by_ ref : Int) (hlen : ls.length ≤ maxLen) : ACallP Try.prog 20 [rows ls, iD by_, iD ref] (.tup [rows (watchS ls by_ ref).1, iD (watchS ls by_ ref).2]) := by
  have hth := there ls ref hlen
  have hok := there_ok (ls := ls) (ref := ref)
  obtain ⟨R0, hR0⟩ : ∃ R0, R0 = watchS ls by_ ref := ⟨_, rfl⟩
  have hv : R0 = if (thereS ls ref).2 != 0 then ([], (thereS ls ref).2) else
    match ls[(thereS ls ref).1.toNat]? with
    | some r => if (r.watches.length : Int) == 100 then ([], 6) else (ls.set (thereS ls ref).1.toNat ⟨r.ref, r.watches ++ [by_], r.links⟩, 0)
    | none => ([], 0) := hR0
  rw [← hR0]
  clear hR0
  generalize (thereS ls ref).2 = e at hth hok hv
  generalize (thereS ls ref).1 = p at hth hok hv
  refine acallp_fn [6, 7] Try.func20 rfl rfl Try.ntmps20 (by simp) fun R hR => ?_
  (refine awp_reg_seq [0, 1, 2] fun K hK => ?_; (repeat' (first | ((first | refine al_r rfl fun K' hK' => ?_ | refine al_d rfl fun K' hK' => ?_ | refine al_t rfl rfl fun K' hK' => ?_); (repeat (first | (simp only [go_sem, simprocAttr, List.length_map]) | refine AS.mk ?_ | refine AAp.grow ?_)); (first | ((first | refine hK' _ _ ?_ | refine ⟨?_, hK' _ _ ?_⟩ | refine ⟨?_, ?_, hK' _ _ ?_⟩ | refine ⟨?_, ?_, ?_, hK' _ _ ?_⟩) <;> clear hK' K' <;> (first | (show alist _ _ _ _ _ _; skip) | (intro s hs; cases hs; done) | assumption | (simp; done) | omega | (simp; omega) | skip)))) | refine al_e rfl rfl ?_ | refine al_u rfl rfl ?_ | ((fail_if_success (refine al_t rfl rfl fun K' hK' => ?_)); refine al_s _ rfl rfl rfl (fun hb => ?_) (fun hb => ?_)))); all_goals (refine al_nil ?_; (simp only [go_sem, simprocAttr, List.length_map]); refine hK _ ?_; clear hK K))
  (refine awp_reg_seq [0, 1, 8, 9] fun K hK => ?_; (repeat' (first | ((first | refine al_r rfl fun K' hK' => ?_ | refine al_d rfl fun K' hK' => ?_ | refine al_t rfl rfl fun K' hK' => ?_); (repeat (first | (simp only [go_sem, simprocAttr, List.length_map]) | refine AS.mk ?_ | refine AAp.grow ?_)); (first | ((first | refine hK' _ _ ?_ | refine ⟨?_, hK' _ _ ?_⟩ | refine ⟨?_, ?_, hK' _ _ ?_⟩ | refine ⟨?_, ?_, ?_, hK' _ _ ?_⟩) <;> clear hK' K' <;> (first | (show alist _ _ _ _ _ _; skip) | (intro s hs; cases hs; done) | assumption | (simp; done) | omega | (simp; omega) | skip)) | ((show AC _ _ (D.fn 38 _) _ _); refine acall_p (f := 38) (e := rfl) (hr := rfl) (k := hK' _ _ ?_) (hc := Try.call38) (h := hth); clear hK' K'))) | refine al_e rfl rfl ?_ | refine al_u rfl rfl ?_ | ((fail_if_success (refine al_t rfl rfl fun K' hK' => ?_)); refine al_s _ rfl rfl rfl (fun hb => ?_) (fun hb => ?_)))); all_goals (refine al_nil ?_; (simp only [go_sem, simprocAttr, List.length_map]); refine hK _ ?_; clear hK K))
  refine awp_seq_k fun K hK => ?_
  refine awp_block ?_
  (refine awp_reg_seq [0, 1, 8, 9, 17] fun K hK => ?_; (repeat' (first | ((first | refine al_r rfl fun K' hK' => ?_ | refine al_d rfl fun K' hK' => ?_ | refine al_t rfl rfl fun K' hK' => ?_); (repeat (first | (simp only [go_sem, simprocAttr, List.length_map]) | refine AS.mk ?_ | refine AAp.grow ?_)); (first | ((first | refine hK' _ _ ?_ | refine ⟨?_, hK' _ _ ?_⟩ | refine ⟨?_, ?_, hK' _ _ ?_⟩ | refine ⟨?_, ?_, ?_, hK' _ _ ?_⟩) <;> clear hK' K' <;> (first | (show alist _ _ _ _ _ _; skip) | (intro s hs; cases hs; done) | assumption | (simp; done) | omega | (simp; omega) | skip)))) | refine al_e rfl rfl ?_ | refine al_u rfl rfl ?_ | ((fail_if_success (refine al_t rfl rfl fun K' hK' => ?_)); refine al_s _ rfl rfl rfl (fun hb => ?_) (fun hb => ?_)))); all_goals (refine al_nil ?_; (simp only [go_sem, simprocAttr, List.length_map]); refine hK _ ?_; clear hK K))
  refine awp_if (_) rfl (fun hc => ?_) (fun hc => ?_)
  · (refine awp_reg_seq [6, 7] fun K hK => ?_; (repeat' (first | ((first | refine al_r rfl fun K' hK' => ?_ | refine al_d rfl fun K' hK' => ?_ | refine al_t rfl rfl fun K' hK' => ?_); (repeat (first | (simp only [go_sem, simprocAttr, List.length_map]) | refine AS.mk ?_ | refine AAp.grow ?_)); (first | ((first | refine hK' _ _ ?_ | refine ⟨?_, hK' _ _ ?_⟩ | refine ⟨?_, ?_, hK' _ _ ?_⟩ | refine ⟨?_, ?_, ?_, hK' _ _ ?_⟩) <;> clear hK' K' <;> (first | (show alist _ _ _ _ _ _; skip) | (intro s hs; cases hs; done) | assumption | (simp; done) | omega | (simp; omega) | skip)))) | refine al_e rfl rfl ?_ | refine al_u rfl rfl ?_ | ((fail_if_success (refine al_t rfl rfl fun K' hK' => ?_)); refine al_s _ rfl rfl rfl (fun hb => ?_) (fun hb => ?_)))); all_goals (refine al_nil ?_; (simp only [go_sem, simprocAttr, List.length_map]); refine hK _ ?_; clear hK K))
    refine awp_ret ?_; (first | refine hR _ _ (.inl rfl) rfl ?_ | refine hR _ _ (.inl rfl) rfl ?_ ?_)
    rw [if_pos hc] at hv
    rw [hv]
    simp only [go_sem, simprocAttr, List.length_map, List.map_nil]
    rfl
  · have he : e = 0 := by simpa using hc
    rw [if_neg (by rw [hc]; simp)] at hv
    obtain ⟨hck, c, x, rfl, hx, _⟩ := hok he
    obtain ⟨h100, hrows, _⟩ := check_ok hck
    have hbr : ∀ z, z ∈ ls → z.watches.length ≤ 1000 ∧ z.links.length ≤ 1000 := fun z hz => by
      obtain ⟨k, hk⟩ := List.getElem?_of_mem hz
      have := (hrows k z hk).1
      unfold badRow at this
      simp at this; omega
    obtain ⟨hxw, hxl⟩ := hbr x (List.mem_of_getElem? hx)
    have hcl := lt_of_get hx
    have hcn : (0 : Int) ≤ (c : Int) := Int.natCast_nonneg c
    have hcl2 : (c : Int) < (ls.length : Int) := by omega
    rw [Int.toNat_natCast, hx] at hv
    simp only at hv
    have hcp := copiedB ls (by omega) hbr c x hx

    (refine awp_reg_seq [0, 1, 8, 21] fun K hK => ?_; (repeat' (first | ((first | refine al_r rfl fun K' hK' => ?_ | refine al_d rfl fun K' hK' => ?_ | refine al_t rfl rfl fun K' hK' => ?_); (repeat (first | (simp only [go_sem, simprocAttr, hx, hcn, hcl, hcl2, Int.toNat_natCast, List.getElem?_map, Option.map_some, List.length_map, Row.row]) | refine AS.mk ?_ | refine AAp.grow ?_)); (first | ((first | refine hK' _ _ ?_ | refine ⟨?_, hK' _ _ ?_⟩ | refine ⟨?_, ?_, hK' _ _ ?_⟩ | refine ⟨?_, ?_, ?_, hK' _ _ ?_⟩) <;> clear hK' K' <;> (first | (show alist _ _ _ _ _ _; skip) | (intro s hs; cases hs; done) | assumption | (simp; done) | omega | (simp; omega) | skip)))) | refine al_e rfl rfl ?_ | refine al_u rfl rfl ?_ | ((fail_if_success (refine al_t rfl rfl fun K' hK' => ?_)); refine al_s _ rfl rfl rfl (fun hb => ?_) (fun hb => ?_)))); all_goals (refine al_nil ?_; (simp only [go_sem, simprocAttr, hx, hcn, hcl, hcl2, Int.toNat_natCast, List.getElem?_map, Option.map_some, List.length_map, Row.row]); refine hK _ ?_; clear hK K))
    refine awp_if ((x.watches.length : Int) == 100) rfl (fun hc => ?_) (fun hc => ?_)
    · (refine awp_reg_seq [6, 7] fun K hK => ?_; (repeat' (first | ((first | refine al_r rfl fun K' hK' => ?_ | refine al_d rfl fun K' hK' => ?_ | refine al_t rfl rfl fun K' hK' => ?_); (repeat (first | (simp only [go_sem, simprocAttr, hx, hcn, hcl, hcl2, Int.toNat_natCast, List.getElem?_map, Option.map_some, List.length_map, Row.row]) | refine AS.mk ?_ | refine AAp.grow ?_)); (first | ((first | refine hK' _ _ ?_ | refine ⟨?_, hK' _ _ ?_⟩ | refine ⟨?_, ?_, hK' _ _ ?_⟩ | refine ⟨?_, ?_, ?_, hK' _ _ ?_⟩) <;> clear hK' K' <;> (first | (show alist _ _ _ _ _ _; skip) | (intro s hs; cases hs; done) | assumption | (simp; done) | omega | (simp; omega) | skip)))) | refine al_e rfl rfl ?_ | refine al_u rfl rfl ?_ | ((fail_if_success (refine al_t rfl rfl fun K' hK' => ?_)); refine al_s _ rfl rfl rfl (fun hb => ?_) (fun hb => ?_)))); all_goals (refine al_nil ?_; (simp only [go_sem, simprocAttr, hx, hcn, hcl, hcl2, Int.toNat_natCast, List.getElem?_map, Option.map_some, List.length_map, Row.row]); refine hK _ ?_; clear hK K))
      refine awp_ret ?_; (first | refine hR _ _ (.inl rfl) rfl ?_ | refine hR _ _ (.inl rfl) rfl ?_ ?_)
      rw [if_pos hc] at hv
      rw [hv]
      simp only [go_sem, simprocAttr, hx, hcn, hcl, hcl2, Int.toNat_natCast, List.getElem?_map, Option.map_some, List.length_map, Row.row, List.map_nil]
      rfl
    · rw [if_neg (by rw [hc]; simp)] at hv
      have hRl := rcells_len ls
      have hLl : ∀ d d' : D, (((rcells ls).set (c * 3 + 1) d).set (c * 3 + 2) d').length = ls.length * 3 := fun d d' => by rw [List.length_set, List.length_set, hRl]
      have hdr : (List.drop (c * 3 + 1) (((rcells ls).set (c * 3 + 1) (.ref 1 0 x.watches.length)).set (c * 3 + 2) (.ref 2 0 x.links.length)))[0]? = some (.ref 1 0 x.watches.length) := by
        rw [List.getElem?_drop]
        show (((rcells ls).set (c * 3 + 1) (.ref 1 0 x.watches.length)).set (c * 3 + 2) (.ref 2 0 x.links.length))[c * 3 + 1]? = _
        rw [List.getElem?_set_ne (by omega)]; exact List.getElem?_set_self (by rw [hRl]; omega)
      have hput : ∀ d' : D, List.take (c * 3 + 1) (((rcells ls).set (c * 3 + 1) (.ref 1 0 x.watches.length)).set (c * 3 + 2) (.ref 2 0 x.links.length)) ++ [d'] ++ List.drop (c * 3 + 1 + 1) (((rcells ls).set (c * 3 + 1) (.ref 1 0 x.watches.length)).set (c * 3 + 2) (.ref 2 0 x.links.length)) = ((rcells ls).set (c * 3 + 1) d').set (c * 3 + 2) (.ref 2 0 x.links.length) := fun d' => by
        rw [put_set (by rw [hLl]; omega), List.set_comm _ _ (by omega), List.set_set]
      have hbk : D.mapL (back [] 0) (((rcells ls).set (c * 3 + 1) (.ref 1 0 x.watches.length)).set (c * 3 + 2) (.ref 2 0 x.links.length)) = ((rcells ls).set (c * 3 + 1) (.ref 1 0 x.watches.length)).set (c * 3 + 2) (.ref 2 0 x.links.length) := by rw [D.mapL_eq, List.map_set, List.map_set, rcells_ren (back [] 0) (fun _ => rfl) ls]; rfl
      have hfit : (x.watches.length + 1) * 8 ≤ 140737488355328 := by omega
      have hc1 : c * 3 + 1 + 1 ≤ ls.length * 3 := by omega
      have htk : List.take x.watches.length (x.watches.map irow) = x.watches.map irow := List.take_of_length_le (by simp)
      refine awp_skip ?_
      refine hK _ ?_; clear hK K
      (refine awp_reg_seq [1, 8, 10] fun K hK => ?_; (repeat' (first | ((first | refine al_r rfl fun K' hK' => ?_ | refine al_d rfl fun K' hK' => ?_ | refine al_t rfl rfl fun K' hK' => ?_); (repeat (first | (simp only [go_sem, simprocAttr, hx, hcn, hcl, hcl2, Int.toNat_natCast, List.getElem?_map, Option.map_some, List.length_map, Row.row]) | refine AS.mk ?_ | refine AAp.grow ?_)); (first | ((first | refine hK' _ _ ?_ | refine ⟨?_, hK' _ _ ?_⟩ | refine ⟨?_, ?_, hK' _ _ ?_⟩ | refine ⟨?_, ?_, ?_, hK' _ _ ?_⟩) <;> clear hK' K' <;> (first | (show alist _ _ _ _ _ _; skip) | (intro s hs; cases hs; done) | assumption | (simp; done) | omega | (simp; omega) | skip)) | ((show AC _ _ (D.fn 40 _) _ _); refine acall_new (f := 40) Try.call40 hcp rfl ?_; rintro r obs' ⟨rfl, rfl⟩; (simp only [go_sem, simprocAttr, hx, hcn, hcl, hcl2, Int.toNat_natCast, List.getElem?_map, Option.map_some, List.length_map, Row.row]); refine hK' _ _ ?_; clear hK' K'))) | refine al_e rfl rfl ?_ | refine al_u rfl rfl ?_ | ((fail_if_success (refine al_t rfl rfl fun K' hK' => ?_)); refine al_s _ rfl rfl rfl (fun hb => ?_) (fun hb => ?_)))); all_goals (refine al_nil ?_; (simp only [go_sem, simprocAttr, hx, hcn, hcl, hcl2, Int.toNat_natCast, List.getElem?_map, Option.map_some, List.length_map, Row.row]); refine hK _ ?_; clear hK K))

      (refine awp_reg_seq [10] fun K hK => ?_; (repeat' (first | ((first | refine al_r rfl fun K' hK' => ?_ | refine al_d rfl fun K' hK' => ?_ | refine al_t rfl rfl fun K' hK' => ?_); (repeat (first | (simp only [go_sem, simprocAttr, hcn, hcl2, hcl, Int.toNat_natCast, List.getElem?_map, Option.map_some, List.length_map, hLl, hdr, hput, hfit, hc1, htk, hbk, List.drop_zero]) | refine AS.mk ?_ | refine AAp.grow ?_)); (first | ((first | refine hK' _ _ ?_ | refine ⟨?_, hK' _ _ ?_⟩ | refine ⟨?_, ?_, hK' _ _ ?_⟩ | refine ⟨?_, ?_, ?_, hK' _ _ ?_⟩) <;> clear hK' K' <;> (first | (show alist _ _ _ _ _ _; skip) | (intro s hs; cases hs; done) | assumption | (simp; done) | omega | (simp; omega) | skip)))) | refine al_e rfl rfl ?_ | refine al_u rfl rfl ?_ | ((fail_if_success (refine al_t rfl rfl fun K' hK' => ?_)); refine al_s _ rfl rfl rfl (fun hb => ?_) (fun hb => ?_)))); all_goals (refine al_nil ?_; (simp only [go_sem, simprocAttr, hcn, hcl2, hcl, Int.toNat_natCast, List.getElem?_map, Option.map_some, List.length_map, hLl, hdr, hput, hfit, hc1, htk, hbk, List.drop_zero]); refine hK _ ?_; clear hK K))
      (refine awp_reg_seq [6, 7] fun K hK => ?_; (repeat' (first | ((first | refine al_r rfl fun K' hK' => ?_ | refine al_d rfl fun K' hK' => ?_ | refine al_t rfl rfl fun K' hK' => ?_); (repeat (first | (simp only [go_sem, simprocAttr, hcn, hcl2, hcl, Int.toNat_natCast, List.getElem?_map, Option.map_some, List.length_map, hLl, hdr, hput, hfit, hc1, htk, hbk, List.drop_zero]) | refine AS.mk ?_ | refine AAp.grow ?_)); (first | ((first | refine hK' _ _ ?_ | refine ⟨?_, hK' _ _ ?_⟩ | refine ⟨?_, ?_, hK' _ _ ?_⟩ | refine ⟨?_, ?_, ?_, hK' _ _ ?_⟩) <;> clear hK' K' <;> (first | (show alist _ _ _ _ _ _; skip) | (intro s hs; cases hs; done) | assumption | (simp; done) | omega | (simp; omega) | skip)))) | refine al_e rfl rfl ?_ | refine al_u rfl rfl ?_ | ((fail_if_success (refine al_t rfl rfl fun K' hK' => ?_)); refine al_s _ rfl rfl rfl (fun hb => ?_) (fun hb => ?_)))); all_goals (refine al_nil ?_; (simp only [go_sem, simprocAttr, hcn, hcl2, hcl, Int.toNat_natCast, List.getElem?_map, Option.map_some, List.length_map, hLl, hdr, hput, hfit, hc1, htk, hbk, List.drop_zero]); refine hK _ ?_; clear hK K))
      refine awp_ret ?_; (first | refine hR _ _ (.inl rfl) rfl ?_ | refine hR _ _ (.inl rfl) rfl ?_ ?_)
      rw [hv]
      simp only [go_sem, simprocAttr, hcn, hcl2, hcl, Int.toNat_natCast, List.getElem?_map, Option.map_some, List.length_map, hLl, hdr, hput, hfit, hc1, htk, hbk, List.drop_zero]
      rw [rows_pv2 ls [] _ (c * 3 + 1) 4 _ _ rfl rfl (c * 3 + 2) 2 _ _ rfl rfl]
      simp only
      rw [chunk_rows2 ls (x' := ⟨x.ref, x.watches ++ [by_], x.links⟩) hx (by rw [List.drop_zero, List.take_of_length_le (by simp), List.drop_zero, List.take_of_length_le (by simp)]; simp [Row.row])]
end Go.Proofs.Ytfjfiemcdnicoaa.P
