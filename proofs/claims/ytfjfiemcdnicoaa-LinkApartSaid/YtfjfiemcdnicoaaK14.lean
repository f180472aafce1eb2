/- One is linked to another: a contract. -/
import Derived.Test.YtfjfiemcdnicoaaK13
set_option linter.unusedSimpArgs false
set_option linter.unusedVariables false
set_option maxHeartbeats 1000000
namespace Go.Proofs.Ytfjfiemcdnicoaa.P
open Go.Ab Go.Proofs.Ytfjfiemcdnicoaa.T

/-- What Link answers. -/
def linkS (ls : List Row) (ref to : Int) : List Row × Int :=
  if (thereS ls ref).2 != 0 then ([], (thereS ls ref).2) else
  match ls[(thereS ls ref).1.toNat]? with
  | some r => if r.links.any (fun n => to == n) then (ls, 0) else if (r.links.length : Int) == 100 then ([], 6) else (ls.set (thereS ls ref).1.toNat ⟨r.ref, r.watches, r.links ++ [to]⟩, 0)
  | none => ([], 0)


theorem link (ls : List Row) (ref to : Int) (hlen : ls.length ≤ maxLen) : ACallP Try.prog 18 [rows ls, iD ref, iD to] (.tup [rows (linkS ls ref to).1, iD (linkS ls ref to).2]) := by
  have hth := there ls ref hlen
  have hok := there_ok (ls := ls) (ref := ref)
  obtain ⟨R0, hR0⟩ : ∃ R0, R0 = linkS ls ref to := ⟨_, rfl⟩
  have hv : R0 = if (thereS ls ref).2 != 0 then ([], (thereS ls ref).2) else
    match ls[(thereS ls ref).1.toNat]? with
    | some r => if r.links.any (fun n => to == n) then (ls, 0) else if (r.links.length : Int) == 100 then ([], 6) else (ls.set (thereS ls ref).1.toNat ⟨r.ref, r.watches, r.links ++ [to]⟩, 0)
    | none => ([], 0) := hR0
  rw [← hR0]
  clear hR0
  generalize (thereS ls ref).2 = e at hth hok hv
  generalize (thereS ls ref).1 = p at hth hok hv
  refine acallp_fn [6, 7] Try.func18 rfl rfl Try.ntmps18 (by simp) fun R hR => ?_
  (refine awp_reg_seq [0, 1, 2] fun K hK => ?_; (repeat' (first | ((first | refine al_r rfl fun K' hK' => ?_ | refine al_d rfl fun K' hK' => ?_ | refine al_t rfl rfl fun K' hK' => ?_); (repeat (first | (simp only [go_sem, simprocAttr, List.length_map]) | refine AS.mk ?_ | refine AAp.grow ?_)); (first | ((first | refine hK' _ _ ?_ | refine ⟨?_, hK' _ _ ?_⟩ | refine ⟨?_, ?_, hK' _ _ ?_⟩ | refine ⟨?_, ?_, ?_, hK' _ _ ?_⟩) <;> clear hK' K' <;> (first | (show alist _ _ _ _ _ _; skip) | (intro s hs; cases hs; done) | assumption | (simp; done) | omega | (simp; omega) | skip)))) | refine al_e rfl rfl ?_ | refine al_u rfl rfl ?_ | ((fail_if_success (refine al_t rfl rfl fun K' hK' => ?_)); refine al_s _ rfl rfl rfl (fun hb => ?_) (fun hb => ?_)))); all_goals (refine al_nil ?_; (simp only [go_sem, simprocAttr, List.length_map]); refine hK _ ?_; clear hK K))
  (refine awp_reg_seq [0, 2, 8, 9] fun K hK => ?_; (repeat' (first | ((first | refine al_r rfl fun K' hK' => ?_ | refine al_d rfl fun K' hK' => ?_ | refine al_t rfl rfl fun K' hK' => ?_); (repeat (first | (simp only [go_sem, simprocAttr, List.length_map]) | refine AS.mk ?_ | refine AAp.grow ?_)); (first | ((first | refine hK' _ _ ?_ | refine ⟨?_, hK' _ _ ?_⟩ | refine ⟨?_, ?_, hK' _ _ ?_⟩ | refine ⟨?_, ?_, ?_, hK' _ _ ?_⟩) <;> clear hK' K' <;> (first | (show alist _ _ _ _ _ _; skip) | (intro s hs; cases hs; done) | assumption | (simp; done) | omega | (simp; omega) | skip)) | ((show AC _ _ (D.fn 38 _) _ _); refine acall_p (f := 38) (e := rfl) (hr := rfl) (k := hK' _ _ ?_) (hc := Try.call38) (h := hth); clear hK' K'))) | refine al_e rfl rfl ?_ | refine al_u rfl rfl ?_ | ((fail_if_success (refine al_t rfl rfl fun K' hK' => ?_)); refine al_s _ rfl rfl rfl (fun hb => ?_) (fun hb => ?_)))); all_goals (refine al_nil ?_; (simp only [go_sem, simprocAttr, List.length_map]); refine hK _ ?_; clear hK K))
  refine awp_seq_k fun K hK => ?_
  refine awp_block ?_
  (refine awp_reg_seq [0, 2, 8, 9, 17] fun K hK => ?_; (repeat' (first | ((first | refine al_r rfl fun K' hK' => ?_ | refine al_d rfl fun K' hK' => ?_ | refine al_t rfl rfl fun K' hK' => ?_); (repeat (first | (simp only [go_sem, simprocAttr, List.length_map]) | refine AS.mk ?_ | refine AAp.grow ?_)); (first | ((first | refine hK' _ _ ?_ | refine ⟨?_, hK' _ _ ?_⟩ | refine ⟨?_, ?_, hK' _ _ ?_⟩ | refine ⟨?_, ?_, ?_, hK' _ _ ?_⟩) <;> clear hK' K' <;> (first | (show alist _ _ _ _ _ _; skip) | (intro s hs; cases hs; done) | assumption | (simp; done) | omega | (simp; omega) | skip)))) | refine al_e rfl rfl ?_ | refine al_u rfl rfl ?_ | ((fail_if_success (refine al_t rfl rfl fun K' hK' => ?_)); refine al_s _ rfl rfl rfl (fun hb => ?_) (fun hb => ?_)))); all_goals (refine al_nil ?_; (simp only [go_sem, simprocAttr, List.length_map]); refine hK _ ?_; clear hK K))
  refine awp_if (_) rfl (fun hc => ?_) (fun hc => ?_)
  · (refine awp_reg_seq [6, 7] fun K hK => ?_; (repeat' (first | ((first | refine al_r rfl fun K' hK' => ?_ | refine al_d rfl fun K' hK' => ?_ | refine al_t rfl rfl fun K' hK' => ?_); (repeat (first | (simp only [go_sem, simprocAttr, List.length_map]) | refine AS.mk ?_ | refine AAp.grow ?_)); (first | ((first | refine hK' _ _ ?_ | refine ⟨?_, hK' _ _ ?_⟩ | refine ⟨?_, ?_, hK' _ _ ?_⟩ | refine ⟨?_, ?_, ?_, hK' _ _ ?_⟩) <;> clear hK' K' <;> (first | (show alist _ _ _ _ _ _; skip) | (intro s hs; cases hs; done) | assumption | (simp; done) | omega | (simp; omega) | skip)))) | refine al_e rfl rfl ?_ | refine al_u rfl rfl ?_ | ((fail_if_success (refine al_t rfl rfl fun K' hK' => ?_)); refine al_s _ rfl rfl rfl (fun hb => ?_) (fun hb => ?_)))); all_goals (refine al_nil ?_; (simp only [go_sem, simprocAttr, List.length_map]); refine hK _ ?_; clear hK K))
    refine awp_ret ?_; (first | refine hR _ _ (.inl rfl) rfl ?_ | refine hR _ _ (.inl rfl) rfl ?_ ?_)
    rw [if_pos hc] at hv
    rw [hv]
    simp only [go_sem, simprocAttr, List.length_map, List.map_nil]
    rfl
  · have he : e = 0 := by simpa using hc
    rw [if_neg (by rw [hc]; simp)] at hv
    obtain ⟨hck, c, x, rfl, hx, _⟩ := hok he
    obtain ⟨h100, hrows, _⟩ := check_ok hck
    have hbr : ∀ z, z ∈ ls → z.watches.length ≤ 1000 ∧ z.links.length ≤ 1000 := fun z hz => by
      obtain ⟨k, hk⟩ := List.getElem?_of_mem hz
      have := (hrows k z hk).1
      unfold badRow at this
      simp at this; omega
    obtain ⟨hxw, hxl⟩ := hbr x (List.mem_of_getElem? hx)
    have hcl := lt_of_get hx
    have hcn : (0 : Int) ≤ (c : Int) := Int.natCast_nonneg c
    have hcl2 : (c : Int) < (ls.length : Int) := by omega
    rw [Int.toNat_natCast, hx] at hv
    simp only at hv
    have hcp0 := copied ls (by omega) hbr
    have hcon := contains x.links (by simp [maxLen]; omega) to
    rw [has_of] at hcon
    generalize hdd : (x.links.any fun n => to == n) = dd at hcon hv
    have hbl : x.links.length ≤ 1000 := hxl

    (refine awp_reg_seq [0, 2, 8, 21] fun K hK => ?_; (repeat' (first | ((first | refine al_r rfl fun K' hK' => ?_ | refine al_d rfl fun K' hK' => ?_ | refine al_t rfl rfl fun K' hK' => ?_); (repeat (first | (simp only [go_sem, simprocAttr, hx, hcn, hcl, hcl2, Int.toNat_natCast, List.getElem?_map, Option.map_some, List.length_map, Row.row]) | refine AS.mk ?_ | refine AAp.grow ?_)); (first | ((first | refine hK' _ _ ?_ | refine ⟨?_, hK' _ _ ?_⟩ | refine ⟨?_, ?_, hK' _ _ ?_⟩ | refine ⟨?_, ?_, ?_, hK' _ _ ?_⟩) <;> clear hK' K' <;> (first | (show alist _ _ _ _ _ _; skip) | (intro s hs; cases hs; done) | assumption | (simp; done) | omega | (simp; omega) | skip)) | ((show AC _ _ (D.fn 32 _) _ _); refine acall_p (f := 32) (e := rfl) (hr := rfl) (k := hK' _ _ ?_) (hc := Try.call32) (h := hcon); clear hK' K'))) | refine al_e rfl rfl ?_ | refine al_u rfl rfl ?_ | ((fail_if_success (refine al_t rfl rfl fun K' hK' => ?_)); refine al_s _ rfl rfl rfl (fun hb => ?_) (fun hb => ?_)))); all_goals (refine al_nil ?_; (simp only [go_sem, simprocAttr, hx, hcn, hcl, hcl2, Int.toNat_natCast, List.getElem?_map, Option.map_some, List.length_map, Row.row]); refine hK _ ?_; clear hK K))
    refine awp_if (_) rfl (fun hc => ?_) (fun hc => ?_)
    · (refine awp_reg_seq [6, 7] fun K hK => ?_; (repeat' (first | ((first | refine al_r rfl fun K' hK' => ?_ | refine al_d rfl fun K' hK' => ?_ | refine al_t rfl rfl fun K' hK' => ?_); (repeat (first | (simp only [go_sem, simprocAttr, hx, hcn, hcl, hcl2, Int.toNat_natCast, List.getElem?_map, Option.map_some, List.length_map, Row.row]) | refine AS.mk ?_ | refine AAp.grow ?_)); (first | ((first | refine hK' _ _ ?_ | refine ⟨?_, hK' _ _ ?_⟩ | refine ⟨?_, ?_, hK' _ _ ?_⟩ | refine ⟨?_, ?_, ?_, hK' _ _ ?_⟩) <;> clear hK' K' <;> (first | (show alist _ _ _ _ _ _; skip) | (intro s hs; cases hs; done) | assumption | (simp; done) | omega | (simp; omega) | skip)) | ((show AC _ _ (D.fn 40 _) _ _); refine acall_new (f := 40) Try.call40 hcp0 rfl ?_; rintro r obs' ⟨rfl, rfl⟩; (simp only [go_sem, simprocAttr, hx, hcn, hcl, hcl2, Int.toNat_natCast, List.getElem?_map, Option.map_some, List.length_map, Row.row]); refine hK' _ _ ?_; clear hK' K') | ((show AC _ _ (D.fn 40 _) _ _); refine acall_new (f := 40) Try.call40 hcp rfl ?_; rintro r obs' ⟨rfl, rfl⟩; (simp only [go_sem, simprocAttr, hx, hcn, hcl, hcl2, Int.toNat_natCast, List.getElem?_map, Option.map_some, List.length_map, Row.row]); refine hK' _ _ ?_; clear hK' K'))) | refine al_e rfl rfl ?_ | refine al_u rfl rfl ?_ | ((fail_if_success (refine al_t rfl rfl fun K' hK' => ?_)); refine al_s _ rfl rfl rfl (fun hb => ?_) (fun hb => ?_)))); all_goals (refine al_nil ?_; (simp only [go_sem, simprocAttr, hx, hcn, hcl, hcl2, Int.toNat_natCast, List.getElem?_map, Option.map_some, List.length_map, Row.row]); refine hK _ ?_; clear hK K))
      have htR : List.take ls.length (ls.map Row.row) = ls.map Row.row := List.take_of_length_le (by simp)
      refine awp_ret ?_; (first | refine hR _ _ (.inl rfl) rfl ?_ | refine hR _ _ (.inl rfl) rfl ?_ ?_)
      rw [if_pos hc] at hv
      rw [hv]
      simp only [go_sem, simprocAttr, hx, hcn, hcl, hcl2, Int.toNat_natCast, List.getElem?_map, Option.map_some, List.length_map, Row.row, htR]
    · rw [if_neg (by rw [hc]; simp)] at hv
      clear hcp0
      (refine awp_reg_seq [0, 2, 8, 31] fun K hK => ?_; (repeat' (first | ((first | refine al_r rfl fun K' hK' => ?_ | refine al_d rfl fun K' hK' => ?_ | refine al_t rfl rfl fun K' hK' => ?_); (repeat (first | (simp only [go_sem, simprocAttr, hx, hcn, hcl, hcl2, Int.toNat_natCast, List.getElem?_map, Option.map_some, List.length_map, Row.row]) | refine AS.mk ?_ | refine AAp.grow ?_)); (first | ((first | refine hK' _ _ ?_ | refine ⟨?_, hK' _ _ ?_⟩ | refine ⟨?_, ?_, hK' _ _ ?_⟩ | refine ⟨?_, ?_, ?_, hK' _ _ ?_⟩) <;> clear hK' K' <;> (first | (show alist _ _ _ _ _ _; skip) | (intro s hs; cases hs; done) | assumption | (simp; done) | omega | (simp; omega) | skip)))) | refine al_e rfl rfl ?_ | refine al_u rfl rfl ?_ | ((fail_if_success (refine al_t rfl rfl fun K' hK' => ?_)); refine al_s _ rfl rfl rfl (fun hb => ?_) (fun hb => ?_)))); all_goals (refine al_nil ?_; (simp only [go_sem, simprocAttr, hx, hcn, hcl, hcl2, Int.toNat_natCast, List.getElem?_map, Option.map_some, List.length_map, Row.row]); refine hK _ ?_; clear hK K))
      refine awp_if ((x.links.length : Int) == 100) rfl (fun hc => ?_) (fun hc => ?_)
      · (refine awp_reg_seq [6, 7] fun K hK => ?_; (repeat' (first | ((first | refine al_r rfl fun K' hK' => ?_ | refine al_d rfl fun K' hK' => ?_ | refine al_t rfl rfl fun K' hK' => ?_); (repeat (first | (simp only [go_sem, simprocAttr, hx, hcn, hcl, hcl2, Int.toNat_natCast, List.getElem?_map, Option.map_some, List.length_map, Row.row]) | refine AS.mk ?_ | refine AAp.grow ?_)); (first | ((first | refine hK' _ _ ?_ | refine ⟨?_, hK' _ _ ?_⟩ | refine ⟨?_, ?_, hK' _ _ ?_⟩ | refine ⟨?_, ?_, ?_, hK' _ _ ?_⟩) <;> clear hK' K' <;> (first | (show alist _ _ _ _ _ _; skip) | (intro s hs; cases hs; done) | assumption | (simp; done) | omega | (simp; omega) | skip)))) | refine al_e rfl rfl ?_ | refine al_u rfl rfl ?_ | ((fail_if_success (refine al_t rfl rfl fun K' hK' => ?_)); refine al_s _ rfl rfl rfl (fun hb => ?_) (fun hb => ?_)))); all_goals (refine al_nil ?_; (simp only [go_sem, simprocAttr, hx, hcn, hcl, hcl2, Int.toNat_natCast, List.getElem?_map, Option.map_some, List.length_map, Row.row]); refine hK _ ?_; clear hK K))
        refine awp_ret ?_; (first | refine hR _ _ (.inl rfl) rfl ?_ | refine hR _ _ (.inl rfl) rfl ?_ ?_)
        rw [if_pos hc] at hv
        rw [hv]
        simp only [go_sem, simprocAttr, hx, hcn, hcl, hcl2, Int.toNat_natCast, List.getElem?_map, Option.map_some, List.length_map, Row.row, List.map_nil]
        rfl
      · rw [if_neg (by rw [hc]; simp)] at hv
        have hcp := copiedB ls (by omega) hbr c x hx
        have hRl := rcells_len ls
        have hLl : ∀ d d' : D, (((rcells ls).set (c * 3 + 1) d).set (c * 3 + 2) d').length = ls.length * 3 := fun d d' => by rw [List.length_set, List.length_set, hRl]
        have hdr : (List.drop (c * 3 + 2) (((rcells ls).set (c * 3 + 1) (.ref 1 0 x.watches.length)).set (c * 3 + 2) (.ref 2 0 x.links.length)))[0]? = some (.ref 2 0 x.links.length) := by
          rw [List.getElem?_drop]
          show (((rcells ls).set (c * 3 + 1) (.ref 1 0 x.watches.length)).set (c * 3 + 2) (.ref 2 0 x.links.length))[c * 3 + 2]? = _
          exact List.getElem?_set_self (by rw [List.length_set, hRl]; omega)
        have hput : ∀ d' : D, List.take (c * 3 + 2) (((rcells ls).set (c * 3 + 1) (.ref 1 0 x.watches.length)).set (c * 3 + 2) (.ref 2 0 x.links.length)) ++ [d'] ++ List.drop (c * 3 + 2 + 1) (((rcells ls).set (c * 3 + 1) (.ref 1 0 x.watches.length)).set (c * 3 + 2) (.ref 2 0 x.links.length)) = ((rcells ls).set (c * 3 + 1) (.ref 1 0 x.watches.length)).set (c * 3 + 2) d' := fun d' => by
          rw [put_set (by rw [hLl]; omega), List.set_set]
        have hbk : D.mapL (back [] 0) (((rcells ls).set (c * 3 + 1) (.ref 1 0 x.watches.length)).set (c * 3 + 2) (.ref 2 0 x.links.length)) = ((rcells ls).set (c * 3 + 1) (.ref 1 0 x.watches.length)).set (c * 3 + 2) (.ref 2 0 x.links.length) := by rw [D.mapL_eq, List.map_set, List.map_set, rcells_ren (back [] 0) (fun _ => rfl) ls]; rfl
        have hfit : (x.links.length + 1) * 8 ≤ 140737488355328 := by omega
        have hc1 : c * 3 + 2 + 1 ≤ ls.length * 3 := by omega
        have htk : List.take x.links.length (x.links.map irow) = x.links.map irow := List.take_of_length_le (by simp)
        refine awp_skip ?_
        refine hK _ ?_; clear hK K
        (refine awp_reg_seq [2, 8, 10] fun K hK => ?_; (repeat' (first | ((first | refine al_r rfl fun K' hK' => ?_ | refine al_d rfl fun K' hK' => ?_ | refine al_t rfl rfl fun K' hK' => ?_); (repeat (first | (simp only [go_sem, simprocAttr, hx, hcn, hcl, hcl2, Int.toNat_natCast, List.getElem?_map, Option.map_some, List.length_map, Row.row]) | refine AS.mk ?_ | refine AAp.grow ?_)); (first | ((first | refine hK' _ _ ?_ | refine ⟨?_, hK' _ _ ?_⟩ | refine ⟨?_, ?_, hK' _ _ ?_⟩ | refine ⟨?_, ?_, ?_, hK' _ _ ?_⟩) <;> clear hK' K' <;> (first | (show alist _ _ _ _ _ _; skip) | (intro s hs; cases hs; done) | assumption | (simp; done) | omega | (simp; omega) | skip)) | ((show AC _ _ (D.fn 40 _) _ _); refine acall_new (f := 40) Try.call40 hcp0 rfl ?_; rintro r obs' ⟨rfl, rfl⟩; (simp only [go_sem, simprocAttr, hx, hcn, hcl, hcl2, Int.toNat_natCast, List.getElem?_map, Option.map_some, List.length_map, Row.row]); refine hK' _ _ ?_; clear hK' K') | ((show AC _ _ (D.fn 40 _) _ _); refine acall_new (f := 40) Try.call40 hcp rfl ?_; rintro r obs' ⟨rfl, rfl⟩; (simp only [go_sem, simprocAttr, hx, hcn, hcl, hcl2, Int.toNat_natCast, List.getElem?_map, Option.map_some, List.length_map, Row.row]); refine hK' _ _ ?_; clear hK' K'))) | refine al_e rfl rfl ?_ | refine al_u rfl rfl ?_ | ((fail_if_success (refine al_t rfl rfl fun K' hK' => ?_)); refine al_s _ rfl rfl rfl (fun hb => ?_) (fun hb => ?_)))); all_goals (refine al_nil ?_; (simp only [go_sem, simprocAttr, hx, hcn, hcl, hcl2, Int.toNat_natCast, List.getElem?_map, Option.map_some, List.length_map, Row.row]); refine hK _ ?_; clear hK K))

        (refine awp_reg_seq [10] fun K hK => ?_; (repeat' (first | ((first | refine al_r rfl fun K' hK' => ?_ | refine al_d rfl fun K' hK' => ?_ | refine al_t rfl rfl fun K' hK' => ?_); (repeat (first | (simp only [go_sem, simprocAttr, hcn, hcl2, hcl, Int.toNat_natCast, List.getElem?_map, Option.map_some, List.length_map, hLl, hdr, hput, hfit, hc1, htk, hbk, List.drop_zero]) | refine AS.mk ?_ | refine AAp.grow ?_)); (first | ((first | refine hK' _ _ ?_ | refine ⟨?_, hK' _ _ ?_⟩ | refine ⟨?_, ?_, hK' _ _ ?_⟩ | refine ⟨?_, ?_, ?_, hK' _ _ ?_⟩) <;> clear hK' K' <;> (first | (show alist _ _ _ _ _ _; skip) | (intro s hs; cases hs; done) | assumption | (simp; done) | omega | (simp; omega) | skip)))) | refine al_e rfl rfl ?_ | refine al_u rfl rfl ?_ | ((fail_if_success (refine al_t rfl rfl fun K' hK' => ?_)); refine al_s _ rfl rfl rfl (fun hb => ?_) (fun hb => ?_)))); all_goals (refine al_nil ?_; (simp only [go_sem, simprocAttr, hcn, hcl2, hcl, Int.toNat_natCast, List.getElem?_map, Option.map_some, List.length_map, hLl, hdr, hput, hfit, hc1, htk, hbk, List.drop_zero]); refine hK _ ?_; clear hK K))
        (refine awp_reg_seq [6, 7] fun K hK => ?_; (repeat' (first | ((first | refine al_r rfl fun K' hK' => ?_ | refine al_d rfl fun K' hK' => ?_ | refine al_t rfl rfl fun K' hK' => ?_); (repeat (first | (simp only [go_sem, simprocAttr, hcn, hcl2, hcl, Int.toNat_natCast, List.getElem?_map, Option.map_some, List.length_map, hLl, hdr, hput, hfit, hc1, htk, hbk, List.drop_zero]) | refine AS.mk ?_ | refine AAp.grow ?_)); (first | ((first | refine hK' _ _ ?_ | refine ⟨?_, hK' _ _ ?_⟩ | refine ⟨?_, ?_, hK' _ _ ?_⟩ | refine ⟨?_, ?_, ?_, hK' _ _ ?_⟩) <;> clear hK' K' <;> (first | (show alist _ _ _ _ _ _; skip) | (intro s hs; cases hs; done) | assumption | (simp; done) | omega | (simp; omega) | skip)))) | refine al_e rfl rfl ?_ | refine al_u rfl rfl ?_ | ((fail_if_success (refine al_t rfl rfl fun K' hK' => ?_)); refine al_s _ rfl rfl rfl (fun hb => ?_) (fun hb => ?_)))); all_goals (refine al_nil ?_; (simp only [go_sem, simprocAttr, hcn, hcl2, hcl, Int.toNat_natCast, List.getElem?_map, Option.map_some, List.length_map, hLl, hdr, hput, hfit, hc1, htk, hbk, List.drop_zero]); refine hK _ ?_; clear hK K))
        refine awp_ret ?_; (first | refine hR _ _ (.inl rfl) rfl ?_ | refine hR _ _ (.inl rfl) rfl ?_ ?_)
        rw [hv]
        simp only [go_sem, simprocAttr, hcn, hcl2, hcl, Int.toNat_natCast, List.getElem?_map, Option.map_some, List.length_map, hLl, hdr, hput, hfit, hc1, htk, hbk, List.drop_zero]
        rw [rows_pv2 ls [] _ (c * 3 + 1) 1 _ _ rfl rfl (c * 3 + 2) 4 _ _ rfl rfl]
        simp only
        rw [chunk_rows2 ls (x' := ⟨x.ref, x.watches, x.links ++ [to]⟩) hx (by rw [List.drop_zero, List.take_of_length_le (by simp), List.drop_zero, List.take_of_length_le (by simp)]; simp [Row.row])]
end Go.Proofs.Ytfjfiemcdnicoaa.P
