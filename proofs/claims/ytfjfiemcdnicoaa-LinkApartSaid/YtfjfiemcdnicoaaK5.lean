/- Who is gone: a contract. -/
import Derived.Test.YtfjfiemcdnicoaaK4
import Derived.Test.YtfjfiemcdnicoaaSL
set_option linter.unusedSimpArgs false
set_option linter.unusedVariables false
set_option maxHeartbeats 1000000
namespace Go.Proofs.Ytfjfiemcdnicoaa.P
open Go.Ab Go.Proofs.Ytfjfiemcdnicoaa.T
open Go.Proofs.Ytfjfiemcdnicoaa.PL (Letter)

def downL (ref num : Int) (tx : ByteArray) (by_ : Int) : Letter := ⟨2, ref, by_, num, tx, 0, 0, ByteArray.empty, []⟩
def exitL (ref : Int) (tx : ByteArray) (to : Int) : Letter := ⟨5, ref, to, 0, tx, 0, 0, ByteArray.empty, []⟩

def outL (r : Row) (ref num : Int) (failed : Bool) (tx : ByteArray) : List Letter := r.watches.map (downL ref num tx) ++ if failed then r.links.map (exitL ref tx) else []

abbrev letters (ls : List Letter) : D := .p (.sl (ls.map Letter.row))

/-- What Gone answers. -/
def goneS (ls : List Row) (ref : Int) (failed : Bool) (text : ByteArray) : List Row × List Letter × Int :=
  if (thereS ls ref).2 != 0 then ([], [], (thereS ls ref).2) else
  match ls[(thereS ls ref).1.toNat]? with
  | some r => (ls.eraseIdx (thereS ls ref).1.toNat, outL r ref (if failed then 1 else 0) failed (if failed then text else ⟨#[]⟩), 0)
  | none => ([], [], 0)

theorem take_snoc {α β : Type} {l : List α} {j : Nat} {x : α} (f : α → β) (h : l[j]? = some x) : (l.take (j + 1)).map f = (l.take j).map f ++ [f x] := by
  rw [List.take_add_one, h, List.map_append]; rfl

theorem erase_map {α β : Type} (f : α → β) (l : List α) (i : Nat) : (l.map f).eraseIdx i = (l.eraseIdx i).map f := by
  rw [List.eraseIdx_eq_take_drop_succ, List.eraseIdx_eq_take_drop_succ, List.map_append, List.map_take, List.map_drop]


theorem gone (ls : List Row) (ref : Int) (failed : Bool) (text : ByteArray) (hlen : ls.length ≤ maxLen) :
    ACallP Try.prog 13 [rows ls, iD ref, bD failed, .p (.lit (.string text))] (.tup [rows (goneS ls ref failed text).1, letters (goneS ls ref failed text).2.1, iD (goneS ls ref failed text).2.2]) := by
  have hth := there ls ref hlen
  have hok := there_ok (ls := ls) (ref := ref)
  have hv : goneS ls ref failed text = if (thereS ls ref).2 != 0 then ([], [], (thereS ls ref).2) else
    match ls[(thereS ls ref).1.toNat]? with
    | some r => (ls.eraseIdx (thereS ls ref).1.toNat, outL r ref (if failed then 1 else 0) failed (if failed then text else ⟨#[]⟩), 0)
    | none => ([], [], 0) := rfl
  rw [hv]
  clear hv
  generalize (thereS ls ref).2 = e at hth hok ⊢
  generalize (thereS ls ref).1 = p at hth hok ⊢
  refine acallp_fn [8, 9, 10] Try.func13 rfl rfl Try.ntmps13 (by simp) fun R hR => ?_
  (refine awp_reg_seq [0, 1, 2, 3] fun K hK => ?_; (repeat' (first | ((first | refine al_r rfl fun K' hK' => ?_ | refine al_d rfl fun K' hK' => ?_ | refine al_t rfl rfl fun K' hK' => ?_); (repeat (first | (simp only [go_sem, simprocAttr, List.length_map]) | refine AS.mk ?_ | refine AAp.grow ?_)); (first | ((first | refine hK' _ _ ?_ | refine ⟨?_, hK' _ _ ?_⟩ | refine ⟨?_, ?_, hK' _ _ ?_⟩ | refine ⟨?_, ?_, ?_, hK' _ _ ?_⟩) <;> clear hK' K' <;> (first | (show alist _ _ _ _ _ _; skip) | (intro s hs; cases hs; done) | assumption | (simp; done) | omega | (simp; omega) | skip)))) | refine al_e rfl rfl ?_ | refine al_u rfl rfl ?_ | ((fail_if_success (refine al_t rfl rfl fun K' hK' => ?_)); refine al_s _ rfl rfl rfl (fun hb => ?_) (fun hb => ?_)))); all_goals (refine al_nil ?_; (simp only [go_sem, simprocAttr, List.length_map]); refine hK _ ?_; clear hK K))
  (refine awp_reg_seq [0, 1, 2, 3, 11, 12] fun K hK => ?_; (repeat' (first | ((first | refine al_r rfl fun K' hK' => ?_ | refine al_d rfl fun K' hK' => ?_ | refine al_t rfl rfl fun K' hK' => ?_); (repeat (first | (simp only [go_sem, simprocAttr, List.length_map]) | refine AS.mk ?_ | refine AAp.grow ?_)); (first | ((first | refine hK' _ _ ?_ | refine ⟨?_, hK' _ _ ?_⟩ | refine ⟨?_, ?_, hK' _ _ ?_⟩ | refine ⟨?_, ?_, ?_, hK' _ _ ?_⟩) <;> clear hK' K' <;> (first | (show alist _ _ _ _ _ _; skip) | (intro s hs; cases hs; done) | assumption | (simp; done) | omega | (simp; omega) | skip)) | ((show AC _ _ (D.fn 38 _) _ _); refine acall_p (f := 38) (e := rfl) (hr := rfl) (k := hK' _ _ ?_) (hc := Try.call38) (h := hth); clear hK' K'))) | refine al_e rfl rfl ?_ | refine al_u rfl rfl ?_ | ((fail_if_success (refine al_t rfl rfl fun K' hK' => ?_)); refine al_s _ rfl rfl rfl (fun hb => ?_) (fun hb => ?_)))); all_goals (refine al_nil ?_; (simp only [go_sem, simprocAttr, List.length_map]); refine hK _ ?_; clear hK K))
  refine awp_seq_k fun K hK => ?_
  (refine awp_reg_seq [0, 1, 2, 3, 11, 12, 26] fun K hK => ?_; (repeat' (first | ((first | refine al_r rfl fun K' hK' => ?_ | refine al_d rfl fun K' hK' => ?_ | refine al_t rfl rfl fun K' hK' => ?_); (repeat (first | (simp only [go_sem, simprocAttr, List.length_map]) | refine AS.mk ?_ | refine AAp.grow ?_)); (first | ((first | refine hK' _ _ ?_ | refine ⟨?_, hK' _ _ ?_⟩ | refine ⟨?_, ?_, hK' _ _ ?_⟩ | refine ⟨?_, ?_, ?_, hK' _ _ ?_⟩) <;> clear hK' K' <;> (first | (show alist _ _ _ _ _ _; skip) | (intro s hs; cases hs; done) | assumption | (simp; done) | omega | (simp; omega) | skip)))) | refine al_e rfl rfl ?_ | refine al_u rfl rfl ?_ | ((fail_if_success (refine al_t rfl rfl fun K' hK' => ?_)); refine al_s _ rfl rfl rfl (fun hb => ?_) (fun hb => ?_)))); all_goals (refine al_nil ?_; (simp only [go_sem, simprocAttr, List.length_map]); refine hK _ ?_; clear hK K))
  refine awp_if (_) rfl (fun hc => ?_) (fun hc => ?_)
  · (refine awp_reg_seq [8, 9, 10] fun K hK => ?_; (repeat' (first | ((first | refine al_r rfl fun K' hK' => ?_ | refine al_d rfl fun K' hK' => ?_ | refine al_t rfl rfl fun K' hK' => ?_); (repeat (first | (simp only [go_sem, simprocAttr, List.length_map]) | refine AS.mk ?_ | refine AAp.grow ?_)); (first | ((first | refine hK' _ _ ?_ | refine ⟨?_, hK' _ _ ?_⟩ | refine ⟨?_, ?_, hK' _ _ ?_⟩ | refine ⟨?_, ?_, ?_, hK' _ _ ?_⟩) <;> clear hK' K' <;> (first | (show alist _ _ _ _ _ _; skip) | (intro s hs; cases hs; done) | assumption | (simp; done) | omega | (simp; omega) | skip)))) | refine al_e rfl rfl ?_ | refine al_u rfl rfl ?_ | ((fail_if_success (refine al_t rfl rfl fun K' hK' => ?_)); refine al_s _ rfl rfl rfl (fun hb => ?_) (fun hb => ?_)))); all_goals (refine al_nil ?_; (simp only [go_sem, simprocAttr, List.length_map]); refine hK _ ?_; clear hK K))
    refine awp_ret ?_; (first | refine hR _ _ (.inl rfl) rfl ?_ | refine hR _ _ (.inl rfl) rfl ?_ ?_)
    simp only [hc, go_sem, simprocAttr, List.length_map, List.map_nil]
    rfl
  · have he : e = 0 := by simpa using hc
    have hc0 := hc
    obtain ⟨hck, i, r, rfl, hget, href⟩ := hok he
    obtain ⟨h100, hrows, _⟩ := check_ok hck
    have hbr : ∀ x, x ∈ ls → x.watches.length ≤ 1000 ∧ x.links.length ≤ 1000 := fun x hx => by
      obtain ⟨k, hk⟩ := List.getElem?_of_mem hx
      have := (hrows k x hk).1
      unfold badRow at this
      simp at this; omega
    obtain ⟨hrw, hrl⟩ := hbr r (List.mem_of_getElem? hget)
    have hil := lt_of_get hget
    have hnn : (0 : Int) ≤ (i : Int) := Int.natCast_nonneg i
    have hnx : IntKind.i64.wrap ((i : Int) + 1) = ((i + 1 : Nat) : Int) := by rw [wrap_small (by omega) (by omega)]; rfl
    rw [hc0] at hR
    simp only [Bool.false_eq_true, if_false, Int.toNat_natCast, hget] at hR
    obtain ⟨num, hnum⟩ : ∃ num : Int, num = if failed then 1 else 0 := ⟨_, rfl⟩
    obtain ⟨tx, htx⟩ : ∃ tx : ByteArray, tx = if failed then text else ⟨#[]⟩ := ⟨_, rfl⟩
    rw [← hnum, ← htx] at hR
    have hcp := copied ls (by omega) hbr
    have hdel := deleteL (ls.map Row.row) (lrow3 ls) i (by simpa using hil) (by simp; omega)
    rw [List.length_map, erase_map] at hdel
    refine awp_skip ?_
    refine hK _ ?_; clear hK K
    (refine awp_reg_seq [0, 1, 2, 3, 11, 13] fun K hK => ?_; (repeat' (first | ((first | refine al_r rfl fun K' hK' => ?_ | refine al_d rfl fun K' hK' => ?_ | refine al_t rfl rfl fun K' hK' => ?_); (repeat (first | (simp only [go_sem, simprocAttr, List.length_map]) | refine AS.mk ?_ | refine AAp.grow ?_)); (first | ((first | refine hK' _ _ ?_ | refine ⟨?_, hK' _ _ ?_⟩ | refine ⟨?_, ?_, hK' _ _ ?_⟩ | refine ⟨?_, ?_, ?_, hK' _ _ ?_⟩) <;> clear hK' K' <;> (first | (show alist _ _ _ _ _ _; skip) | (intro s hs; cases hs; done) | assumption | (simp; done) | omega | (simp; omega) | skip)))) | refine al_e rfl rfl ?_ | refine al_u rfl rfl ?_ | ((fail_if_success (refine al_t rfl rfl fun K' hK' => ?_)); refine al_s _ rfl rfl rfl (fun hb => ?_) (fun hb => ?_)))); all_goals (refine al_nil ?_; (simp only [go_sem, simprocAttr, List.length_map]); refine hK _ ?_; clear hK K))
    refine awp_seq_k fun K hK => ?_
    have key : K ⟨ofL [(0, rows ls), (1, iD ref), (2, bD failed), (3, .p (.lit (.string tx))), (11, iD i), (13, iD num)], [], 0⟩ := by
      clear hnum htx
      refine hK _ ?_; clear hK K
      (refine awp_reg_seq [0, 1, 2, 3, 11, 13, 14] fun K hK => ?_; (repeat' (first | ((first | refine al_r rfl fun K' hK' => ?_ | refine al_d rfl fun K' hK' => ?_ | refine al_t rfl rfl fun K' hK' => ?_); (repeat (first | (simp only [go_sem, simprocAttr, List.length_map]) | refine AS.mk ?_ | refine AAp.grow ?_)); (first | ((first | refine hK' _ _ ?_ | refine ⟨?_, hK' _ _ ?_⟩ | refine ⟨?_, ?_, hK' _ _ ?_⟩ | refine ⟨?_, ?_, ?_, hK' _ _ ?_⟩) <;> clear hK' K' <;> (first | (show alist _ _ _ _ _ _; skip) | (intro s hs; cases hs; done) | assumption | (simp; done) | omega | (simp; omega) | skip)))) | refine al_e rfl rfl ?_ | refine al_u rfl rfl ?_ | ((fail_if_success (refine al_t rfl rfl fun K' hK' => ?_)); refine al_s _ rfl rfl rfl (fun hb => ?_) (fun hb => ?_)))); all_goals (refine al_nil ?_; (simp only [go_sem, simprocAttr, List.length_map]); refine hK _ ?_; clear hK K))
      refine awp_born 14 9 rfl ?_
      refine awp_seq_k fun K hK => ?_

      (refine awp_reg_seq [0, 1, 2, 3, 11, 13, 14, 33, 34, 35] fun K hK => ?_; (repeat' (first | ((first | refine al_r rfl fun K' hK' => ?_ | refine al_d rfl fun K' hK' => ?_ | refine al_t rfl rfl fun K' hK' => ?_); (repeat (first | (simp only [go_sem, simprocAttr, hget, hnn, hil, Int.toNat_natCast, List.getElem?_map, Option.map_some, Row.row, List.length_map, List.length_take]) | refine AS.mk ?_ | refine AAp.grow ?_)); (first | ((first | refine hK' _ _ ?_ | refine ⟨?_, hK' _ _ ?_⟩ | refine ⟨?_, ?_, hK' _ _ ?_⟩ | refine ⟨?_, ?_, ?_, hK' _ _ ?_⟩) <;> clear hK' K' <;> (first | (show alist _ _ _ _ _ _; skip) | (intro s hs; cases hs; done) | assumption | (simp; done) | omega | (simp; omega) | skip)))) | refine al_e rfl rfl ?_ | refine al_u rfl rfl ?_ | ((fail_if_success (refine al_t rfl rfl fun K' hK' => ?_)); refine al_s _ rfl rfl rfl (fun hb => ?_) (fun hb => ?_)))); all_goals (refine al_nil ?_; (simp only [go_sem, simprocAttr, hget, hnn, hil, Int.toNat_natCast, List.getElem?_map, Option.map_some, Row.row, List.length_map, List.length_take]); refine hK _ ?_; clear hK K))
      refine awp_block ?_
      -- loop 0 head [0, 1, 2, 3, 11, 13, 14, 33, 34, 35]
      refine awp_loop_cut (fun m s => ∃ j : Nat, j ≤ r.watches.length ∧ m = r.watches.length - j ∧ s = ⟨ofL [(0, rows ls), (1, iD ref), (2, bD failed), (3, .p (.lit (.string tx))), (11, iD i), (13, iD num), (14, .ref 0 0 j), (33, ints r.watches), (34, iD r.watches.length), (35, iD j)], [.row 9 (((r.watches.take j).map (downL ref num tx)).map Letter.row)], 0⟩) ⟨_, 0, Nat.zero_le _, rfl, rfl⟩ ?_
      rintro m s ⟨j, hj, hmj, rfl⟩
      (refine awp_reg_seq [0, 1, 2, 3, 11, 13, 14, 33, 34, 35, 36] fun K hK => ?_; (repeat' (first | ((first | refine al_r rfl fun K' hK' => ?_ | refine al_d rfl fun K' hK' => ?_ | refine al_t rfl rfl fun K' hK' => ?_); (repeat (first | (simp only [go_sem, simprocAttr, hget, hnn, hil, Int.toNat_natCast, List.getElem?_map, Option.map_some, Row.row, List.length_map, List.length_take]) | refine AS.mk ?_ | refine AAp.grow ?_)); (first | ((first | refine hK' _ _ ?_ | refine ⟨?_, hK' _ _ ?_⟩ | refine ⟨?_, ?_, hK' _ _ ?_⟩ | refine ⟨?_, ?_, ?_, hK' _ _ ?_⟩) <;> clear hK' K' <;> (first | (show alist _ _ _ _ _ _; skip) | (intro s hs; cases hs; done) | assumption | (simp; done) | omega | (simp; omega) | skip)))) | refine al_e rfl rfl ?_ | refine al_u rfl rfl ?_ | ((fail_if_success (refine al_t rfl rfl fun K' hK' => ?_)); refine al_s _ rfl rfl rfl (fun hb => ?_) (fun hb => ?_)))); all_goals (refine al_nil ?_; (simp only [go_sem, simprocAttr, hget, hnn, hil, Int.toNat_natCast, List.getElem?_map, Option.map_some, Row.row, List.length_map, List.length_take]); refine hK _ ?_; clear hK K))
      refine awp_seq_k fun K hK => ?_
      refine awp_if (decide ((j : Int) < r.watches.length)) rfl (fun hc => ?_) (fun hc => ?_)
      · refine awp_skip ?_
        refine hK _ ?_; clear hK K
        refine awp_seq_k fun K hK => ?_
        refine awp_block ?_
        have hj2 : j < r.watches.length := by simpa using hc
        obtain ⟨n, hn⟩ := get_of_lt hj2
        have hjn : (0 : Int) ≤ (j : Int) := Int.natCast_nonneg j
        have hjx : IntKind.i64.wrap ((j : Int) + 1) = ((j + 1 : Nat) : Int) := by rw [wrap_small (by omega) (by omega)]; rfl
        have hfit : (j + 1) * 104 ≤ 140737488355328 := by omega
        have hjm : min j r.watches.length = j := by omega
        have htk : List.take j (((r.watches.take j).map (downL ref num tx)).map Letter.row) = ((r.watches.take j).map (downL ref num tx)).map Letter.row := List.take_of_length_le (by simp; omega)

        (refine awp_reg_seq [0, 1, 2, 3, 11, 13, 14, 16, 33, 34, 35] fun K hK => ?_; (repeat' (first | ((first | refine al_r rfl fun K' hK' => ?_ | refine al_d rfl fun K' hK' => ?_ | refine al_t rfl rfl fun K' hK' => ?_); (repeat (first | (simp only [go_sem, simprocAttr, hn, hjn, hj2, hjx, hfit, hjm, htk, Int.toNat_natCast, List.getElem?_map, Option.map_some, List.length_map, List.length_take]) | refine AS.mk ?_ | refine AAp.grow ?_)); (first | ((first | refine hK' _ _ ?_ | refine ⟨?_, hK' _ _ ?_⟩ | refine ⟨?_, ?_, hK' _ _ ?_⟩ | refine ⟨?_, ?_, ?_, hK' _ _ ?_⟩) <;> clear hK' K' <;> (first | (show alist _ _ _ _ _ _; skip) | (intro s hs; cases hs; done) | assumption | (simp; done) | omega | (simp; omega) | skip)))) | refine al_e rfl rfl ?_ | refine al_u rfl rfl ?_ | ((fail_if_success (refine al_t rfl rfl fun K' hK' => ?_)); refine al_s _ rfl rfl rfl (fun hb => ?_) (fun hb => ?_)))); all_goals (refine al_nil ?_; (simp only [go_sem, simprocAttr, hn, hjn, hj2, hjx, hfit, hjm, htk, Int.toNat_natCast, List.getElem?_map, Option.map_some, List.length_map, List.length_take]); refine hK _ ?_; clear hK K))
        (refine awp_reg_end [0, 1, 2, 3, 11, 13, 14, 33, 34, 35] fun K hK => ?_; (repeat' (first | ((first | refine al_r rfl fun K' hK' => ?_ | refine al_d rfl fun K' hK' => ?_ | refine al_t rfl rfl fun K' hK' => ?_); (repeat (first | (simp only [go_sem, simprocAttr, hn, hjn, hj2, hjx, hfit, hjm, htk, Int.toNat_natCast, List.getElem?_map, Option.map_some, List.length_map, List.length_take]) | refine AS.mk ?_ | refine AAp.grow ?_)); (first | ((first | refine hK' _ _ ?_ | refine ⟨?_, hK' _ _ ?_⟩ | refine ⟨?_, ?_, hK' _ _ ?_⟩ | refine ⟨?_, ?_, ?_, hK' _ _ ?_⟩) <;> clear hK' K' <;> (first | (show alist _ _ _ _ _ _; skip) | (intro s hs; cases hs; done) | assumption | (simp; done) | omega | (simp; omega) | skip)))) | refine al_e rfl rfl ?_ | refine al_u rfl rfl ?_ | ((fail_if_success (refine al_t rfl rfl fun K' hK' => ?_)); refine al_s _ rfl rfl rfl (fun hb => ?_) (fun hb => ?_)))); all_goals (refine al_nil ?_; (simp only [go_sem, simprocAttr, hn, hjn, hj2, hjx, hfit, hjm, htk, Int.toNat_natCast, List.getElem?_map, Option.map_some, List.length_map, List.length_take]); refine hK _ ?_; clear hK K))
        refine hK _ ?_; clear hK K
        (refine awp_reg_end [0, 1, 2, 3, 11, 13, 14, 33, 34, 35] fun K hK => ?_; (repeat' (first | ((first | refine al_r rfl fun K' hK' => ?_ | refine al_d rfl fun K' hK' => ?_ | refine al_t rfl rfl fun K' hK' => ?_); (repeat (first | (simp only [go_sem, simprocAttr, hn, hjn, hj2, hjx, hfit, hjm, htk, Int.toNat_natCast, List.getElem?_map, Option.map_some, List.length_map, List.length_take]) | refine AS.mk ?_ | refine AAp.grow ?_)); (first | ((first | refine hK' _ _ ?_ | refine ⟨?_, hK' _ _ ?_⟩ | refine ⟨?_, ?_, hK' _ _ ?_⟩ | refine ⟨?_, ?_, ?_, hK' _ _ ?_⟩) <;> clear hK' K' <;> (first | (show alist _ _ _ _ _ _; skip) | (intro s hs; cases hs; done) | assumption | (simp; done) | omega | (simp; omega) | skip)))) | refine al_e rfl rfl ?_ | refine al_u rfl rfl ?_ | ((fail_if_success (refine al_t rfl rfl fun K' hK' => ?_)); refine al_s _ rfl rfl rfl (fun hb => ?_) (fun hb => ?_)))); all_goals (refine al_nil ?_; (simp only [go_sem, simprocAttr, hn, hjn, hj2, hjx, hfit, hjm, htk, Int.toNat_natCast, List.getElem?_map, Option.map_some, List.length_map, List.length_take]); refine hK _ ?_; clear hK K))
        refine ⟨r.watches.length - (j + 1), by omega, [0, 1, 2, 3, 11, 13, 14, 33, 34, 35], [2], by decide, by intro k hk; exact absurd hk (Nat.not_lt_zero k), j + 1, hj2, rfl, ?_⟩
        rw [take_snoc _ hn, List.map_append]
        simp only [go_sem, simprocAttr, hn, hjn, hj2, hjx, hfit, hjm, htk, Int.toNat_natCast, List.getElem?_map, Option.map_some, List.length_map, List.length_take]
        rfl

      · have hj2 : j = r.watches.length := by simp at hc; omega
        subst hj2
        rw [List.take_length]
        refine awp_exit ?_
        clear hK
        refine hK _ ?_; clear hK K
        refine awp_seq_k fun K hK => ?_

        (refine awp_reg_seq [0, 1, 2, 3, 11, 14, 52, 53, 54] fun K hK => ?_; (repeat' (first | ((first | refine al_r rfl fun K' hK' => ?_ | refine al_d rfl fun K' hK' => ?_ | refine al_t rfl rfl fun K' hK' => ?_); (repeat (first | (simp only [go_sem, simprocAttr, hget, hnn, hil, Int.toNat_natCast, List.getElem?_map, Option.map_some, Row.row, List.length_map, List.length_take]) | refine AS.mk ?_ | refine AAp.grow ?_)); (first | ((first | refine hK' _ _ ?_ | refine ⟨?_, hK' _ _ ?_⟩ | refine ⟨?_, ?_, hK' _ _ ?_⟩ | refine ⟨?_, ?_, ?_, hK' _ _ ?_⟩) <;> clear hK' K' <;> (first | (show alist _ _ _ _ _ _; skip) | (intro s hs; cases hs; done) | assumption | (simp; done) | omega | (simp; omega) | skip)))) | refine al_e rfl rfl ?_ | refine al_u rfl rfl ?_ | ((fail_if_success (refine al_t rfl rfl fun K' hK' => ?_)); refine al_s _ rfl rfl rfl (fun hb => ?_) (fun hb => ?_)))); all_goals (refine al_nil ?_; (simp only [go_sem, simprocAttr, hget, hnn, hil, Int.toNat_natCast, List.getElem?_map, Option.map_some, Row.row, List.length_map, List.length_take]); refine hK _ ?_; clear hK K))
        refine awp_block ?_
        -- loop 1 head [0, 1, 2, 3, 11, 14, 52, 53, 54]
        refine awp_loop_cut (fun m s => ∃ j : Nat, j ≤ r.links.length ∧ m = r.links.length - j ∧ s = ⟨ofL [(0, rows ls), (1, iD ref), (2, bD failed), (3, .p (.lit (.string tx))), (11, iD i), (14, .ref 0 0 (r.watches.length + if failed then j else 0)), (52, ints r.links), (53, iD r.links.length), (54, iD j)], [.row 9 ((r.watches.map (downL ref num tx) ++ if failed then (r.links.take j).map (exitL ref tx) else []).map Letter.row)], 0⟩) ⟨_, 0, Nat.zero_le _, rfl, ?_⟩ ?_
        · cases failed <;> simp
        rintro m s ⟨j, hj, hmj, rfl⟩
        (refine awp_reg_seq [0, 1, 2, 3, 11, 14, 52, 53, 54, 55] fun K hK => ?_; (repeat' (first | ((first | refine al_r rfl fun K' hK' => ?_ | refine al_d rfl fun K' hK' => ?_ | refine al_t rfl rfl fun K' hK' => ?_); (repeat (first | (simp only [go_sem, simprocAttr, hget, hnn, hil, Int.toNat_natCast, List.getElem?_map, Option.map_some, Row.row, List.length_map, List.length_take]) | refine AS.mk ?_ | refine AAp.grow ?_)); (first | ((first | refine hK' _ _ ?_ | refine ⟨?_, hK' _ _ ?_⟩ | refine ⟨?_, ?_, hK' _ _ ?_⟩ | refine ⟨?_, ?_, ?_, hK' _ _ ?_⟩) <;> clear hK' K' <;> (first | (show alist _ _ _ _ _ _; skip) | (intro s hs; cases hs; done) | assumption | (simp; done) | omega | (simp; omega) | skip)))) | refine al_e rfl rfl ?_ | refine al_u rfl rfl ?_ | ((fail_if_success (refine al_t rfl rfl fun K' hK' => ?_)); refine al_s _ rfl rfl rfl (fun hb => ?_) (fun hb => ?_)))); all_goals (refine al_nil ?_; (simp only [go_sem, simprocAttr, hget, hnn, hil, Int.toNat_natCast, List.getElem?_map, Option.map_some, Row.row, List.length_map, List.length_take]); refine hK _ ?_; clear hK K))
        refine awp_seq_k fun K hK => ?_
        refine awp_if (decide ((j : Int) < r.links.length)) rfl (fun hc => ?_) (fun hc => ?_)
        · refine awp_skip ?_
          refine hK _ ?_; clear hK K
          refine awp_seq_k fun K hK => ?_
          refine awp_block ?_
          have hj2 : j < r.links.length := by simpa using hc
          obtain ⟨n, hn⟩ := get_of_lt hj2
          have hjn : (0 : Int) ≤ (j : Int) := Int.natCast_nonneg j
          have hjx : IntKind.i64.wrap ((j : Int) + 1) = ((j + 1 : Nat) : Int) := by rw [wrap_small (by omega) (by omega)]; rfl
          have hfit : (r.watches.length + j + 1) * 104 ≤ 140737488355328 := by omega
          have hjm : min j r.links.length = j := by omega
          have htk : List.take (r.watches.length + j) ((r.watches.map (downL ref num tx)).map Letter.row ++ ((r.links.take j).map (exitL ref tx)).map Letter.row) = (r.watches.map (downL ref num tx)).map Letter.row ++ ((r.links.take j).map (exitL ref tx)).map Letter.row := List.take_of_length_le (by simp; omega)

          (refine awp_reg_seq [0, 1, 2, 3, 11, 14, 18, 52, 53, 54] fun K hK => ?_; (repeat' (first | ((first | refine al_r rfl fun K' hK' => ?_ | refine al_d rfl fun K' hK' => ?_ | refine al_t rfl rfl fun K' hK' => ?_); (repeat (first | (simp only [go_sem, simprocAttr, hn, hjn, hj2, hjx, hfit, hjm, htk, Int.toNat_natCast, List.getElem?_map, Option.map_some, List.length_map, List.length_take, List.length_append]) | refine AS.mk ?_ | refine AAp.grow ?_)); (first | ((first | refine hK' _ _ ?_ | refine ⟨?_, hK' _ _ ?_⟩ | refine ⟨?_, ?_, hK' _ _ ?_⟩ | refine ⟨?_, ?_, ?_, hK' _ _ ?_⟩) <;> clear hK' K' <;> (first | (show alist _ _ _ _ _ _; skip) | (intro s hs; cases hs; done) | assumption | (simp; done) | omega | (simp; omega) | skip)))) | refine al_e rfl rfl ?_ | refine al_u rfl rfl ?_ | ((fail_if_success (refine al_t rfl rfl fun K' hK' => ?_)); refine al_s _ rfl rfl rfl (fun hb => ?_) (fun hb => ?_)))); all_goals (refine al_nil ?_; (simp only [go_sem, simprocAttr, hn, hjn, hj2, hjx, hfit, hjm, htk, Int.toNat_natCast, List.getElem?_map, Option.map_some, List.length_map, List.length_take, List.length_append]); refine hK _ ?_; clear hK K))
          (refine awp_reg_seq [0, 1, 2, 3, 11, 14, 18, 52, 53, 54, 58] fun K hK => ?_; (repeat' (first | ((first | refine al_r rfl fun K' hK' => ?_ | refine al_d rfl fun K' hK' => ?_ | refine al_t rfl rfl fun K' hK' => ?_); (repeat (first | (simp only [go_sem, simprocAttr, hn, hjn, hj2, hjx, hfit, hjm, htk, Int.toNat_natCast, List.getElem?_map, Option.map_some, List.length_map, List.length_take, List.length_append]) | refine AS.mk ?_ | refine AAp.grow ?_)); (first | ((first | refine hK' _ _ ?_ | refine ⟨?_, hK' _ _ ?_⟩ | refine ⟨?_, ?_, hK' _ _ ?_⟩ | refine ⟨?_, ?_, ?_, hK' _ _ ?_⟩) <;> clear hK' K' <;> (first | (show alist _ _ _ _ _ _; skip) | (intro s hs; cases hs; done) | assumption | (simp; done) | omega | (simp; omega) | skip)))) | refine al_e rfl rfl ?_ | refine al_u rfl rfl ?_ | ((fail_if_success (refine al_t rfl rfl fun K' hK' => ?_)); refine al_s _ rfl rfl rfl (fun hb => ?_) (fun hb => ?_)))); all_goals (refine al_nil ?_; (simp only [go_sem, simprocAttr, hn, hjn, hj2, hjx, hfit, hjm, htk, Int.toNat_natCast, List.getElem?_map, Option.map_some, List.length_map, List.length_take, List.length_append]); refine hK _ ?_; clear hK K))
          refine awp_if (_) rfl (fun hc => ?_) (fun hc => ?_)
          · have hcf : failed = true := hc
            subst hcf
            simp only [if_true] at *
            (refine awp_reg_end [0, 1, 2, 3, 11, 14, 52, 53, 54] fun K hK => ?_; (repeat' (first | ((first | refine al_r rfl fun K' hK' => ?_ | refine al_d rfl fun K' hK' => ?_ | refine al_t rfl rfl fun K' hK' => ?_); (repeat (first | (simp only [go_sem, simprocAttr, hn, hjn, hj2, hjx, hfit, hjm, htk, Int.toNat_natCast, List.getElem?_map, Option.map_some, List.length_map, List.length_take, List.length_append]) | refine AS.mk ?_ | refine AAp.grow ?_)); (first | ((first | refine hK' _ _ ?_ | refine ⟨?_, hK' _ _ ?_⟩ | refine ⟨?_, ?_, hK' _ _ ?_⟩ | refine ⟨?_, ?_, ?_, hK' _ _ ?_⟩) <;> clear hK' K' <;> (first | (show alist _ _ _ _ _ _; skip) | (intro s hs; cases hs; done) | assumption | (simp; done) | omega | (simp; omega) | skip)))) | refine al_e rfl rfl ?_ | refine al_u rfl rfl ?_ | ((fail_if_success (refine al_t rfl rfl fun K' hK' => ?_)); refine al_s _ rfl rfl rfl (fun hb => ?_) (fun hb => ?_)))); all_goals (refine al_nil ?_; (simp only [go_sem, simprocAttr, hn, hjn, hj2, hjx, hfit, hjm, htk, Int.toNat_natCast, List.getElem?_map, Option.map_some, List.length_map, List.length_take, List.length_append]); refine hK _ ?_; clear hK K))
            refine hK _ ?_; clear hK K
            (refine awp_reg_end [0, 1, 2, 3, 11, 14, 52, 53, 54] fun K hK => ?_; (repeat' (first | ((first | refine al_r rfl fun K' hK' => ?_ | refine al_d rfl fun K' hK' => ?_ | refine al_t rfl rfl fun K' hK' => ?_); (repeat (first | (simp only [go_sem, simprocAttr, hn, hjn, hj2, hjx, hfit, hjm, htk, Int.toNat_natCast, List.getElem?_map, Option.map_some, List.length_map, List.length_take, List.length_append]) | refine AS.mk ?_ | refine AAp.grow ?_)); (first | ((first | refine hK' _ _ ?_ | refine ⟨?_, hK' _ _ ?_⟩ | refine ⟨?_, ?_, hK' _ _ ?_⟩ | refine ⟨?_, ?_, ?_, hK' _ _ ?_⟩) <;> clear hK' K' <;> (first | (show alist _ _ _ _ _ _; skip) | (intro s hs; cases hs; done) | assumption | (simp; done) | omega | (simp; omega) | skip)))) | refine al_e rfl rfl ?_ | refine al_u rfl rfl ?_ | ((fail_if_success (refine al_t rfl rfl fun K' hK' => ?_)); refine al_s _ rfl rfl rfl (fun hb => ?_) (fun hb => ?_)))); all_goals (refine al_nil ?_; (simp only [go_sem, simprocAttr, hn, hjn, hj2, hjx, hfit, hjm, htk, Int.toNat_natCast, List.getElem?_map, Option.map_some, List.length_map, List.length_take, List.length_append]); refine hK _ ?_; clear hK K))
            (first
              | (refine ⟨r.links.length - (j + 1), by omega, [0, 1, 2, 3, 11, 14, 52, 53, 54], [2], by decide, by intro k hk; exact absurd hk (Nat.not_lt_zero k), j + 1, hj2, rfl, ?_⟩; rw [take_snoc _ hn]; simp only [go_sem, simprocAttr, hn, hjn, hj2, hjx, hfit, hjm, htk, Int.toNat_natCast, List.getElem?_map, Option.map_some, List.length_map, List.length_take, List.length_append, List.map_append, List.append_assoc]; rfl)
              | (refine ⟨r.links.length - (j + 1), by omega, [0, 1, 2, 3, 11, 14, 52, 53, 54], [0], by decide, by intro k hk; exact absurd hk (Nat.not_lt_zero k), j + 1, hj2, rfl, ?_⟩; simp only [go_sem, simprocAttr, hn, hjn, hj2, hjx, hfit, hjm, htk, Int.toNat_natCast, List.getElem?_map, Option.map_some, List.length_map, List.length_take, List.length_append]; done))
          · have hcf : failed = false := hc
            subst hcf
            simp only [Bool.false_eq_true, if_false] at *
            refine awp_skip ?_
            refine hK _ ?_; clear hK K
            (refine awp_reg_end [0, 1, 2, 3, 11, 14, 52, 53, 54] fun K hK => ?_; (repeat' (first | ((first | refine al_r rfl fun K' hK' => ?_ | refine al_d rfl fun K' hK' => ?_ | refine al_t rfl rfl fun K' hK' => ?_); (repeat (first | (simp only [go_sem, simprocAttr, hn, hjn, hj2, hjx, hfit, hjm, htk, Int.toNat_natCast, List.getElem?_map, Option.map_some, List.length_map, List.length_take, List.length_append]) | refine AS.mk ?_ | refine AAp.grow ?_)); (first | ((first | refine hK' _ _ ?_ | refine ⟨?_, hK' _ _ ?_⟩ | refine ⟨?_, ?_, hK' _ _ ?_⟩ | refine ⟨?_, ?_, ?_, hK' _ _ ?_⟩) <;> clear hK' K' <;> (first | (show alist _ _ _ _ _ _; skip) | (intro s hs; cases hs; done) | assumption | (simp; done) | omega | (simp; omega) | skip)))) | refine al_e rfl rfl ?_ | refine al_u rfl rfl ?_ | ((fail_if_success (refine al_t rfl rfl fun K' hK' => ?_)); refine al_s _ rfl rfl rfl (fun hb => ?_) (fun hb => ?_)))); all_goals (refine al_nil ?_; (simp only [go_sem, simprocAttr, hn, hjn, hj2, hjx, hfit, hjm, htk, Int.toNat_natCast, List.getElem?_map, Option.map_some, List.length_map, List.length_take, List.length_append]); refine hK _ ?_; clear hK K))
            (first
              | (refine ⟨r.links.length - (j + 1), by omega, [0, 1, 2, 3, 11, 14, 52, 53, 54], [2], by decide, by intro k hk; exact absurd hk (Nat.not_lt_zero k), j + 1, hj2, rfl, ?_⟩; rw [take_snoc _ hn]; simp only [go_sem, simprocAttr, hn, hjn, hj2, hjx, hfit, hjm, htk, Int.toNat_natCast, List.getElem?_map, Option.map_some, List.length_map, List.length_take, List.length_append, List.map_append, List.append_assoc]; rfl)
              | (refine ⟨r.links.length - (j + 1), by omega, [0, 1, 2, 3, 11, 14, 52, 53, 54], [0], by decide, by intro k hk; exact absurd hk (Nat.not_lt_zero k), j + 1, hj2, rfl, ?_⟩; simp only [go_sem, simprocAttr, hn, hjn, hj2, hjx, hfit, hjm, htk, Int.toNat_natCast, List.getElem?_map, Option.map_some, List.length_map, List.length_take, List.length_append]; done))

        · have hj2 : j = r.links.length := by simp at hc; omega
          subst hj2
          rw [List.take_length]
          have hol : (outL r ref num failed tx).length = r.watches.length + if failed then r.links.length else 0 := by
            unfold outL; cases failed <;> simp
          have hor : (r.watches.map (downL ref num tx)).map Letter.row ++ List.map Letter.row (if failed then r.links.map (exitL ref tx) else []) = (outL r ref num failed tx).map Letter.row := by unfold outL; rw [List.map_append]
          rw [hor, ← hol]
          generalize outL r ref num failed tx = O at hR
          have htk1 : List.take O.length (O.map Letter.row) = O.map Letter.row := List.take_of_length_le (by simp)
          have htk2 : List.take (ls.length - 1) ((ls.eraseIdx i).map Row.row ++ [[.lit (.int .i64 0), .sl [], .sl []]]) = (ls.eraseIdx i).map Row.row := by
            have : (ls.eraseIdx i).length = ls.length - 1 := by rw [List.length_eraseIdx, if_pos hil]
            rw [List.take_append_of_le_length (by simp [this]), List.take_of_length_le (by simp [this])]

          refine awp_exit ?_
          clear hK
          refine hK _ ?_; clear hK K
          (refine awp_reg_seq [8, 9, 10] fun K hK => ?_; (repeat' (first | ((first | refine al_r rfl fun K' hK' => ?_ | refine al_d rfl fun K' hK' => ?_ | refine al_t rfl rfl fun K' hK' => ?_); (repeat (first | (simp only [go_sem, simprocAttr, hnx, List.length_map]) | refine AS.mk ?_ | refine AAp.grow ?_)); (first | ((first | refine hK' _ _ ?_ | refine ⟨?_, hK' _ _ ?_⟩ | refine ⟨?_, ?_, hK' _ _ ?_⟩ | refine ⟨?_, ?_, ?_, hK' _ _ ?_⟩) <;> clear hK' K' <;> (first | (show alist _ _ _ _ _ _; skip) | (intro s hs; cases hs; done) | assumption | (simp; done) | omega | (simp; omega) | skip)) | ((show AC _ _ (D.fn 40 _) _ _); refine acall_new (f := 40) Try.call40 hcp rfl ?_; rintro r obs' ⟨rfl, rfl⟩; (simp only [go_sem, simprocAttr, hnx, List.length_map]); refine hK' _ _ ?_; clear hK' K') | ((show AC _ _ (D.fn 39 _) _ _); refine acall_m (f := 39) [1] Try.call39 hdel rfl rfl (by decide) (by simp) ?_; rintro r obs' ⟨rfl, rfl⟩; refine ⟨by simp, ?_⟩; (simp only [go_sem, simprocAttr, hnx, List.length_map]); refine hK' _ _ ?_; clear hK' K'))) | refine al_e rfl rfl ?_ | refine al_u rfl rfl ?_ | ((fail_if_success (refine al_t rfl rfl fun K' hK' => ?_)); refine al_s _ rfl rfl rfl (fun hb => ?_) (fun hb => ?_)))); all_goals (refine al_nil ?_; (simp only [go_sem, simprocAttr, hnx, List.length_map]); refine hK _ ?_; clear hK K))
          (refine awp_frz [8, 9, 10] [] (by decide) (by simp) ?_; simp only [go_sem, simprocAttr, hnx, List.length_map])
          rw [htk1, htk2]
          all_goals (refine awp_ret ?_; (first | refine hR _ _ (.inl rfl) rfl ?_ | refine hR _ _ (.inl rfl) rfl ?_ ?_); (first | (simp only [go_sem, simprocAttr, hnx, List.length_map, *, Bool.and_true, Bool.and_false, Bool.true_and, Bool.false_and, Bool.or_true, Bool.true_or, Bool.or_false, Bool.false_or, Bool.not_true, Bool.not_false, Bool.false_eq_true]; done) | contradiction | (simp_all; done) | simp only [go_sem, simprocAttr, hnx, List.length_map, *, Bool.and_true, Bool.and_false, Bool.true_and, Bool.false_and, Bool.or_true, Bool.true_or, Bool.or_false, Bool.false_or, Bool.not_true, Bool.not_false, Bool.false_eq_true]))
    (refine awp_reg_seq [0, 1, 2, 3, 11, 13, 28] fun K hK => ?_; (repeat' (first | ((first | refine al_r rfl fun K' hK' => ?_ | refine al_d rfl fun K' hK' => ?_ | refine al_t rfl rfl fun K' hK' => ?_); (repeat (first | (simp only [go_sem, simprocAttr, hnx, List.length_map]) | refine AS.mk ?_ | refine AAp.grow ?_)); (first | ((first | refine hK' _ _ ?_ | refine ⟨?_, hK' _ _ ?_⟩ | refine ⟨?_, ?_, hK' _ _ ?_⟩ | refine ⟨?_, ?_, ?_, hK' _ _ ?_⟩) <;> clear hK' K' <;> (first | (show alist _ _ _ _ _ _; skip) | (intro s hs; cases hs; done) | assumption | (simp; done) | omega | (simp; omega) | skip)))) | refine al_e rfl rfl ?_ | refine al_u rfl rfl ?_ | ((fail_if_success (refine al_t rfl rfl fun K' hK' => ?_)); refine al_s _ rfl rfl rfl (fun hb => ?_) (fun hb => ?_)))); all_goals (refine al_nil ?_; (simp only [go_sem, simprocAttr, hnx, List.length_map]); refine hK _ ?_; clear hK K))
    refine awp_if (_) rfl (fun hc => ?_) (fun hc => ?_)
    · (refine awp_reg_end [0, 1, 2, 3, 11, 13] fun K hK => ?_; (repeat' (first | ((first | refine al_r rfl fun K' hK' => ?_ | refine al_d rfl fun K' hK' => ?_ | refine al_t rfl rfl fun K' hK' => ?_); (repeat (first | (simp only [go_sem, simprocAttr, hnx, List.length_map]) | refine AS.mk ?_ | refine AAp.grow ?_)); (first | ((first | refine hK' _ _ ?_ | refine ⟨?_, hK' _ _ ?_⟩ | refine ⟨?_, ?_, hK' _ _ ?_⟩ | refine ⟨?_, ?_, ?_, hK' _ _ ?_⟩) <;> clear hK' K' <;> (first | (show alist _ _ _ _ _ _; skip) | (intro s hs; cases hs; done) | assumption | (simp; done) | omega | (simp; omega) | skip)))) | refine al_e rfl rfl ?_ | refine al_u rfl rfl ?_ | ((fail_if_success (refine al_t rfl rfl fun K' hK' => ?_)); refine al_s _ rfl rfl rfl (fun hb => ?_) (fun hb => ?_)))); all_goals (refine al_nil ?_; (simp only [go_sem, simprocAttr, hnx, List.length_map]); refine hK _ ?_; clear hK K))
      have e1 : num = if failed then 1 else 0 := hnum
      have e2 : tx = if failed then text else ⟨#[]⟩ := htx
      rw [hc] at e1 e2
      simp only [if_true, Bool.false_eq_true, if_false] at e1 e2
      rw [e1, e2] at key
      exact key
    · (refine awp_reg_end [0, 1, 2, 3, 11, 13] fun K hK => ?_; (repeat' (first | ((first | refine al_r rfl fun K' hK' => ?_ | refine al_d rfl fun K' hK' => ?_ | refine al_t rfl rfl fun K' hK' => ?_); (repeat (first | (simp only [go_sem, simprocAttr, hnx, List.length_map]) | refine AS.mk ?_ | refine AAp.grow ?_)); (first | ((first | refine hK' _ _ ?_ | refine ⟨?_, hK' _ _ ?_⟩ | refine ⟨?_, ?_, hK' _ _ ?_⟩ | refine ⟨?_, ?_, ?_, hK' _ _ ?_⟩) <;> clear hK' K' <;> (first | (show alist _ _ _ _ _ _; skip) | (intro s hs; cases hs; done) | assumption | (simp; done) | omega | (simp; omega) | skip)))) | refine al_e rfl rfl ?_ | refine al_u rfl rfl ?_ | ((fail_if_success (refine al_t rfl rfl fun K' hK' => ?_)); refine al_s _ rfl rfl rfl (fun hb => ?_) (fun hb => ?_)))); all_goals (refine al_nil ?_; (simp only [go_sem, simprocAttr, hnx, List.length_map]); refine hK _ ?_; clear hK K))
      have e1 : num = if failed then 1 else 0 := hnum
      have e2 : tx = if failed then text else ⟨#[]⟩ := htx
      rw [hc] at e1 e2
      simp only [if_true, Bool.false_eq_true, if_false] at e1 e2
      rw [e1, e2] at key
      exact key
end Go.Proofs.Ytfjfiemcdnicoaa.P
