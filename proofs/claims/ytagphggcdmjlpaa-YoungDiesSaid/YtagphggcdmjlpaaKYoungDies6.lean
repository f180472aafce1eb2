/- Texts of this proof, joined: Y30, Y31, YK, Y32. -/
import Derived.Test.YtagphggcdmjlpaaKYoungDies5
set_option linter.unusedSimpArgs false
set_option linter.unusedVariables false
set_option maxHeartbeats 1000000
/- Ages that grow (roadkeep3's grown): a contract. -/
namespace Go.Proofs.Ytagphggcdmjlpaa.P
open Go.Ab Go.Proofs.Ytagphggcdmjlpaa.T

abbrev prow (s : Int × Int) : List PV := [.lit (.int .i64 s.1), .lit (.int .i64 s.2)]
abbrev pairs (l : List (Int × Int)) : D := .p (.sl (l.map prow))

/-- What grown answers. -/
def GrownR (r : D) : Prop := ∃ h old late roots, r = .tup [agesD h old late, words roots, bD true] ∧ GoodS h old late roots ∧ roots.length ≤ 8


set_option maxRecDepth 100000 in
theorem grownC (f : Nat) (l : List (List PV)) (sets : List (Int × Int)) (minors : List Int) (hl : ∀ x, x ∈ l → shapeOk Try.prog f 38 x) (hlen : l.length ≤ maxLen) (hsl : sets.length ≤ maxLen) (hml : minors.length ≤ maxLen) :
    ACalls Try.prog 37 [.p (.sl l), pairs sets, ints minors] [] (fun r obs' => GrownR r ∧ obs' = []) := by
  refine acallm_fnv [.cell 6 64, .tmp 7, .tmp 8] Try.func37 rfl rfl Try.ntmps37 (by simp) (by simp) fun R hR => ?_
  (refine awp_reg_seq [0, 1, 2, 6] fun K hK => ?_; (repeat' ((refine al_r rfl fun K' hK' => ?_); (repeat (simp only [go_sem, simprocAttr, List.length_map])); ((refine hK' _ _ ?_) <;> clear hK' K'))); all_goals (refine al_nil ?_; (simp only [go_sem, simprocAttr, List.length_map]); refine hK _ ?_; clear hK K))
  (refine awp_reg_seq [0, 1, 2, 6, 9] fun K hK => ?_; (repeat' ((refine al_r rfl fun K' hK' => ?_); (repeat (simp only [go_sem, simprocAttr, List.length_map])); ((refine hK' _ _ ?_) <;> clear hK' K'))); all_goals (refine al_nil ?_; (simp only [go_sem, simprocAttr, List.length_map]); refine hK _ ?_; clear hK K))
  refine awp_soft_box 1 0 rfl rfl ?_
  refine awp_soft_box 1 2 rfl rfl ?_
  simp only [go_sem, simprocAttr, List.length_map]
  (refine awp_reg_seq [0, 1, 2, 6, 9, 10] fun K hK => ?_; (repeat' ((refine al_r rfl fun K' hK' => ?_); (repeat (simp only [go_sem, simprocAttr, List.length_map])); ((refine hK' _ _ ?_) <;> clear hK' K'))); all_goals (refine al_nil ?_; (simp only [go_sem, simprocAttr, List.length_map]); refine hK _ ?_; clear hK K))
  refine awp_born 10 1 rfl ?_
  refine awp_seq_k fun K hK => ?_
  (refine awp_reg_seq [1, 2, 6, 9, 10, 19, 20, 21] fun K hK => ?_; (repeat' ((refine al_r rfl fun K' hK' => ?_); (repeat (simp only [go_sem, simprocAttr, List.length_map])); ((first | refine hK' _ _ ?_ | refine ⟨?_, hK' _ _ ?_⟩) <;> clear hK' K' <;> (first | (show alist _ _ _ _ _ _; skip) | (intro s hs; cases hs; done))))); all_goals (refine al_nil ?_; (simp only [go_sem, simprocAttr, List.length_map]); refine hK _ ?_; clear hK K))
  refine awp_block ?_
  -- loop 0 head [1, 2, 6, 9, 10, 19, 20, 21]
  refine awp_loop_cut (fun m s => ∃ (i : Nat) (h : List Int) (old : Int) (late roots : List Int), i ≤ l.length ∧ m = l.length - i ∧ i ≤ 8 ∧ roots.length ≤ i ∧ GoodS h old late roots ∧ s = ⟨ofL [(1, pairs sets), (2, ints minors), (6, .ptr 0 0 0), (9, .ptr 1 0 0), (10, .ref 2 0 roots.length), (19, .p (.sl l)), (20, iD l.length), (21, iD i)], [.box [.nil, iD 0, .nil], .box [words h, iD old, ints late], .row 1 (roots.map wrow)], 0⟩) ⟨_, 0, [], 0, [], [], Nat.zero_le _, rfl, Nat.zero_le _, Nat.le_refl _, goodS_nil, rfl⟩ ?_
  rintro m s ⟨i, h, old, late, roots, hi, hmi, hi8, hrl, hg, rfl⟩
  have htr0 : List.take roots.length (roots.map wrow) = roots.map wrow := List.take_of_length_le (by simp)

  (refine awp_reg_seq [1, 2, 6, 9, 10, 19, 20, 21, 22] fun K hK => ?_; (repeat' ((refine al_r rfl fun K' hK' => ?_); (repeat (simp only [go_sem, simprocAttr, List.length_map, htr0, List.drop_zero])); ((refine hK' _ _ ?_) <;> clear hK' K'))); all_goals (refine al_nil ?_; (simp only [go_sem, simprocAttr, List.length_map, htr0, List.drop_zero]); refine hK _ ?_; clear hK K))
  refine awp_seq_k fun K hK => ?_
  refine awp_if (decide ((i : Int) < (l.length : Int))) rfl (fun hc => ?_) (fun hc => ?_)
  · refine awp_skip ?_
    refine hK _ ?_; clear hK K
    refine awp_seq_k fun K hK => ?_
    refine awp_block ?_
    have hi2 : i < l.length := by simpa using hc
    obtain ⟨x, hget⟩ := get_of_lt hi2
    have hx := hl x (List.mem_of_getElem? hget)
    obtain ⟨k, n, text, args, _, rfl, _⟩ := sh38 hx
    obtain ⟨b, hfl⟩ := flatP f k n text args hx
    obtain ⟨g, old2, late2, w, e, hadd, hae⟩ := addS hg hx
    simp only [List.map_cons, List.map_nil] at hadd
    have hnn : (0 : Int) ≤ (i : Int) := Int.natCast_nonneg i
    have hnx : IntKind.i64.wrap ((i : Int) + 1) = ((i + 1 : Nat) : Int) := wrap_next hi2 hlen
    obtain ⟨X, hX⟩ : ∃ X, decide ((i : Int) ≥ 8) = X := ⟨_, rfl⟩

    (refine awp_reg_seq [1, 2, 6, 9, 10, 11, 12, 19, 20, 21] fun K hK => ?_; (repeat' ((first | refine al_r rfl fun K' hK' => ?_ | refine al_d rfl fun K' hK' => ?_); (repeat (first | (simp only [go_sem, simprocAttr, List.length_map, htr0, List.drop_zero, hget, hnn, hi2, hnx, hX, Int.toNat_natCast, List.getElem?_map, Option.map_some]) | refine AS.mk ?_)); ((first | refine hK' _ _ ?_ | refine ⟨?_, hK' _ _ ?_⟩) <;> clear hK' K' <;> (first | (show alist _ _ _ _ _ _; skip) | (simp; done))))); all_goals (refine al_nil ?_; (simp only [go_sem, simprocAttr, List.length_map, htr0, List.drop_zero, hget, hnn, hi2, hnx, hX, Int.toNat_natCast, List.getElem?_map, Option.map_some]); refine hK _ ?_; clear hK K))
    (refine awp_frz [1, 2, 6, 9, 10, 11, 12, 19, 20, 21] [0, 1, 2] (by decide) (by (simp; done)) ?_; simp only [go_sem, simprocAttr, List.length_map, htr0, List.drop_zero, hget, hnn, hi2, hnx, hX, Int.toNat_natCast, List.getElem?_map, Option.map_some])
    refine awp_seq_k fun K hK => ?_
    refine awp_reg_tov [1, 2, 6, 9, 10, 11, 12, 19, 20, 21, 32] [(32, bD (X || !b))] (h := ?_) (k := ?_)
    · cases X <;> cases b
      all_goals ((repeat' (first | ((first | refine al_r rfl fun K' hK' => ?_ | refine al_t rfl rfl fun K' hK' => ?_); (repeat (simp only [go_sem, simprocAttr, List.length_map, htr0, List.drop_zero, hget, hnn, hi2, hnx, hX, Int.toNat_natCast, List.getElem?_map, Option.map_some])); (first | ((refine hK' _ _ ?_) <;> clear hK' K') | ((show AC _ _ (D.fn 22 _) _ _); refine acall_p (f := 22) (e := rfl) (hr := rfl) (k := hK' _ _ ?_) (hc := Try.call22) (h := hfl); clear hK' K'))) | refine al_e rfl rfl ?_)); all_goals (refine al_nil ?_; (simp only [go_sem, simprocAttr, List.length_map, htr0, List.drop_zero, hget, hnn, hi2, hnx, hX, Int.toNat_natCast, List.getElem?_map, Option.map_some, *, Bool.and_true, Bool.and_false, Bool.true_and, Bool.false_and, Bool.or_true, Bool.true_or, Bool.or_false, Bool.false_or, Bool.not_true, Bool.not_false, Bool.false_eq_true]; done)))
    (intro K hK; (simp only [go_sem, simprocAttr, List.length_map, htr0, List.drop_zero, hget, hnn, hi2, hnx, hX, Int.toNat_natCast, List.getElem?_map, Option.map_some]); refine hK _ ?_; clear hK K)
    refine awp_if (X || !b) rfl (fun hc => ?_) (fun hc => ?_)
    · refine awp_exit ?_
      clear hK
      clear hK
      refine hK _ ?_; clear hK K
      (refine awp_reg_seq [6, 7, 8] fun K hK => ?_; (repeat' ((first | refine al_r rfl fun K' hK' => ?_ | refine al_d rfl fun K' hK' => ?_); (repeat (first | (simp only [go_sem, simprocAttr, List.length_map, htr0, List.drop_zero, hget, hnn, hi2, hnx, hX, Int.toNat_natCast, List.getElem?_map, Option.map_some]) | refine AS.mk ?_)); ((first | refine hK' _ _ ?_ | refine ⟨?_, hK' _ _ ?_⟩) <;> clear hK' K' <;> (first | (show alist _ _ _ _ _ _; skip) | (simp; done))))); all_goals (refine al_nil ?_; (simp only [go_sem, simprocAttr, List.length_map, htr0, List.drop_zero, hget, hnn, hi2, hnx, hX, Int.toNat_natCast, List.getElem?_map, Option.map_some]); refine hK _ ?_; clear hK K))
      (refine awp_frz [6, 7, 8] [] (by decide) (by (simp; done)) ?_; simp only [go_sem, simprocAttr, List.length_map, htr0, List.drop_zero, hget, hnn, hi2, hnx, hX, Int.toNat_natCast, List.getElem?_map, Option.map_some])
      refine awp_ret (hR _ _ (.inl rfl) rfl ⟨[], (.tup [agesD h old late, words roots, bD true]), by decide, by simp only [List.length_cons, List.length_nil]; decide, ?_, ?_⟩)
      · simp only [go_sem, simprocAttr, List.length_map, htr0, List.drop_zero, hget, hnn, hi2, hnx, hX, Int.toNat_natCast, List.getElem?_map, Option.map_some, htr0]
      · refine ⟨⟨h, old, late, roots, ?_, hg, by omega⟩, ?_⟩ <;> simp only [go_sem, simprocAttr, List.length_map, htr0, List.drop_zero, hget, hnn, hi2, hnx, hX, Int.toNat_natCast, List.getElem?_map, Option.map_some]
    · have hX8 : i < 8 := by
        rw [Bool.or_eq_false_iff] at hc
        rw [hc.1] at hX
        simp at hX
        omega
      refine awp_skip ?_
      refine hK _ ?_; clear hK K
      (refine awp_reg_seq [1, 2, 6, 9, 10, 11, 13, 14, 15, 19, 20, 21] fun K hK => ?_; (repeat' ((first | refine al_r rfl fun K' hK' => ?_ | refine al_d rfl fun K' hK' => ?_); (repeat (first | (simp only [go_sem, simprocAttr, List.length_map, htr0, List.drop_zero, hget, hnn, hi2, hnx, hX, Int.toNat_natCast, List.getElem?_map, Option.map_some]) | refine AS.mk ?_)); (first | ((first | refine hK' _ _ ?_ | refine ⟨?_, hK' _ _ ?_⟩) <;> clear hK' K' <;> (first | (show alist _ _ _ _ _ _; skip) | (simp; done))) | ((show AC _ _ (D.fn 71 _) _ _); refine acall_p (f := 71) (e := rfl) (hr := rfl) (k := hK' _ _ ?_) (hc := Try.call71) (h := hadd); clear hK' K')))); all_goals (refine al_nil ?_; (simp only [go_sem, simprocAttr, List.length_map, htr0, List.drop_zero, hget, hnn, hi2, hnx, hX, Int.toNat_natCast, List.getElem?_map, Option.map_some]); refine hK _ ?_; clear hK K))
      (refine awp_frz [1, 2, 6, 9, 10, 11, 13, 14, 15, 19, 20, 21] [0, 1, 2] (by decide) (by (simp; done)) ?_; simp only [go_sem, simprocAttr, List.length_map, htr0, List.drop_zero, hget, hnn, hi2, hnx, hX, Int.toNat_natCast, List.getElem?_map, Option.map_some])
      refine awp_seq_k fun K hK => ?_
      (refine awp_reg_seq [1, 2, 6, 9, 10, 11, 13, 14, 19, 20, 21, 41] fun K hK => ?_; (repeat' ((refine al_r rfl fun K' hK' => ?_); (repeat (simp only [go_sem, simprocAttr, List.length_map, htr0, List.drop_zero, hget, hnn, hi2, hnx, hX, Int.toNat_natCast, List.getElem?_map, Option.map_some])); ((refine hK' _ _ ?_) <;> clear hK' K'))); all_goals (refine al_nil ?_; (simp only [go_sem, simprocAttr, List.length_map, htr0, List.drop_zero, hget, hnn, hi2, hnx, hX, Int.toNat_natCast, List.getElem?_map, Option.map_some]); refine hK _ ?_; clear hK K))
      refine awp_if (e != 0) rfl (fun hc => ?_) (fun hc => ?_)
      · refine awp_exit ?_
        clear hK
        refine hK _ ?_; clear hK K
        (refine awp_reg_end [1, 2, 6, 9, 10, 19, 20, 21] fun K hK => ?_; (repeat' ((refine al_r rfl fun K' hK' => ?_); (repeat (simp only [go_sem, simprocAttr, List.length_map, htr0, List.drop_zero, hget, hnn, hi2, hnx, hX, Int.toNat_natCast, List.getElem?_map, Option.map_some])); ((refine hK' _ _ ?_) <;> clear hK' K'))); all_goals (refine al_nil ?_; (simp only [go_sem, simprocAttr, List.length_map, htr0, List.drop_zero, hget, hnn, hi2, hnx, hX, Int.toNat_natCast, List.getElem?_map, Option.map_some]); refine hK _ ?_; clear hK K))
        (first
          | exact ⟨l.length - (i + 1), by omega, [1, 2, 6, 9, 10, 19, 20, 21], [0, 1, 2], by decide, by intro q hq; exact absurd hq (Nat.not_lt_zero q), i + 1, _, _, _, _, hi2, rfl, by omega, by omega, hg4, rfl⟩
          | exact ⟨l.length - (i + 1), by omega, [1, 2, 6, 9, 10, 19, 20, 21], [0, 1, 2], by decide, by intro q hq; exact absurd hq (Nat.not_lt_zero q), i + 1, _, _, _, _, hi2, rfl, by omega, by omega, hg3, rfl⟩
          | exact ⟨l.length - (i + 1), by omega, [1, 2, 6, 9, 10, 19, 20, 21], [0, 1, 2], by decide, by intro q hq; exact absurd hq (Nat.not_lt_zero q), i + 1, _, _, _, _, hi2, rfl, by omega, by omega, hg, rfl⟩)
      · have he0 : e = 0 := by simpa using hc
        have hg2 := (hae.resolve_left fun h => h he0).2
        obtain ⟨rs, hrs⟩ : ∃ rs, rs = roots ++ [w] := ⟨_, rfl⟩
        have hrsl : rs.length = roots.length + 1 := by rw [hrs]; simp
        rw [← hrs] at hg2
        have hfit : (roots.length + 1) * 8 ≤ 140737488355328 := by omega
        have hmrs : roots.map wrow ++ [wrow w] = rs.map wrow := by rw [hrs]; simp
        have htr : List.take rs.length (rs.map wrow) = rs.map wrow := List.take_of_length_le (by simp)

        refine awp_skip ?_
        refine hK _ ?_; clear hK K
        refine awp_draw_seq (by kernel_rfl) [1, 2, 6, 9, 10, 11, 19, 20, 21] fun K hK => ?_
        ((refine ah_r 0 rfl (by kernel_rfl) rfl fun K' hK' => ?_); (simp only [go_sem, simprocAttr, List.length_map, htr0, htr, List.drop_zero, hnn, hi2, hnx, hfit, hmrs, ← hrsl, Int.toNat_natCast, List.getElem?_map, Option.map_some]); ((refine hK' _ ?_); clear hK' K'))
        ((refine ah_r 1 rfl (by kernel_rfl) rfl fun K' hK' => ?_); (simp only [go_sem, simprocAttr, List.length_map, htr0, htr, List.drop_zero, hnn, hi2, hnx, hfit, hmrs, ← hrsl, Int.toNat_natCast, List.getElem?_map, Option.map_some]); ((refine hK' _ ?_); clear hK' K'))
        ((refine ah_r 2 rfl (by kernel_rfl) rfl fun K' hK' => ?_); (simp only [go_sem, simprocAttr, List.length_map, htr0, htr, List.drop_zero, hnn, hi2, hnx, hfit, hmrs, ← hrsl, Int.toNat_natCast, List.getElem?_map, Option.map_some]); ((refine hK' _ ?_); clear hK' K'))
        (refine ah_one 3 rfl (by kernel_rfl) ?_; (repeat' ((refine al_r rfl fun K' hK' => ?_); (repeat (simp only [go_sem, simprocAttr, List.length_map, htr0, htr, List.drop_zero, hnn, hi2, hnx, hfit, hmrs, ← hrsl, Int.toNat_natCast, List.getElem?_map, Option.map_some])); ((refine hK' _ _ ?_) <;> clear hK' K'))); all_goals refine al_nil ?_)
        (refine ah_one 4 rfl (by kernel_rfl) ?_; (repeat' ((refine al_r rfl fun K' hK' => ?_); (repeat (first | (simp only [go_sem, simprocAttr, List.length_map, htr0, htr, List.drop_zero, hnn, hi2, hnx, hfit, hmrs, ← hrsl, Int.toNat_natCast, List.getElem?_map, Option.map_some]) | refine AAp.grow ?_)); ((refine ⟨?_, ?_, ?_, hK' _ _ ?_⟩) <;> clear hK' K' <;> (first | (show alist _ _ _ _ _ _; skip) | (simp; done) | omega)))); all_goals refine al_nil ?_)
        (refine ah_one 5 rfl (by kernel_rfl) ?_; (repeat' ((refine al_d rfl fun K' hK' => ?_); (repeat (first | (simp only [go_sem, simprocAttr, List.length_map, htr0, htr, List.drop_zero, hnn, hi2, hnx, hfit, hmrs, ← hrsl, Int.toNat_natCast, List.getElem?_map, Option.map_some]) | refine AS.mk ?_)); ((refine ⟨?_, hK' _ _ ?_⟩) <;> clear hK' K' <;> (first | (show alist _ _ _ _ _ _; skip) | (simp; done))))); all_goals refine al_nil ?_)
        ((refine ah_r 6 rfl (by kernel_rfl) rfl fun K' hK' => ?_); (simp only [go_sem, simprocAttr, List.length_map, htr0, htr, List.drop_zero, hnn, hi2, hnx, hfit, hmrs, ← hrsl, Int.toNat_natCast, List.getElem?_map, Option.map_some]); ((refine hK' _ ?_); clear hK' K'))
        (refine ah_done (by kernel_rfl) ?_; (simp only [go_sem, simprocAttr, List.length_map, htr0, htr, List.drop_zero, hnn, hi2, hnx, hfit, hmrs, ← hrsl, Int.toNat_natCast, List.getElem?_map, Option.map_some]); refine hK _ ?_; clear hK K)
        (refine awp_frz [1, 2, 6, 9, 10, 11, 19, 20, 21] [0, 1, 4] (by decide) (by (simp; done)) ?_; simp only [go_sem, simprocAttr, List.length_map, htr0, htr, List.drop_zero, hnn, hi2, hnx, hfit, hmrs, ← hrsl, Int.toNat_natCast, List.getElem?_map, Option.map_some])
        refine awp_seq_kc fun K hK hcut => ?_
        have key : ∀ (h3 : List Int) (old3 : Int) (late3 : List Int), GoodS h3 old3 late3 rs → K ⟨ofL [(1, pairs sets), (2, ints minors), (6, .ptr 0 0 0), (9, .ptr 1 0 0), (10, .ref 2 0 rs.length), (11, iD i), (19, .p (.sl l)), (20, iD l.length), (21, iD i)], [.box [.nil, iD 0, .nil], .box [words h3, iD old3, ints late3], .row 1 (rs.map wrow)], 0⟩ := by
          clear hcut
          intro h3 old3 late3 hg3
          obtain ⟨h4, out, hmin, hol, _, hg4⟩ := minorS hg3 (by omega)
          rw [← hol] at hmin
          have hne : ((out.length : Int) != (rs.length : Int)) = false := by rw [hol]; exact bne_self_eq_false _
          have hcon := contains minors hml (i : Int)

          refine hK _ ?_; clear hK K
          (refine awp_reg_seq [1, 2, 6, 9, 10, 19, 20, 21, 60] fun K hK => ?_; (repeat' ((refine al_r rfl fun K' hK' => ?_); (repeat (simp only [go_sem, simprocAttr, List.length_map, htr, List.drop_zero, hnn, hi2, hnx, hne, bne_self_eq_false, Int.toNat_natCast, List.getElem?_map, Option.map_some])); (first | ((refine hK' _ _ ?_) <;> clear hK' K') | ((show AC _ _ (D.fn 32 _) _ _); refine acall_p (f := 32) (e := rfl) (hr := rfl) (k := hK' _ _ ?_) (hc := Try.call32) (h := hcon); clear hK' K')))); all_goals (refine al_nil ?_; (simp only [go_sem, simprocAttr, List.length_map, htr, List.drop_zero, hnn, hi2, hnx, hne, bne_self_eq_false, Int.toNat_natCast, List.getElem?_map, Option.map_some]); refine hK _ ?_; clear hK K))
          refine awp_if (_) rfl (fun hc => ?_) (fun hc => ?_)
          · (refine awp_frz [1, 2, 6, 9, 10, 19, 20, 21] [0, 1] (by decide) (by (simp; done)) ?_; simp only [go_sem, simprocAttr, List.length_map, htr, List.drop_zero, hnn, hi2, hnx, hne, bne_self_eq_false, Int.toNat_natCast, List.getElem?_map, Option.map_some])
            (refine awp_reg_seq [1, 2, 6, 9, 10, 16, 17, 18, 19, 20, 21] fun K hK => ?_; (repeat' ((first | refine al_r rfl fun K' hK' => ?_ | refine al_d rfl fun K' hK' => ?_); (repeat (first | (simp only [go_sem, simprocAttr, List.length_map, htr, List.drop_zero, hnn, hi2, hnx, hne, bne_self_eq_false, Int.toNat_natCast, List.getElem?_map, Option.map_some]) | refine AS.mk ?_)); (first | ((first | refine hK' _ _ ?_ | refine ⟨?_, hK' _ _ ?_⟩) <;> clear hK' K' <;> (first | (show alist _ _ _ _ _ _; skip) | (simp; done))) | ((show AC _ _ (D.fn 38 _) _ _); refine acall_new (f := 38) Try.call38 hmin rfl ?_; rintro r obs' ⟨rfl, rfl⟩; (simp only [go_sem, simprocAttr, List.length_map, htr, List.drop_zero, hnn, hi2, hnx, hne, bne_self_eq_false, Int.toNat_natCast, List.getElem?_map, Option.map_some]); refine hK' _ _ ?_; clear hK' K')))); all_goals (refine al_nil ?_; (simp only [go_sem, simprocAttr, List.length_map, htr, List.drop_zero, hnn, hi2, hnx, hne, bne_self_eq_false, Int.toNat_natCast, List.getElem?_map, Option.map_some]); refine hK _ ?_; clear hK K))
            (refine awp_frz [1, 2, 6, 9, 10, 16, 17, 18, 19, 20, 21] [0, 1, 2] (by decide) (by (simp; done)) ?_; simp only [go_sem, simprocAttr, List.length_map, htr, List.drop_zero, hnn, hi2, hnx, hne, bne_self_eq_false, Int.toNat_natCast, List.getElem?_map, Option.map_some])
            refine awp_seq_k fun K hK => ?_
            (refine awp_reg_seq [1, 2, 6, 9, 16, 17, 19, 20, 21, 76] fun K hK => ?_; (repeat' ((first | refine al_r rfl fun K' hK' => ?_ | refine al_t rfl rfl fun K' hK' => ?_); (repeat (simp only [go_sem, simprocAttr, List.length_map, htr, List.drop_zero, hnn, hi2, hnx, hne, bne_self_eq_false, Int.toNat_natCast, List.getElem?_map, Option.map_some])); ((first | refine hK' _ _ ?_ | refine ⟨?_, hK' _ _ ?_⟩) <;> clear hK' K' <;> (first | (show alist _ _ _ _ _ _; skip) | (intro s hs; cases hs; done))))); all_goals (refine al_nil ?_; (simp only [go_sem, simprocAttr, List.length_map, htr, List.drop_zero, hnn, hi2, hnx, hne, bne_self_eq_false, Int.toNat_natCast, List.getElem?_map, Option.map_some]); refine hK _ ?_; clear hK K))
            refine awp_if (_) rfl (fun hc => ?_) (fun hc => ?_)
            · cases hc
            · refine awp_skip ?_
              refine hK _ ?_; clear hK K
              (refine awp_reg_end [1, 2, 6, 9, 10, 19, 20, 21] fun K hK => ?_; (repeat' ((first | refine al_r rfl fun K' hK' => ?_ | refine al_d rfl fun K' hK' => ?_); (repeat (first | (simp only [go_sem, simprocAttr, List.length_map, htr, List.drop_zero, hnn, hi2, hnx, hne, bne_self_eq_false, Int.toNat_natCast, List.getElem?_map, Option.map_some]) | refine AS.mk ?_)); ((first | refine hK' _ _ ?_ | refine ⟨?_, hK' _ _ ?_⟩) <;> clear hK' K' <;> (first | (show alist _ _ _ _ _ _; skip) | (simp; done))))); all_goals (refine al_nil ?_; (simp only [go_sem, simprocAttr, List.length_map, htr, List.drop_zero, hnn, hi2, hnx, hne, bne_self_eq_false, Int.toNat_natCast, List.getElem?_map, Option.map_some]); refine hK _ ?_; clear hK K))
              refine hK _ ?_; clear hK K
              (refine awp_reg_end [1, 2, 6, 9, 10, 19, 20, 21] fun K hK => ?_; (repeat' ((refine al_r rfl fun K' hK' => ?_); (repeat (simp only [go_sem, simprocAttr, List.length_map, htr, List.drop_zero, hnn, hi2, hnx, hne, bne_self_eq_false, Int.toNat_natCast, List.getElem?_map, Option.map_some])); ((refine hK' _ _ ?_) <;> clear hK' K'))); all_goals (refine al_nil ?_; (simp only [go_sem, simprocAttr, List.length_map, htr, List.drop_zero, hnn, hi2, hnx, hne, bne_self_eq_false, Int.toNat_natCast, List.getElem?_map, Option.map_some]); refine hK _ ?_; clear hK K))
              (first
                | exact ⟨l.length - (i + 1), by omega, [1, 2, 6, 9, 10, 19, 20, 21], [0, 1, 2], by decide, by intro q hq; exact absurd hq (Nat.not_lt_zero q), i + 1, _, _, _, _, hi2, rfl, by omega, by omega, hg4, rfl⟩
                | exact ⟨l.length - (i + 1), by omega, [1, 2, 6, 9, 10, 19, 20, 21], [0, 1, 2], by decide, by intro q hq; exact absurd hq (Nat.not_lt_zero q), i + 1, _, _, _, _, hi2, rfl, by omega, by omega, hg3, rfl⟩
                | exact ⟨l.length - (i + 1), by omega, [1, 2, 6, 9, 10, 19, 20, 21], [0, 1, 2], by decide, by intro q hq; exact absurd hq (Nat.not_lt_zero q), i + 1, _, _, _, _, hi2, rfl, by omega, by omega, hg, rfl⟩)
          · refine awp_skip ?_
            refine hK _ ?_; clear hK K
            (refine awp_reg_end [1, 2, 6, 9, 10, 19, 20, 21] fun K hK => ?_; (repeat' ((refine al_r rfl fun K' hK' => ?_); (repeat (simp only [go_sem, simprocAttr, List.length_map, htr, List.drop_zero, hnn, hi2, hnx, hne, bne_self_eq_false, Int.toNat_natCast, List.getElem?_map, Option.map_some])); ((refine hK' _ _ ?_) <;> clear hK' K'))); all_goals (refine al_nil ?_; (simp only [go_sem, simprocAttr, List.length_map, htr, List.drop_zero, hnn, hi2, hnx, hne, bne_self_eq_false, Int.toNat_natCast, List.getElem?_map, Option.map_some]); refine hK _ ?_; clear hK K))
            (first
              | exact ⟨l.length - (i + 1), by omega, [1, 2, 6, 9, 10, 19, 20, 21], [0, 1, 2], by decide, by intro q hq; exact absurd hq (Nat.not_lt_zero q), i + 1, _, _, _, _, hi2, rfl, by omega, by omega, hg4, rfl⟩
              | exact ⟨l.length - (i + 1), by omega, [1, 2, 6, 9, 10, 19, 20, 21], [0, 1, 2], by decide, by intro q hq; exact absurd hq (Nat.not_lt_zero q), i + 1, _, _, _, _, hi2, rfl, by omega, by omega, hg3, rfl⟩
              | exact ⟨l.length - (i + 1), by omega, [1, 2, 6, 9, 10, 19, 20, 21], [0, 1, 2], by decide, by intro q hq; exact absurd hq (Nat.not_lt_zero q), i + 1, _, _, _, _, hi2, rfl, by omega, by omega, hg, rfl⟩)

        (refine awp_reg_seq [1, 2, 6, 9, 10, 11, 19, 20, 21, 50] fun K hK => ?_; (repeat' ((refine al_r rfl fun K' hK' => ?_); (repeat (simp only [go_sem, simprocAttr, List.length_map, List.drop_zero])); ((first | refine hK' _ _ ?_ | refine ⟨?_, hK' _ _ ?_⟩) <;> clear hK' K' <;> (first | (show alist _ _ _ _ _ _; skip) | (intro s hs; cases hs; done))))); all_goals (refine al_nil ?_; (simp only [go_sem, simprocAttr, List.length_map, List.drop_zero]); refine hK _ ?_; clear hK K))
        refine awp_if (decide ((i : Int) < (sets.length : Int))) rfl (fun hc => ?_) (fun hc => ?_)
        · have hi3 : i < sets.length := by simpa using hc
          obtain ⟨s, hgs⟩ := get_of_lt hi3
          obtain ⟨h5, old5, late5, hset, hg5⟩ := setS hg2 (by omega) (by omega) s.1 s.2

          refine awp_draw (by kernel_rfl) [1, 2, 6, 9, 10, 11, 19, 20, 21] fun K hK => ?_
          ((refine ah_r 1 rfl (by kernel_rfl) rfl fun K' hK' => ?_); (simp only [go_sem, simprocAttr, List.length_map, htr0, htr, List.drop_zero, hnn, hi3, hgs, Int.toNat_natCast, List.getElem?_map, Option.map_some]); ((refine hK' _ ?_); clear hK' K'))
          ((refine ah_r 2 rfl (by kernel_rfl) rfl fun K' hK' => ?_); (simp only [go_sem, simprocAttr, List.length_map, htr0, htr, List.drop_zero, hnn, hi3, hgs, Int.toNat_natCast, List.getElem?_map, Option.map_some]); ((refine hK' _ ?_); clear hK' K'))
          ((refine ah_r 3 rfl (by kernel_rfl) rfl fun K' hK' => ?_); (simp only [go_sem, simprocAttr, List.length_map, htr0, htr, List.drop_zero, hnn, hi3, hgs, Int.toNat_natCast, List.getElem?_map, Option.map_some]); ((refine hK' _ ?_); clear hK' K'))
          ((refine ah_r 4 rfl (by kernel_rfl) rfl fun K' hK' => ?_); (simp only [go_sem, simprocAttr, List.length_map, htr0, htr, List.drop_zero, hnn, hi3, hgs, Int.toNat_natCast, List.getElem?_map, Option.map_some]); ((refine hK' _ ?_); clear hK' K'))
          ((refine ah_r 5 rfl (by kernel_rfl) rfl fun K' hK' => ?_); (simp only [go_sem, simprocAttr, List.length_map, htr0, htr, List.drop_zero, hnn, hi3, hgs, Int.toNat_natCast, List.getElem?_map, Option.map_some]); ((refine hK' _ ?_); clear hK' K'))
          (refine ah_one 0 rfl (by kernel_rfl) ?_; (repeat' ((refine al_r rfl fun K' hK' => ?_); (repeat (simp only [go_sem, simprocAttr, List.length_map, htr0, htr, List.drop_zero, hnn, hi3, hgs, Int.toNat_natCast, List.getElem?_map, Option.map_some])); ((refine hK' _ _ ?_) <;> clear hK' K'))); all_goals refine al_nil ?_)
          (refine ah_one 6 rfl (by kernel_rfl) ?_; (repeat' ((refine al_r rfl fun K' hK' => ?_); (repeat (simp only [go_sem, simprocAttr, List.length_map, htr0, htr, List.drop_zero, hnn, hi3, hgs, Int.toNat_natCast, List.getElem?_map, Option.map_some])); ((show AC _ _ (D.fn 72 _) _ _); refine acall_m (f := 72) [2] Try.call72 hset rfl rfl (by decide) (by simp) ?_; rintro r obs' ⟨rfl, rfl⟩; refine ⟨by simp, ?_⟩; (simp only [go_sem, simprocAttr, List.length_map, htr0, htr, List.drop_zero, hnn, hi3, hgs, Int.toNat_natCast, List.getElem?_map, Option.map_some]); refine hK' _ _ ?_; clear hK' K'))); all_goals refine al_nil ?_)
          (refine ah_one 7 rfl (by kernel_rfl) ?_; (repeat' ((refine al_d rfl fun K' hK' => ?_); (repeat (first | (simp only [go_sem, simprocAttr, List.length_map, htr0, htr, List.drop_zero, hnn, hi3, hgs, Int.toNat_natCast, List.getElem?_map, Option.map_some]) | refine AS.mk ?_)); ((refine ⟨?_, hK' _ _ ?_⟩) <;> clear hK' K' <;> (first | (show alist _ _ _ _ _ _; skip) | (simp; done))))); all_goals refine al_nil ?_)
          (refine ah_done (by kernel_rfl) ?_; (simp only [go_sem, simprocAttr, List.length_map, htr0, htr, List.drop_zero, hnn, hi3, hgs, Int.toNat_natCast, List.getElem?_map, Option.map_some]); refine hK _ ?_; clear hK K)
          (refine hcut _ [1, 2, 6, 9, 10, 11, 19, 20, 21] [0, 1, 2] (by decide) (by intro q hq; exact absurd hq (Nat.not_lt_zero q)) ?_; simp only [go_sem, simprocAttr, List.length_map, htr0, htr, List.drop_zero, hnn, hi3, hgs, Int.toNat_natCast, List.getElem?_map, Option.map_some]; (exact key _ _ _ hg5))

        · refine awp_skip ?_
          (refine hcut _ [1, 2, 6, 9, 10, 11, 19, 20, 21] [0, 1, 2] (by decide) (by intro q hq; exact absurd hq (Nat.not_lt_zero q)) ?_; simp only [go_sem, simprocAttr, List.length_map, List.drop_zero]; (exact key _ _ _ hg2))
  · refine awp_exit ?_
    clear hK
    refine hK _ ?_; clear hK K
    (refine awp_reg_seq [6, 7, 8] fun K hK => ?_; (repeat' ((first | refine al_r rfl fun K' hK' => ?_ | refine al_d rfl fun K' hK' => ?_); (repeat (first | (simp only [go_sem, simprocAttr, List.length_map, List.drop_zero]) | refine AS.mk ?_)); ((first | refine hK' _ _ ?_ | refine ⟨?_, hK' _ _ ?_⟩) <;> clear hK' K' <;> (first | (show alist _ _ _ _ _ _; skip) | (simp; done))))); all_goals (refine al_nil ?_; (simp only [go_sem, simprocAttr, List.length_map, List.drop_zero]); refine hK _ ?_; clear hK K))
    (refine awp_frz [6, 7, 8] [] (by decide) (by (simp; done)) ?_; simp only [go_sem, simprocAttr, List.length_map, List.drop_zero])
    refine awp_ret (hR _ _ (.inl rfl) rfl ⟨[], (.tup [agesD h old late, words roots, bD true]), by decide, by simp only [List.length_cons, List.length_nil]; decide, ?_, ?_⟩)
    · simp only [go_sem, simprocAttr, List.length_map, List.drop_zero, htr0]
    · refine ⟨⟨h, old, late, roots, ?_, hg, by omega⟩, ?_⟩ <;> simp only [go_sem, simprocAttr, List.length_map, List.drop_zero]
end Go.Proofs.Ytagphggcdmjlpaa.P

/- YoungRight and YoungDies: walks. -/
namespace Go.Proofs.Ytagphggcdmjlpaa.P
open Go.Ab Go.Proofs.Ytagphggcdmjlpaa.T

theorem checkS {h late roots : List Int} {old : Int} (hg : GoodS h old late roots) : ACallP Try.prog 35 [agesD h old late] (iD 0) := by
  obtain ⟨hl, _, _⟩ := goodS_late hg
  obtain ⟨L, hL, rfl, h4, hA, hr⟩ := hg
  have hck := checkC (flat L) old late (by simp only [maxLen]; omega) (placed_ok hL) (by simp only [maxLen]; omega)
  rw [checkY_flat hL h4 hA] at hck
  exact hck

/-- A major collection. -/
theorem majorS {h late roots : List Int} {old : Int} (hg : GoodS h old late roots) (hmax : roots.length ≤ 100000) :
    ∃ h2 out, ACallP Try.prog 39 [agesD h old late, words roots] (.tup [agesD h2 h2.length [], words out, iD 0]) ∧ out.length = roots.length ∧ h2.length ≤ h.length ∧ GoodS h2 h2.length [] out := by
  obtain ⟨L, hL, rfl, h4, hA, hr⟩ := hg
  obtain ⟨T, mv, h1, h2, h3⟩ := major_good (Rch := fun _ => True) hL h4 hA (fun w hw => (hr w hw).1) hmax (fun _ _ _ => trivial) (fun _ _ _ _ _ _ => trivial)
  have hsz := h2.size
  refine ⟨flat T, roots.map (phi 0 mv), h1, by simp, by omega, T, h2.placed, rfl, by omega, good_copied hL rfl hA h2 h4 (Int.le_refl _), fun w hw => ?_⟩
  obtain ⟨p, hp, rfl⟩ := List.mem_map.1 hw
  exact ⟨copied_name h2 h4 (Int.le_refl _) (hr p hp).1 (h3 p hp), phi_wordok (hr p hp).2⟩


theorem rightW (l : List (List PV)) (sets : List (Int × Int)) (minors : List Int) (hgr : ACallR Try.prog 37 [.p (.sl l), pairs sets, ints minors] GrownR) : ACallP Try.prog 10 [.p (.sl l), pairs sets, ints minors] (bD true) := by
  refine acallp_fn [6] Try.func10 rfl rfl Try.ntmps10 (by simp) fun R hR => ?_
  (refine awp_reg_seq [0, 1, 2] fun K hK => ?_; (repeat' ((refine al_r rfl fun K' hK' => ?_); (repeat (simp only [go_sem, simprocAttr, List.length_map, bne_self_eq_false, beq_self_eq_true])); ((refine hK' _ _ ?_) <;> clear hK' K'))); all_goals (refine al_nil ?_; (simp only [go_sem, simprocAttr, List.length_map, bne_self_eq_false, beq_self_eq_true]); refine hK _ ?_; clear hK K))
  (refine awp_reg_seq [7, 8, 9] fun K hK => ?_; (repeat' ((first | refine al_r rfl fun K' hK' => ?_ | refine al_d rfl fun K' hK' => ?_); (repeat (first | (simp only [go_sem, simprocAttr, List.length_map, bne_self_eq_false, beq_self_eq_true]) | refine AS.mk ?_)); (first | ((first | refine hK' _ _ ?_ | refine ⟨?_, hK' _ _ ?_⟩) <;> clear hK' K' <;> (first | (show alist _ _ _ _ _ _; skip) | (simp; done))) | ((show AC _ _ (D.fn 37 _) _ _); refine acall_r (f := 37) Try.call37 hgr rfl ?_; rintro r ⟨h, old, late, roots, rfl, hg, hrl⟩; (simp only [go_sem, simprocAttr, List.length_map, bne_self_eq_false, beq_self_eq_true]); refine hK' _ _ ?_; clear hK' K')))); all_goals (refine al_nil ?_; (simp only [go_sem, simprocAttr, List.length_map, bne_self_eq_false, beq_self_eq_true]); refine hK _ ?_; clear hK K))
  (refine awp_frz [7, 8, 9] [] (by decide) (by (simp; done)) ?_; simp only [go_sem, simprocAttr, List.length_map, bne_self_eq_false, beq_self_eq_true])
  have hck := checkS hg
  have htr : List.take roots.length (roots.map wrow) = roots.map wrow := List.take_of_length_le (by simp)
  obtain ⟨h2, out, hmin, hol, hle1, hg2⟩ := minorS hg (by omega)
  rw [← hol] at hmin
  have hto : List.take out.length (out.map wrow) = out.map wrow := List.take_of_length_le (by simp)
  have hck2 := checkS hg2
  obtain ⟨h3, out2, hmaj, hol2, hle2, hg3⟩ := majorS hg2 (by omega)
  have hck3 := checkS hg3
  have hq1 : ((out2.length : Int) == (roots.length : Int)) = true := by rw [beq_iff_eq]; omega
  have hq2 : decide ((h2.length : Int) ≤ (h.length : Int)) = true := decide_eq_true (by omega)
  have hq3 : decide ((h3.length : Int) ≤ (h2.length : Int)) = true := decide_eq_true (by omega)

  refine awp_seq_k fun K hK => ?_
  (refine awp_reg_seq [7, 8, 34] fun K hK => ?_; (repeat' ((first | refine al_r rfl fun K' hK' => ?_ | refine al_t rfl rfl fun K' hK' => ?_); (repeat (simp only [go_sem, simprocAttr, List.length_map, bne_self_eq_false, beq_self_eq_true, htr, hto, List.drop_zero, hq1, hq2, hq3])); (first | ((refine hK' _ _ ?_) <;> clear hK' K') | ((show AC _ _ (D.fn 34 _) _ _); refine acall_p (f := 34) (e := rfl) (hr := rfl) (k := hK' _ _ ?_) (hc := Try.call34) (h := youths); clear hK' K') | ((show AC _ _ (D.fn 35 _) _ _); refine acall_p (f := 35) (e := rfl) (hr := rfl) (k := hK' _ _ ?_) (hc := Try.call35) (h := hck); clear hK' K')))); all_goals (refine al_nil ?_; (simp only [go_sem, simprocAttr, List.length_map, bne_self_eq_false, beq_self_eq_true, htr, hto, List.drop_zero, hq1, hq2, hq3]); refine hK _ ?_; clear hK K))
  refine awp_if (_) rfl (fun hc => ?_) (fun hc => ?_)
  · cases hc
  · refine awp_skip ?_
    refine hK _ ?_; clear hK K
    (refine awp_reg_seq [7, 8, 10, 11, 12] fun K hK => ?_; (repeat' ((first | refine al_r rfl fun K' hK' => ?_ | refine al_d rfl fun K' hK' => ?_); (repeat (first | (simp only [go_sem, simprocAttr, List.length_map, bne_self_eq_false, beq_self_eq_true, htr, hto, List.drop_zero, hq1, hq2, hq3]) | refine AS.mk ?_)); (first | ((first | refine hK' _ _ ?_ | refine ⟨?_, hK' _ _ ?_⟩) <;> clear hK' K' <;> (first | (show alist _ _ _ _ _ _; skip) | (simp; done))) | ((show AC _ _ (D.fn 38 _) _ _); refine acall_new (f := 38) Try.call38 hmin rfl ?_; rintro r obs' ⟨rfl, rfl⟩; (simp only [go_sem, simprocAttr, List.length_map, bne_self_eq_false, beq_self_eq_true, htr, hto, List.drop_zero, hq1, hq2, hq3]); refine hK' _ _ ?_; clear hK' K')))); all_goals (refine al_nil ?_; (simp only [go_sem, simprocAttr, List.length_map, bne_self_eq_false, beq_self_eq_true, htr, hto, List.drop_zero, hq1, hq2, hq3]); refine hK _ ?_; clear hK K))
    (refine awp_frz [7, 8, 10, 11, 12] [] (by decide) (by (simp; done)) ?_; simp only [go_sem, simprocAttr, List.length_map, bne_self_eq_false, beq_self_eq_true, htr, hto, List.drop_zero, hq1, hq2, hq3])
    (refine awp_reg_seq [7, 8, 10, 12, 13, 14, 15] fun K hK => ?_; (repeat' ((first | refine al_r rfl fun K' hK' => ?_ | refine al_d rfl fun K' hK' => ?_); (repeat (first | (simp only [go_sem, simprocAttr, List.length_map, bne_self_eq_false, beq_self_eq_true, htr, hto, List.drop_zero, hq1, hq2, hq3]) | refine AS.mk ?_)); (first | ((first | refine hK' _ _ ?_ | refine ⟨?_, hK' _ _ ?_⟩) <;> clear hK' K' <;> (first | (show alist _ _ _ _ _ _; skip) | (simp; done))) | ((show AC _ _ (D.fn 39 _) _ _); refine acall_p (f := 39) (e := rfl) (hr := rfl) (k := hK' _ _ ?_) (hc := Try.call39) (h := hmaj); clear hK' K')))); all_goals (refine al_nil ?_; (simp only [go_sem, simprocAttr, List.length_map, bne_self_eq_false, beq_self_eq_true, htr, hto, List.drop_zero, hq1, hq2, hq3]); refine hK _ ?_; clear hK K))
    (refine awp_frz [7, 8, 10, 12, 13, 14, 15] [] (by decide) (by (simp; done)) ?_; simp only [go_sem, simprocAttr, List.length_map, bne_self_eq_false, beq_self_eq_true, htr, hto, List.drop_zero, hq1, hq2, hq3])
    (refine awp_reg_seq [6] fun K hK => ?_; (repeat' ((first | refine al_r rfl fun K' hK' => ?_ | refine al_t rfl rfl fun K' hK' => ?_); (repeat (simp only [go_sem, simprocAttr, List.length_map, bne_self_eq_false, beq_self_eq_true, htr, hto, List.drop_zero, hq1, hq2, hq3])); (first | ((first | refine hK' _ _ ?_ | refine ⟨?_, hK' _ _ ?_⟩) <;> clear hK' K' <;> (first | (show alist _ _ _ _ _ _; skip) | (intro s hs; cases hs; done))) | ((show AC _ _ (D.fn 35 _) _ _); refine acall_p (f := 35) (e := rfl) (hr := rfl) (k := hK' _ _ ?_) (hc := Try.call35) (h := hck2); clear hK' K') | ((show AC _ _ (D.fn 35 _) _ _); refine acall_p (f := 35) (e := rfl) (hr := rfl) (k := hK' _ _ ?_) (hc := Try.call35) (h := hck3); clear hK' K') | ((show AC _ _ (D.fn 20 _) _ _); refine acall_w [] (by decide) (by simp) (f := 20) (e := rfl) (hr := fun _ => rfl) (k := hK' _ _ ?_) (hc := Try.call20) (h := good00); clear hK' K')))); all_goals (refine al_nil ?_; (simp only [go_sem, simprocAttr, List.length_map, bne_self_eq_false, beq_self_eq_true, htr, hto, List.drop_zero, hq1, hq2, hq3]); refine hK _ ?_; clear hK K))
    all_goals (refine awp_ret ?_; (refine hR _ _ (.inl rfl) rfl ?_); (simp only [go_sem, simprocAttr, List.length_map, bne_self_eq_false, beq_self_eq_true, htr, hto, List.drop_zero, hq1, hq2, hq3, *, Bool.and_true, Bool.and_false, Bool.true_and, Bool.false_and, Bool.or_true, Bool.true_or, Bool.or_false, Bool.false_or, Bool.not_true, Bool.not_false, Bool.false_eq_true]; done))

/-- Without roots nothing is left. -/
theorem diesS {h late roots : List Int} {old : Int} (hg : GoodS h old late roots) : ACallP Try.prog 39 [agesD h old late, words []] (.tup [agesD [] 0 [], words [], iD 0]) := by
  obtain ⟨L, hL, rfl, h4, hA, hr⟩ := hg
  obtain ⟨T, mv, h1, h2, h3⟩ := major_good (ws := []) (Rch := fun _ => False) hL h4 hA (fun w hw => (by cases hw)) (by simp) (fun w hw => (by cases hw)) (fun _ _ hf => hf.elim)
  have hT : T = [] := by
    cases T with
    | nil => rfl
    | cons x T =>
      obtain ⟨o, _, _, hi, _⟩ := h2.src x List.mem_cons_self
      have hx := placed_lt h2.placed (List.mem_cons_self (a := x) (l := T))
      exact ((h2.dst _ _ (hi hx.1).2).1).elim
  subst hT
  exact h1


theorem diesW (l : List (List PV)) (sets : List (Int × Int)) (minors : List Int) (hgr : ACallR Try.prog 37 [.p (.sl l), pairs sets, ints minors] GrownR) : ACallP Try.prog 12 [.p (.sl l), pairs sets, ints minors] (bD true) := by
  refine acallp_fn [6] Try.func12 rfl rfl Try.ntmps12 (by simp) fun R hR => ?_
  (refine awp_reg_seq [0, 1, 2] fun K hK => ?_; (repeat' ((refine al_r rfl fun K' hK' => ?_); (repeat (simp only [go_sem, simprocAttr, List.length_map, List.length_nil, bne_self_eq_false, beq_self_eq_true])); ((refine hK' _ _ ?_) <;> clear hK' K'))); all_goals (refine al_nil ?_; (simp only [go_sem, simprocAttr, List.length_map, List.length_nil, bne_self_eq_false, beq_self_eq_true]); refine hK _ ?_; clear hK K))
  (refine awp_reg_seq [7, 9] fun K hK => ?_; (repeat' ((first | refine al_r rfl fun K' hK' => ?_ | refine al_d rfl fun K' hK' => ?_); (repeat (first | (simp only [go_sem, simprocAttr, List.length_map, List.length_nil, bne_self_eq_false, beq_self_eq_true]) | refine AS.mk ?_)); (first | ((first | refine hK' _ _ ?_ | refine ⟨?_, hK' _ _ ?_⟩) <;> clear hK' K' <;> (first | (show alist _ _ _ _ _ _; skip) | (simp; done))) | ((show AC _ _ (D.fn 37 _) _ _); refine acall_r (f := 37) Try.call37 hgr rfl ?_; rintro r ⟨h, old, late, roots, rfl, hg, hrl⟩; (simp only [go_sem, simprocAttr, List.length_map, List.length_nil, bne_self_eq_false, beq_self_eq_true]); refine hK' _ _ ?_; clear hK' K')))); all_goals (refine al_nil ?_; (simp only [go_sem, simprocAttr, List.length_map, List.length_nil, bne_self_eq_false, beq_self_eq_true]); refine hK _ ?_; clear hK K))
  (refine awp_frz [7, 9] [] (by decide) (by (simp; done)) ?_; simp only [go_sem, simprocAttr, List.length_map, List.length_nil, bne_self_eq_false, beq_self_eq_true])
  have hmaj : ACallP Try.prog 39 [agesD h old late, .nil] _ := ACallP.soft (diesS hg) rfl
  refine awp_seq_k fun K hK => ?_
  (refine awp_reg_seq [7, 26] fun K hK => ?_; (repeat' ((first | refine al_r rfl fun K' hK' => ?_ | refine al_t rfl rfl fun K' hK' => ?_); (repeat (simp only [go_sem, simprocAttr, List.length_map, List.length_nil, bne_self_eq_false, beq_self_eq_true])); (first | ((refine hK' _ _ ?_) <;> clear hK' K') | ((show AC _ _ (D.fn 34 _) _ _); refine acall_p (f := 34) (e := rfl) (hr := rfl) (k := hK' _ _ ?_) (hc := Try.call34) (h := youths); clear hK' K')))); all_goals (refine al_nil ?_; (simp only [go_sem, simprocAttr, List.length_map, List.length_nil, bne_self_eq_false, beq_self_eq_true]); refine hK _ ?_; clear hK K))
  refine awp_if (_) rfl (fun hc => ?_) (fun hc => ?_)
  · cases hc
  · refine awp_skip ?_
    refine hK _ ?_; clear hK K
    (refine awp_reg_seq [10, 11, 12] fun K hK => ?_; (repeat' ((first | refine al_r rfl fun K' hK' => ?_ | refine al_d rfl fun K' hK' => ?_); (repeat (first | (simp only [go_sem, simprocAttr, List.length_map, List.length_nil, bne_self_eq_false, beq_self_eq_true]) | refine AS.mk ?_)); (first | ((first | refine hK' _ _ ?_ | refine ⟨?_, hK' _ _ ?_⟩) <;> clear hK' K' <;> (first | (show alist _ _ _ _ _ _; skip) | (simp; done))) | ((show AC _ _ (D.fn 39 _) _ _); refine acall_p (f := 39) (e := rfl) (hr := rfl) (k := hK' _ _ ?_) (hc := Try.call39) (h := hmaj); clear hK' K')))); all_goals (refine al_nil ?_; (simp only [go_sem, simprocAttr, List.length_map, List.length_nil, bne_self_eq_false, beq_self_eq_true]); refine hK _ ?_; clear hK K))
    (refine awp_frz [10, 11, 12] [] (by decide) (by (simp; done)) ?_; simp only [go_sem, simprocAttr, List.length_map, List.length_nil, bne_self_eq_false, beq_self_eq_true])
    (refine awp_reg_seq [6] fun K hK => ?_; (repeat' ((first | refine al_r rfl fun K' hK' => ?_ | refine al_t rfl rfl fun K' hK' => ?_); (repeat (simp only [go_sem, simprocAttr, List.length_map, List.length_nil, bne_self_eq_false, beq_self_eq_true])); ((first | refine hK' _ _ ?_ | refine ⟨?_, hK' _ _ ?_⟩) <;> clear hK' K' <;> (first | (show alist _ _ _ _ _ _; skip) | (intro s hs; cases hs; done))))); all_goals (refine al_nil ?_; (simp only [go_sem, simprocAttr, List.length_map, List.length_nil, bne_self_eq_false, beq_self_eq_true]); refine hK _ ?_; clear hK K))
    all_goals (refine awp_ret ?_; (refine hR _ _ (.inl rfl) rfl ?_); (simp only [go_sem, simprocAttr, List.length_map, List.length_nil, bne_self_eq_false, beq_self_eq_true, *, Bool.and_true, Bool.and_false, Bool.true_and, Bool.false_and, Bool.or_true, Bool.true_or, Bool.or_false, Bool.false_or, Bool.not_true, Bool.not_false, Bool.false_eq_true]; done))
end Go.Proofs.Ytagphggcdmjlpaa.P

/- What data of the types of this seat's statements looks like, by a program of this session (genshape.py). -/
namespace Go.Proofs.Ytagphggcdmjlpaa.P3
open Go.Ab
theorem closed : closedT Try.prog [3, 9, 36, 38, 58, 70, 139] = true := by kernel_rfl
theorem c3 : Try.prog.cellsOf 3 = 1 := by kernel_rfl
theorem c58 : Try.prog.cellsOf 58 = 1 := by kernel_rfl
theorem c70 : Try.prog.cellsOf 70 = 1 := by kernel_rfl
theorem c139 : Try.prog.cellsOf 139 = 2 := by kernel_rfl
theorem sh_bool {P : Program} {f : Nat} {t : TypeId} {xs : List PV} (hu : P.underlying t = some .bool) (h : shapeOk P f t xs) : ∃ b, xs = [.lit (.bool b)] ∧ True := by
  obtain ⟨b, rfl⟩ := shape_bool hu h; exact ⟨b, rfl, trivial⟩
structure Pair where
  s0 : Int
  s1 : Int

def Pair.row (b : Pair) : List PV := [.lit (.int .i64 b.s0), .lit (.int .i64 b.s1)]
def Pair.ok (b : Pair) : Prop := (Lit.int .i64 b.s0).wf = true ∧ (Lit.int .i64 b.s1).wf = true
theorem Pair.row_length (b : Pair) : b.row.length = 2 := rfl
set_option maxRecDepth 100000 in
theorem sh139 {f : Nat} {xs : List PV} (h : shapeOk Try.prog f 139 xs) : ∃ x : Pair, xs = x.row ∧ x.ok := by
  obtain ⟨m, rfl, hl, hf⟩ := shape_array Try.underlying139 h
  match xs, hl with
  | [q0, q1], _ =>
    obtain ⟨x0, e0, k0⟩ := shape_int Try.underlying3 (hf q0 (by simp))
    obtain ⟨x1, e1, k1⟩ := shape_int Try.underlying3 (hf q1 (by simp))
    simp only [List.cons.injEq, and_true] at e0 e1
    exact ⟨⟨x0, x1⟩, by rw [e0, e1]; rfl, k0, k1⟩

theorem rows139 {f : Nat} : ∀ (rows : List (List PV)), (∀ r, r ∈ rows → r.length = Try.prog.cellsOf 139 ∧ shapeOk Try.prog f 139 r) → ∃ ls : List Pair, rows = ls.map (Pair.row) ∧ ∀ x, x ∈ ls → x.ok
  | [], _ => ⟨[], rfl, fun x hx => by cases hx⟩
  | r :: rows, h => by
    obtain ⟨x, rfl, hx⟩ := sh139 (h r List.mem_cons_self).2
    obtain ⟨ls, rfl, hl⟩ := rows139 rows fun r hr => h r (List.mem_cons_of_mem _ hr)
    exact ⟨x :: ls, rfl, fun y hy => by rcases List.mem_cons.1 hy with rfl | hy; exact hx; exact hl y hy⟩

theorem sh70 {f : Nat} {xs : List PV} (h : shapeOk Try.prog f 70 xs) : ∃ x : (List Pair), xs = [.sl (x.map Pair.row)] ∧ (x.length ≤ maxLen ∧ (∀ y, y ∈ x → y.ok) ∧ x.length * 16 ≤ 140737488351232) := by
  obtain ⟨n, rows, _, rfl, hmax, hfit, hr⟩ := shape_slice Try.underlying70 h
  obtain ⟨ls, rfl, hl⟩ := rows139 rows hr
  exact ⟨ls, rfl, by simpa using hmax, hl, by rw [show Try.prog.bytesOf 139 = 16 by kernel_rfl, reach_is] at hfit; simpa using hfit⟩

theorem rows3 {f : Nat} : ∀ (rows : List (List PV)), (∀ r, r ∈ rows → r.length = Try.prog.cellsOf 3 ∧ shapeOk Try.prog f 3 r) → ∃ ls : List Int, rows = ls.map (fun x => [.lit (.int .i64 x)]) ∧ ∀ x, x ∈ ls → (Lit.int .i64 x).wf = true
  | [], _ => ⟨[], rfl, fun x hx => by cases hx⟩
  | r :: rows, h => by
    obtain ⟨x, rfl, hx⟩ := shape_int Try.underlying3 (h r List.mem_cons_self).2
    obtain ⟨ls, rfl, hl⟩ := rows3 rows fun r hr => h r (List.mem_cons_of_mem _ hr)
    exact ⟨x :: ls, rfl, fun y hy => by rcases List.mem_cons.1 hy with rfl | hy; exact hx; exact hl y hy⟩

theorem sh58 {f : Nat} {xs : List PV} (h : shapeOk Try.prog f 58 xs) : ∃ x : (List Int), xs = [.sl (x.map fun x => [.lit (.int .i64 x)])] ∧ (x.length ≤ maxLen ∧ (∀ y, y ∈ x → (Lit.int .i64 y).wf = true) ∧ x.length * 8 ≤ 140737488351232) := by
  obtain ⟨n, rows, _, rfl, hmax, hfit, hr⟩ := shape_slice Try.underlying58 h
  obtain ⟨ls, rfl, hl⟩ := rows3 rows hr
  exact ⟨ls, rfl, by simpa using hmax, hl, by rw [show Try.prog.bytesOf 3 = 8 by kernel_rfl, reach_is] at hfit; simpa using hfit⟩
theorem sh36 {f : Nat} {xs : List PV} (h : shapeOk Try.prog f 36 xs) : ∃ x : List (List PV), xs = [.sl x] ∧ (x.length ≤ maxLen ∧ ∃ g, ∀ y, y ∈ x → shapeOk Try.prog g 38 y) := by
  obtain ⟨n, rows, _, rfl, hmax, hfit, hr⟩ := shape_slice Try.underlying36 h
  exact ⟨rows, rfl, by simpa using hmax, _, fun y hy => (hr y hy).2⟩
end Go.Proofs.Ytagphggcdmjlpaa.P3

/- YoungRight and YoungDies: contracts, of data as it comes. -/
namespace Go.Proofs.Ytagphggcdmjlpaa.P
open Go.Ab Go.Proofs.Ytagphggcdmjlpaa.T

theorem pairs_eq (s : List P3.Pair) : D.p (.sl (s.map P3.Pair.row)) = pairs (s.map fun p => (p.s0, p.s1)) := by
  unfold pairs
  rw [List.map_map]
  rfl

theorem grownF {l : List (List PV)} {s : List P3.Pair} {m : List Int} (h1 : l.length ≤ maxLen ∧ ∃ g, ∀ y, y ∈ l → shapeOk Try.prog g 38 y) (h2 : s.length ≤ maxLen) (h3 : m.length ≤ maxLen) :
    ACallR Try.prog 37 [.p (.sl l), pairs (s.map fun p => (p.s0, p.s1)), ints m] GrownR := by
  obtain ⟨h0, g, hg⟩ := h1
  exact grownC g l _ m hg h0 (by simpa using h2) h3

theorem rightF (l : List (List PV)) (s : List P3.Pair) (m : List Int) (h1 : l.length ≤ maxLen ∧ ∃ g, ∀ y, y ∈ l → shapeOk Try.prog g 38 y) (h2 : s.length ≤ maxLen) (h3 : m.length ≤ maxLen) :
    ACallP Try.prog 10 [.p (.sl l), .p (.sl (s.map P3.Pair.row)), ints m] (bD true) := by
  rw [pairs_eq]
  exact rightW l _ m (grownF h1 h2 h3)

theorem diesF (l : List (List PV)) (s : List P3.Pair) (m : List Int) (h1 : l.length ≤ maxLen ∧ ∃ g, ∀ y, y ∈ l → shapeOk Try.prog g 38 y) (h2 : s.length ≤ maxLen) (h3 : m.length ≤ maxLen) :
    ACallP Try.prog 12 [.p (.sl l), .p (.sl (s.map P3.Pair.row)), ints m] (bD true) := by
  rw [pairs_eq]
  exact diesW l _ m (grownF h1 h2 h3)
end Go.Proofs.Ytagphggcdmjlpaa.P

