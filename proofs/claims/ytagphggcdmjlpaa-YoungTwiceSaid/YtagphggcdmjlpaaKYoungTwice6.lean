/- Texts of this proof, joined: AbO, Y30, Y31, Y33, YK, Y38. -/
import Derived.Test.YtagphggcdmjlpaaKYoungTwice5
set_option linter.unusedSimpArgs false
set_option linter.unusedVariables false
set_option maxHeartbeats 1000000
/- A variable's cell that has nothing has the empty row. No program is named here. -/
namespace Go.Ab

theorem awp_soft_box {P : Program} {nt : Nat} {Q : Exit → St → Prop} {c : Code} {st : St} (id j : Nat) {cs : List D} (hb : st.ob[id]? = some (.box cs)) (hj : cs[j]? = some .nil)
    (h : AWp P nt c Q ⟨st.tm, st.ob.set id (.box (cs.set j (.p (.sl [])))), st.n0⟩) : AWp P nt c Q st := by
  rintro M H0 w0 w a ⟨H, loc, r⟩
  obtain ⟨hr, arr, e, h1, h2, h3, h4⟩ := r.sr.obj id _ hb
  refine h M H0 w0 w a ⟨H, loc, r.setOb (o' := .box (cs.set j (.p (.sl [])))) hb rfl hr (by simp [Ob.sameShape]) (fun _ _ => rfl) rfl rfl rfl rfl ?_⟩
  refine ⟨hr, arr, e, h1, h2, by simpa using h3, fun k d hk => ?_⟩
  have hturn := turns_set (loc := loc) hb (show (Ob.box cs).sameShape (.box (cs.set j (.p (.sl [])))) by simp [Ob.sameShape])
  rw [List.getElem?_set] at hk
  split at hk
  · rename_i e1
    subst e1
    split at hk
    · cases hk
      obtain ⟨v, a1, a2, a3⟩ := h4 j _ hj
      refine ⟨v, a1, a2, ?_⟩
      cases a3
      exact .p _ _ (.none _ _)
    · cases hk
  · obtain ⟨v, a1, a2, a3⟩ := h4 k d hk
    exact ⟨v, a1, a2, a3.turn (.refl H) hturn⟩
end Go.Ab

/- Ages that grow (roadkeep3's grown): a contract. -/
namespace Go.Proofs.Ytagphggcdmjlpaa.P
open Go.Ab Go.Proofs.Ytagphggcdmjlpaa.T

abbrev prow (s : Int × Int) : List PV := [.lit (.int .i64 s.1), .lit (.int .i64 s.2)]
abbrev pairs (l : List (Int × Int)) : D := .p (.sl (l.map prow))

/-- What grown answers. -/
def GrownR (r : D) : Prop := ∃ h old late roots, r = .tup [agesD h old late, words roots, bD true] ∧ GoodS h old late roots ∧ roots.length ≤ 8


set_option maxRecDepth 100000 in
theorem grownC (f : Nat) (l : List (List PV)) (sets : List (Int × Int)) (minors : List Int) (hl : ∀ x, x ∈ l → shapeOk Try.prog f 38 x) (hlen : l.length ≤ maxLen) (hsl : sets.length ≤ maxLen) (hml : minors.length ≤ maxLen) :
    ACalls Try.prog 37 [.p (.sl l), pairs sets, ints minors] [] (fun r obs' => GrownR r ∧ obs' = []) := by
  refine acallm_fnv [.cell 6 64, .tmp 7, .tmp 8] Try.func37 rfl rfl Try.ntmps37 (by simp) (by simp) fun R hR => ?_
  (refine awp_reg_seq [0, 1, 2, 6] fun K hK => ?_; (repeat' ((refine al_r rfl fun K' hK' => ?_); (repeat (simp only [go_sem, simprocAttr, List.length_map])); ((refine hK' _ _ ?_) <;> clear hK' K'))); all_goals (refine al_nil ?_; (simp only [go_sem, simprocAttr, List.length_map]); refine hK _ ?_; clear hK K))
  (refine awp_reg_seq [0, 1, 2, 6, 9] fun K hK => ?_; (repeat' ((refine al_r rfl fun K' hK' => ?_); (repeat (simp only [go_sem, simprocAttr, List.length_map])); ((refine hK' _ _ ?_) <;> clear hK' K'))); all_goals (refine al_nil ?_; (simp only [go_sem, simprocAttr, List.length_map]); refine hK _ ?_; clear hK K))
  refine awp_soft_box 1 0 rfl rfl ?_
  refine awp_soft_box 1 2 rfl rfl ?_
  simp only [go_sem, simprocAttr, List.length_map]
  (refine awp_reg_seq [0, 1, 2, 6, 9, 10] fun K hK => ?_; (repeat' ((refine al_r rfl fun K' hK' => ?_); (repeat (simp only [go_sem, simprocAttr, List.length_map])); ((refine hK' _ _ ?_) <;> clear hK' K'))); all_goals (refine al_nil ?_; (simp only [go_sem, simprocAttr, List.length_map]); refine hK _ ?_; clear hK K))
  refine awp_born 10 1 rfl ?_
  refine awp_seq_k fun K hK => ?_
  (refine awp_reg_seq [1, 2, 6, 9, 10, 19, 20, 21] fun K hK => ?_; (repeat' ((refine al_r rfl fun K' hK' => ?_); (repeat (simp only [go_sem, simprocAttr, List.length_map])); ((first | refine hK' _ _ ?_ | refine ⟨?_, hK' _ _ ?_⟩) <;> clear hK' K' <;> (first | (show alist _ _ _ _ _ _; skip) | (intro s hs; cases hs; done))))); all_goals (refine al_nil ?_; (simp only [go_sem, simprocAttr, List.length_map]); refine hK _ ?_; clear hK K))
  refine awp_block ?_
  -- loop 0 head [1, 2, 6, 9, 10, 19, 20, 21]
  refine awp_loop_cut (fun m s => ∃ (i : Nat) (h : List Int) (old : Int) (late roots : List Int), i ≤ l.length ∧ m = l.length - i ∧ i ≤ 8 ∧ roots.length ≤ i ∧ GoodS h old late roots ∧ s = ⟨ofL [(1, pairs sets), (2, ints minors), (6, .ptr 0 0 0), (9, .ptr 1 0 0), (10, .ref 2 0 roots.length), (19, .p (.sl l)), (20, iD l.length), (21, iD i)], [.box [.nil, iD 0, .nil], .box [words h, iD old, ints late], .row 1 (roots.map wrow)], 0⟩) ⟨_, 0, [], 0, [], [], Nat.zero_le _, rfl, Nat.zero_le _, Nat.le_refl _, goodS_nil, rfl⟩ ?_
  rintro m s ⟨i, h, old, late, roots, hi, hmi, hi8, hrl, hg, rfl⟩
  have htr0 : List.take roots.length (roots.map wrow) = roots.map wrow := List.take_of_length_le (by simp)

  (refine awp_reg_seq [1, 2, 6, 9, 10, 19, 20, 21, 22] fun K hK => ?_; (repeat' ((refine al_r rfl fun K' hK' => ?_); (repeat (simp only [go_sem, simprocAttr, List.length_map, htr0, List.drop_zero])); ((refine hK' _ _ ?_) <;> clear hK' K'))); all_goals (refine al_nil ?_; (simp only [go_sem, simprocAttr, List.length_map, htr0, List.drop_zero]); refine hK _ ?_; clear hK K))
  refine awp_seq_k fun K hK => ?_
  refine awp_if (decide ((i : Int) < (l.length : Int))) rfl (fun hc => ?_) (fun hc => ?_)
  · refine awp_skip ?_
    refine hK _ ?_; clear hK K
    refine awp_seq_k fun K hK => ?_
    refine awp_block ?_
    have hi2 : i < l.length := by simpa using hc
    obtain ⟨x, hget⟩ := get_of_lt hi2
    have hx := hl x (List.mem_of_getElem? hget)
    obtain ⟨k, n, text, args, _, rfl, _⟩ := sh38 hx
    obtain ⟨b, hfl⟩ := flatP f k n text args hx
    obtain ⟨g, old2, late2, w, e, hadd, hae⟩ := addS hg hx
    simp only [List.map_cons, List.map_nil] at hadd
    have hnn : (0 : Int) ≤ (i : Int) := Int.natCast_nonneg i
    have hnx : IntKind.i64.wrap ((i : Int) + 1) = ((i + 1 : Nat) : Int) := wrap_next hi2 hlen
    obtain ⟨X, hX⟩ : ∃ X, decide ((i : Int) ≥ 8) = X := ⟨_, rfl⟩

    (refine awp_reg_seq [1, 2, 6, 9, 10, 11, 12, 19, 20, 21] fun K hK => ?_; (repeat' ((first | refine al_r rfl fun K' hK' => ?_ | refine al_d rfl fun K' hK' => ?_); (repeat (first | (simp only [go_sem, simprocAttr, List.length_map, htr0, List.drop_zero, hget, hnn, hi2, hnx, hX, Int.toNat_natCast, List.getElem?_map, Option.map_some]) | refine AS.mk ?_)); ((first | refine hK' _ _ ?_ | refine ⟨?_, hK' _ _ ?_⟩) <;> clear hK' K' <;> (first | (show alist _ _ _ _ _ _; skip) | (simp; done))))); all_goals (refine al_nil ?_; (simp only [go_sem, simprocAttr, List.length_map, htr0, List.drop_zero, hget, hnn, hi2, hnx, hX, Int.toNat_natCast, List.getElem?_map, Option.map_some]); refine hK _ ?_; clear hK K))
    (refine awp_frz [1, 2, 6, 9, 10, 11, 12, 19, 20, 21] [0, 1, 2] (by decide) (by (simp; done)) ?_; simp only [go_sem, simprocAttr, List.length_map, htr0, List.drop_zero, hget, hnn, hi2, hnx, hX, Int.toNat_natCast, List.getElem?_map, Option.map_some])
    refine awp_seq_k fun K hK => ?_
    refine awp_reg_tov [1, 2, 6, 9, 10, 11, 12, 19, 20, 21, 32] [(32, bD (X || !b))] (h := ?_) (k := ?_)
    · cases X <;> cases b
      all_goals ((repeat' (first | ((first | refine al_r rfl fun K' hK' => ?_ | refine al_t rfl rfl fun K' hK' => ?_); (repeat (simp only [go_sem, simprocAttr, List.length_map, htr0, List.drop_zero, hget, hnn, hi2, hnx, hX, Int.toNat_natCast, List.getElem?_map, Option.map_some])); (first | ((refine hK' _ _ ?_) <;> clear hK' K') | ((show AC _ _ (D.fn 22 _) _ _); refine acall_p (f := 22) (e := rfl) (hr := rfl) (k := hK' _ _ ?_) (hc := Try.call22) (h := hfl); clear hK' K'))) | refine al_e rfl rfl ?_)); all_goals (refine al_nil ?_; (simp only [go_sem, simprocAttr, List.length_map, htr0, List.drop_zero, hget, hnn, hi2, hnx, hX, Int.toNat_natCast, List.getElem?_map, Option.map_some, *, Bool.and_true, Bool.and_false, Bool.true_and, Bool.false_and, Bool.or_true, Bool.true_or, Bool.or_false, Bool.false_or, Bool.not_true, Bool.not_false, Bool.false_eq_true]; done)))
    (intro K hK; (simp only [go_sem, simprocAttr, List.length_map, htr0, List.drop_zero, hget, hnn, hi2, hnx, hX, Int.toNat_natCast, List.getElem?_map, Option.map_some]); refine hK _ ?_; clear hK K)
    refine awp_if (X || !b) rfl (fun hc => ?_) (fun hc => ?_)
    · refine awp_exit ?_
      clear hK
      clear hK
      refine hK _ ?_; clear hK K
      (refine awp_reg_seq [6, 7, 8] fun K hK => ?_; (repeat' ((first | refine al_r rfl fun K' hK' => ?_ | refine al_d rfl fun K' hK' => ?_); (repeat (first | (simp only [go_sem, simprocAttr, List.length_map, htr0, List.drop_zero, hget, hnn, hi2, hnx, hX, Int.toNat_natCast, List.getElem?_map, Option.map_some]) | refine AS.mk ?_)); ((first | refine hK' _ _ ?_ | refine ⟨?_, hK' _ _ ?_⟩) <;> clear hK' K' <;> (first | (show alist _ _ _ _ _ _; skip) | (simp; done))))); all_goals (refine al_nil ?_; (simp only [go_sem, simprocAttr, List.length_map, htr0, List.drop_zero, hget, hnn, hi2, hnx, hX, Int.toNat_natCast, List.getElem?_map, Option.map_some]); refine hK _ ?_; clear hK K))
      (refine awp_frz [6, 7, 8] [] (by decide) (by (simp; done)) ?_; simp only [go_sem, simprocAttr, List.length_map, htr0, List.drop_zero, hget, hnn, hi2, hnx, hX, Int.toNat_natCast, List.getElem?_map, Option.map_some])
      refine awp_ret (hR _ _ (.inl rfl) rfl ⟨[], (.tup [agesD h old late, words roots, bD true]), by decide, by simp only [List.length_cons, List.length_nil]; decide, ?_, ?_⟩)
      · simp only [go_sem, simprocAttr, List.length_map, htr0, List.drop_zero, hget, hnn, hi2, hnx, hX, Int.toNat_natCast, List.getElem?_map, Option.map_some, htr0]
      · refine ⟨⟨h, old, late, roots, ?_, hg, by omega⟩, ?_⟩ <;> simp only [go_sem, simprocAttr, List.length_map, htr0, List.drop_zero, hget, hnn, hi2, hnx, hX, Int.toNat_natCast, List.getElem?_map, Option.map_some]
    · have hX8 : i < 8 := by
        rw [Bool.or_eq_false_iff] at hc
        rw [hc.1] at hX
        simp at hX
        omega
      refine awp_skip ?_
      refine hK _ ?_; clear hK K
      (refine awp_reg_seq [1, 2, 6, 9, 10, 11, 13, 14, 15, 19, 20, 21] fun K hK => ?_; (repeat' ((first | refine al_r rfl fun K' hK' => ?_ | refine al_d rfl fun K' hK' => ?_); (repeat (first | (simp only [go_sem, simprocAttr, List.length_map, htr0, List.drop_zero, hget, hnn, hi2, hnx, hX, Int.toNat_natCast, List.getElem?_map, Option.map_some]) | refine AS.mk ?_)); (first | ((first | refine hK' _ _ ?_ | refine ⟨?_, hK' _ _ ?_⟩) <;> clear hK' K' <;> (first | (show alist _ _ _ _ _ _; skip) | (simp; done))) | ((show AC _ _ (D.fn 71 _) _ _); refine acall_p (f := 71) (e := rfl) (hr := rfl) (k := hK' _ _ ?_) (hc := Try.call71) (h := hadd); clear hK' K')))); all_goals (refine al_nil ?_; (simp only [go_sem, simprocAttr, List.length_map, htr0, List.drop_zero, hget, hnn, hi2, hnx, hX, Int.toNat_natCast, List.getElem?_map, Option.map_some]); refine hK _ ?_; clear hK K))
      (refine awp_frz [1, 2, 6, 9, 10, 11, 13, 14, 15, 19, 20, 21] [0, 1, 2] (by decide) (by (simp; done)) ?_; simp only [go_sem, simprocAttr, List.length_map, htr0, List.drop_zero, hget, hnn, hi2, hnx, hX, Int.toNat_natCast, List.getElem?_map, Option.map_some])
      refine awp_seq_k fun K hK => ?_
      (refine awp_reg_seq [1, 2, 6, 9, 10, 11, 13, 14, 19, 20, 21, 41] fun K hK => ?_; (repeat' ((refine al_r rfl fun K' hK' => ?_); (repeat (simp only [go_sem, simprocAttr, List.length_map, htr0, List.drop_zero, hget, hnn, hi2, hnx, hX, Int.toNat_natCast, List.getElem?_map, Option.map_some])); ((refine hK' _ _ ?_) <;> clear hK' K'))); all_goals (refine al_nil ?_; (simp only [go_sem, simprocAttr, List.length_map, htr0, List.drop_zero, hget, hnn, hi2, hnx, hX, Int.toNat_natCast, List.getElem?_map, Option.map_some]); refine hK _ ?_; clear hK K))
      refine awp_if (e != 0) rfl (fun hc => ?_) (fun hc => ?_)
      · refine awp_exit ?_
        clear hK
        refine hK _ ?_; clear hK K
        (refine awp_reg_end [1, 2, 6, 9, 10, 19, 20, 21] fun K hK => ?_; (repeat' ((refine al_r rfl fun K' hK' => ?_); (repeat (simp only [go_sem, simprocAttr, List.length_map, htr0, List.drop_zero, hget, hnn, hi2, hnx, hX, Int.toNat_natCast, List.getElem?_map, Option.map_some])); ((refine hK' _ _ ?_) <;> clear hK' K'))); all_goals (refine al_nil ?_; (simp only [go_sem, simprocAttr, List.length_map, htr0, List.drop_zero, hget, hnn, hi2, hnx, hX, Int.toNat_natCast, List.getElem?_map, Option.map_some]); refine hK _ ?_; clear hK K))
        (first
          | exact ⟨l.length - (i + 1), by omega, [1, 2, 6, 9, 10, 19, 20, 21], [0, 1, 2], by decide, by intro q hq; exact absurd hq (Nat.not_lt_zero q), i + 1, _, _, _, _, hi2, rfl, by omega, by omega, hg4, rfl⟩
          | exact ⟨l.length - (i + 1), by omega, [1, 2, 6, 9, 10, 19, 20, 21], [0, 1, 2], by decide, by intro q hq; exact absurd hq (Nat.not_lt_zero q), i + 1, _, _, _, _, hi2, rfl, by omega, by omega, hg3, rfl⟩
          | exact ⟨l.length - (i + 1), by omega, [1, 2, 6, 9, 10, 19, 20, 21], [0, 1, 2], by decide, by intro q hq; exact absurd hq (Nat.not_lt_zero q), i + 1, _, _, _, _, hi2, rfl, by omega, by omega, hg, rfl⟩)
      · have he0 : e = 0 := by simpa using hc
        have hg2 := (hae.resolve_left fun h => h he0).2
        obtain ⟨rs, hrs⟩ : ∃ rs, rs = roots ++ [w] := ⟨_, rfl⟩
        have hrsl : rs.length = roots.length + 1 := by rw [hrs]; simp
        rw [← hrs] at hg2
        have hfit : (roots.length + 1) * 8 ≤ 140737488355328 := by omega
        have hmrs : roots.map wrow ++ [wrow w] = rs.map wrow := by rw [hrs]; simp
        have htr : List.take rs.length (rs.map wrow) = rs.map wrow := List.take_of_length_le (by simp)

        refine awp_skip ?_
        refine hK _ ?_; clear hK K
        refine awp_draw_seq (by kernel_rfl) [1, 2, 6, 9, 10, 11, 19, 20, 21] fun K hK => ?_
        ((refine ah_r 0 rfl (by kernel_rfl) rfl fun K' hK' => ?_); (simp only [go_sem, simprocAttr, List.length_map, htr0, htr, List.drop_zero, hnn, hi2, hnx, hfit, hmrs, ← hrsl, Int.toNat_natCast, List.getElem?_map, Option.map_some]); ((refine hK' _ ?_); clear hK' K'))
        ((refine ah_r 1 rfl (by kernel_rfl) rfl fun K' hK' => ?_); (simp only [go_sem, simprocAttr, List.length_map, htr0, htr, List.drop_zero, hnn, hi2, hnx, hfit, hmrs, ← hrsl, Int.toNat_natCast, List.getElem?_map, Option.map_some]); ((refine hK' _ ?_); clear hK' K'))
        ((refine ah_r 2 rfl (by kernel_rfl) rfl fun K' hK' => ?_); (simp only [go_sem, simprocAttr, List.length_map, htr0, htr, List.drop_zero, hnn, hi2, hnx, hfit, hmrs, ← hrsl, Int.toNat_natCast, List.getElem?_map, Option.map_some]); ((refine hK' _ ?_); clear hK' K'))
        (refine ah_one 3 rfl (by kernel_rfl) ?_; (repeat' ((refine al_r rfl fun K' hK' => ?_); (repeat (simp only [go_sem, simprocAttr, List.length_map, htr0, htr, List.drop_zero, hnn, hi2, hnx, hfit, hmrs, ← hrsl, Int.toNat_natCast, List.getElem?_map, Option.map_some])); ((refine hK' _ _ ?_) <;> clear hK' K'))); all_goals refine al_nil ?_)
        (refine ah_one 4 rfl (by kernel_rfl) ?_; (repeat' ((refine al_r rfl fun K' hK' => ?_); (repeat (first | (simp only [go_sem, simprocAttr, List.length_map, htr0, htr, List.drop_zero, hnn, hi2, hnx, hfit, hmrs, ← hrsl, Int.toNat_natCast, List.getElem?_map, Option.map_some]) | refine AAp.grow ?_)); ((refine ⟨?_, ?_, ?_, hK' _ _ ?_⟩) <;> clear hK' K' <;> (first | (show alist _ _ _ _ _ _; skip) | (simp; done) | omega)))); all_goals refine al_nil ?_)
        (refine ah_one 5 rfl (by kernel_rfl) ?_; (repeat' ((refine al_d rfl fun K' hK' => ?_); (repeat (first | (simp only [go_sem, simprocAttr, List.length_map, htr0, htr, List.drop_zero, hnn, hi2, hnx, hfit, hmrs, ← hrsl, Int.toNat_natCast, List.getElem?_map, Option.map_some]) | refine AS.mk ?_)); ((refine ⟨?_, hK' _ _ ?_⟩) <;> clear hK' K' <;> (first | (show alist _ _ _ _ _ _; skip) | (simp; done))))); all_goals refine al_nil ?_)
        ((refine ah_r 6 rfl (by kernel_rfl) rfl fun K' hK' => ?_); (simp only [go_sem, simprocAttr, List.length_map, htr0, htr, List.drop_zero, hnn, hi2, hnx, hfit, hmrs, ← hrsl, Int.toNat_natCast, List.getElem?_map, Option.map_some]); ((refine hK' _ ?_); clear hK' K'))
        (refine ah_done (by kernel_rfl) ?_; (simp only [go_sem, simprocAttr, List.length_map, htr0, htr, List.drop_zero, hnn, hi2, hnx, hfit, hmrs, ← hrsl, Int.toNat_natCast, List.getElem?_map, Option.map_some]); refine hK _ ?_; clear hK K)
        (refine awp_frz [1, 2, 6, 9, 10, 11, 19, 20, 21] [0, 1, 4] (by decide) (by (simp; done)) ?_; simp only [go_sem, simprocAttr, List.length_map, htr0, htr, List.drop_zero, hnn, hi2, hnx, hfit, hmrs, ← hrsl, Int.toNat_natCast, List.getElem?_map, Option.map_some])
        refine awp_seq_kc fun K hK hcut => ?_
        have key : ∀ (h3 : List Int) (old3 : Int) (late3 : List Int), GoodS h3 old3 late3 rs → K ⟨ofL [(1, pairs sets), (2, ints minors), (6, .ptr 0 0 0), (9, .ptr 1 0 0), (10, .ref 2 0 rs.length), (11, iD i), (19, .p (.sl l)), (20, iD l.length), (21, iD i)], [.box [.nil, iD 0, .nil], .box [words h3, iD old3, ints late3], .row 1 (rs.map wrow)], 0⟩ := by
          clear hcut
          intro h3 old3 late3 hg3
          obtain ⟨h4, out, hmin, hol, _, hg4⟩ := minorS hg3 (by omega)
          rw [← hol] at hmin
          have hne : ((out.length : Int) != (rs.length : Int)) = false := by rw [hol]; exact bne_self_eq_false _
          have hcon := contains minors hml (i : Int)

          refine hK _ ?_; clear hK K
          (refine awp_reg_seq [1, 2, 6, 9, 10, 19, 20, 21, 60] fun K hK => ?_; (repeat' ((refine al_r rfl fun K' hK' => ?_); (repeat (simp only [go_sem, simprocAttr, List.length_map, htr, List.drop_zero, hnn, hi2, hnx, hne, bne_self_eq_false, Int.toNat_natCast, List.getElem?_map, Option.map_some])); (first | ((refine hK' _ _ ?_) <;> clear hK' K') | ((show AC _ _ (D.fn 32 _) _ _); refine acall_p (f := 32) (e := rfl) (hr := rfl) (k := hK' _ _ ?_) (hc := Try.call32) (h := hcon); clear hK' K')))); all_goals (refine al_nil ?_; (simp only [go_sem, simprocAttr, List.length_map, htr, List.drop_zero, hnn, hi2, hnx, hne, bne_self_eq_false, Int.toNat_natCast, List.getElem?_map, Option.map_some]); refine hK _ ?_; clear hK K))
          refine awp_if (_) rfl (fun hc => ?_) (fun hc => ?_)
          · (refine awp_frz [1, 2, 6, 9, 10, 19, 20, 21] [0, 1] (by decide) (by (simp; done)) ?_; simp only [go_sem, simprocAttr, List.length_map, htr, List.drop_zero, hnn, hi2, hnx, hne, bne_self_eq_false, Int.toNat_natCast, List.getElem?_map, Option.map_some])
            (refine awp_reg_seq [1, 2, 6, 9, 10, 16, 17, 18, 19, 20, 21] fun K hK => ?_; (repeat' ((first | refine al_r rfl fun K' hK' => ?_ | refine al_d rfl fun K' hK' => ?_); (repeat (first | (simp only [go_sem, simprocAttr, List.length_map, htr, List.drop_zero, hnn, hi2, hnx, hne, bne_self_eq_false, Int.toNat_natCast, List.getElem?_map, Option.map_some]) | refine AS.mk ?_)); (first | ((first | refine hK' _ _ ?_ | refine ⟨?_, hK' _ _ ?_⟩) <;> clear hK' K' <;> (first | (show alist _ _ _ _ _ _; skip) | (simp; done))) | ((show AC _ _ (D.fn 38 _) _ _); refine acall_new (f := 38) Try.call38 hmin rfl ?_; rintro r obs' ⟨rfl, rfl⟩; (simp only [go_sem, simprocAttr, List.length_map, htr, List.drop_zero, hnn, hi2, hnx, hne, bne_self_eq_false, Int.toNat_natCast, List.getElem?_map, Option.map_some]); refine hK' _ _ ?_; clear hK' K')))); all_goals (refine al_nil ?_; (simp only [go_sem, simprocAttr, List.length_map, htr, List.drop_zero, hnn, hi2, hnx, hne, bne_self_eq_false, Int.toNat_natCast, List.getElem?_map, Option.map_some]); refine hK _ ?_; clear hK K))
            (refine awp_frz [1, 2, 6, 9, 10, 16, 17, 18, 19, 20, 21] [0, 1, 2] (by decide) (by (simp; done)) ?_; simp only [go_sem, simprocAttr, List.length_map, htr, List.drop_zero, hnn, hi2, hnx, hne, bne_self_eq_false, Int.toNat_natCast, List.getElem?_map, Option.map_some])
            refine awp_seq_k fun K hK => ?_
            (refine awp_reg_seq [1, 2, 6, 9, 16, 17, 19, 20, 21, 76] fun K hK => ?_; (repeat' ((first | refine al_r rfl fun K' hK' => ?_ | refine al_t rfl rfl fun K' hK' => ?_); (repeat (simp only [go_sem, simprocAttr, List.length_map, htr, List.drop_zero, hnn, hi2, hnx, hne, bne_self_eq_false, Int.toNat_natCast, List.getElem?_map, Option.map_some])); ((first | refine hK' _ _ ?_ | refine ⟨?_, hK' _ _ ?_⟩) <;> clear hK' K' <;> (first | (show alist _ _ _ _ _ _; skip) | (intro s hs; cases hs; done))))); all_goals (refine al_nil ?_; (simp only [go_sem, simprocAttr, List.length_map, htr, List.drop_zero, hnn, hi2, hnx, hne, bne_self_eq_false, Int.toNat_natCast, List.getElem?_map, Option.map_some]); refine hK _ ?_; clear hK K))
            refine awp_if (_) rfl (fun hc => ?_) (fun hc => ?_)
            · cases hc
            · refine awp_skip ?_
              refine hK _ ?_; clear hK K
              (refine awp_reg_end [1, 2, 6, 9, 10, 19, 20, 21] fun K hK => ?_; (repeat' ((first | refine al_r rfl fun K' hK' => ?_ | refine al_d rfl fun K' hK' => ?_); (repeat (first | (simp only [go_sem, simprocAttr, List.length_map, htr, List.drop_zero, hnn, hi2, hnx, hne, bne_self_eq_false, Int.toNat_natCast, List.getElem?_map, Option.map_some]) | refine AS.mk ?_)); ((first | refine hK' _ _ ?_ | refine ⟨?_, hK' _ _ ?_⟩) <;> clear hK' K' <;> (first | (show alist _ _ _ _ _ _; skip) | (simp; done))))); all_goals (refine al_nil ?_; (simp only [go_sem, simprocAttr, List.length_map, htr, List.drop_zero, hnn, hi2, hnx, hne, bne_self_eq_false, Int.toNat_natCast, List.getElem?_map, Option.map_some]); refine hK _ ?_; clear hK K))
              refine hK _ ?_; clear hK K
              (refine awp_reg_end [1, 2, 6, 9, 10, 19, 20, 21] fun K hK => ?_; (repeat' ((refine al_r rfl fun K' hK' => ?_); (repeat (simp only [go_sem, simprocAttr, List.length_map, htr, List.drop_zero, hnn, hi2, hnx, hne, bne_self_eq_false, Int.toNat_natCast, List.getElem?_map, Option.map_some])); ((refine hK' _ _ ?_) <;> clear hK' K'))); all_goals (refine al_nil ?_; (simp only [go_sem, simprocAttr, List.length_map, htr, List.drop_zero, hnn, hi2, hnx, hne, bne_self_eq_false, Int.toNat_natCast, List.getElem?_map, Option.map_some]); refine hK _ ?_; clear hK K))
              (first
                | exact ⟨l.length - (i + 1), by omega, [1, 2, 6, 9, 10, 19, 20, 21], [0, 1, 2], by decide, by intro q hq; exact absurd hq (Nat.not_lt_zero q), i + 1, _, _, _, _, hi2, rfl, by omega, by omega, hg4, rfl⟩
                | exact ⟨l.length - (i + 1), by omega, [1, 2, 6, 9, 10, 19, 20, 21], [0, 1, 2], by decide, by intro q hq; exact absurd hq (Nat.not_lt_zero q), i + 1, _, _, _, _, hi2, rfl, by omega, by omega, hg3, rfl⟩
                | exact ⟨l.length - (i + 1), by omega, [1, 2, 6, 9, 10, 19, 20, 21], [0, 1, 2], by decide, by intro q hq; exact absurd hq (Nat.not_lt_zero q), i + 1, _, _, _, _, hi2, rfl, by omega, by omega, hg, rfl⟩)
          · refine awp_skip ?_
            refine hK _ ?_; clear hK K
            (refine awp_reg_end [1, 2, 6, 9, 10, 19, 20, 21] fun K hK => ?_; (repeat' ((refine al_r rfl fun K' hK' => ?_); (repeat (simp only [go_sem, simprocAttr, List.length_map, htr, List.drop_zero, hnn, hi2, hnx, hne, bne_self_eq_false, Int.toNat_natCast, List.getElem?_map, Option.map_some])); ((refine hK' _ _ ?_) <;> clear hK' K'))); all_goals (refine al_nil ?_; (simp only [go_sem, simprocAttr, List.length_map, htr, List.drop_zero, hnn, hi2, hnx, hne, bne_self_eq_false, Int.toNat_natCast, List.getElem?_map, Option.map_some]); refine hK _ ?_; clear hK K))
            (first
              | exact ⟨l.length - (i + 1), by omega, [1, 2, 6, 9, 10, 19, 20, 21], [0, 1, 2], by decide, by intro q hq; exact absurd hq (Nat.not_lt_zero q), i + 1, _, _, _, _, hi2, rfl, by omega, by omega, hg4, rfl⟩
              | exact ⟨l.length - (i + 1), by omega, [1, 2, 6, 9, 10, 19, 20, 21], [0, 1, 2], by decide, by intro q hq; exact absurd hq (Nat.not_lt_zero q), i + 1, _, _, _, _, hi2, rfl, by omega, by omega, hg3, rfl⟩
              | exact ⟨l.length - (i + 1), by omega, [1, 2, 6, 9, 10, 19, 20, 21], [0, 1, 2], by decide, by intro q hq; exact absurd hq (Nat.not_lt_zero q), i + 1, _, _, _, _, hi2, rfl, by omega, by omega, hg, rfl⟩)

        (refine awp_reg_seq [1, 2, 6, 9, 10, 11, 19, 20, 21, 50] fun K hK => ?_; (repeat' ((refine al_r rfl fun K' hK' => ?_); (repeat (simp only [go_sem, simprocAttr, List.length_map, List.drop_zero])); ((first | refine hK' _ _ ?_ | refine ⟨?_, hK' _ _ ?_⟩) <;> clear hK' K' <;> (first | (show alist _ _ _ _ _ _; skip) | (intro s hs; cases hs; done))))); all_goals (refine al_nil ?_; (simp only [go_sem, simprocAttr, List.length_map, List.drop_zero]); refine hK _ ?_; clear hK K))
        refine awp_if (decide ((i : Int) < (sets.length : Int))) rfl (fun hc => ?_) (fun hc => ?_)
        · have hi3 : i < sets.length := by simpa using hc
          obtain ⟨s, hgs⟩ := get_of_lt hi3
          obtain ⟨h5, old5, late5, hset, hg5⟩ := setS hg2 (by omega) (by omega) s.1 s.2

          refine awp_draw (by kernel_rfl) [1, 2, 6, 9, 10, 11, 19, 20, 21] fun K hK => ?_
          ((refine ah_r 1 rfl (by kernel_rfl) rfl fun K' hK' => ?_); (simp only [go_sem, simprocAttr, List.length_map, htr0, htr, List.drop_zero, hnn, hi3, hgs, Int.toNat_natCast, List.getElem?_map, Option.map_some]); ((refine hK' _ ?_); clear hK' K'))
          ((refine ah_r 2 rfl (by kernel_rfl) rfl fun K' hK' => ?_); (simp only [go_sem, simprocAttr, List.length_map, htr0, htr, List.drop_zero, hnn, hi3, hgs, Int.toNat_natCast, List.getElem?_map, Option.map_some]); ((refine hK' _ ?_); clear hK' K'))
          ((refine ah_r 3 rfl (by kernel_rfl) rfl fun K' hK' => ?_); (simp only [go_sem, simprocAttr, List.length_map, htr0, htr, List.drop_zero, hnn, hi3, hgs, Int.toNat_natCast, List.getElem?_map, Option.map_some]); ((refine hK' _ ?_); clear hK' K'))
          ((refine ah_r 4 rfl (by kernel_rfl) rfl fun K' hK' => ?_); (simp only [go_sem, simprocAttr, List.length_map, htr0, htr, List.drop_zero, hnn, hi3, hgs, Int.toNat_natCast, List.getElem?_map, Option.map_some]); ((refine hK' _ ?_); clear hK' K'))
          ((refine ah_r 5 rfl (by kernel_rfl) rfl fun K' hK' => ?_); (simp only [go_sem, simprocAttr, List.length_map, htr0, htr, List.drop_zero, hnn, hi3, hgs, Int.toNat_natCast, List.getElem?_map, Option.map_some]); ((refine hK' _ ?_); clear hK' K'))
          (refine ah_one 0 rfl (by kernel_rfl) ?_; (repeat' ((refine al_r rfl fun K' hK' => ?_); (repeat (simp only [go_sem, simprocAttr, List.length_map, htr0, htr, List.drop_zero, hnn, hi3, hgs, Int.toNat_natCast, List.getElem?_map, Option.map_some])); ((refine hK' _ _ ?_) <;> clear hK' K'))); all_goals refine al_nil ?_)
          (refine ah_one 6 rfl (by kernel_rfl) ?_; (repeat' ((refine al_r rfl fun K' hK' => ?_); (repeat (simp only [go_sem, simprocAttr, List.length_map, htr0, htr, List.drop_zero, hnn, hi3, hgs, Int.toNat_natCast, List.getElem?_map, Option.map_some])); ((show AC _ _ (D.fn 72 _) _ _); refine acall_m (f := 72) [2] Try.call72 hset rfl rfl (by decide) (by simp) ?_; rintro r obs' ⟨rfl, rfl⟩; refine ⟨by simp, ?_⟩; (simp only [go_sem, simprocAttr, List.length_map, htr0, htr, List.drop_zero, hnn, hi3, hgs, Int.toNat_natCast, List.getElem?_map, Option.map_some]); refine hK' _ _ ?_; clear hK' K'))); all_goals refine al_nil ?_)
          (refine ah_one 7 rfl (by kernel_rfl) ?_; (repeat' ((refine al_d rfl fun K' hK' => ?_); (repeat (first | (simp only [go_sem, simprocAttr, List.length_map, htr0, htr, List.drop_zero, hnn, hi3, hgs, Int.toNat_natCast, List.getElem?_map, Option.map_some]) | refine AS.mk ?_)); ((refine ⟨?_, hK' _ _ ?_⟩) <;> clear hK' K' <;> (first | (show alist _ _ _ _ _ _; skip) | (simp; done))))); all_goals refine al_nil ?_)
          (refine ah_done (by kernel_rfl) ?_; (simp only [go_sem, simprocAttr, List.length_map, htr0, htr, List.drop_zero, hnn, hi3, hgs, Int.toNat_natCast, List.getElem?_map, Option.map_some]); refine hK _ ?_; clear hK K)
          (refine hcut _ [1, 2, 6, 9, 10, 11, 19, 20, 21] [0, 1, 2] (by decide) (by intro q hq; exact absurd hq (Nat.not_lt_zero q)) ?_; simp only [go_sem, simprocAttr, List.length_map, htr0, htr, List.drop_zero, hnn, hi3, hgs, Int.toNat_natCast, List.getElem?_map, Option.map_some]; (exact key _ _ _ hg5))

        · refine awp_skip ?_
          (refine hcut _ [1, 2, 6, 9, 10, 11, 19, 20, 21] [0, 1, 2] (by decide) (by intro q hq; exact absurd hq (Nat.not_lt_zero q)) ?_; simp only [go_sem, simprocAttr, List.length_map, List.drop_zero]; (exact key _ _ _ hg2))
  · refine awp_exit ?_
    clear hK
    refine hK _ ?_; clear hK K
    (refine awp_reg_seq [6, 7, 8] fun K hK => ?_; (repeat' ((first | refine al_r rfl fun K' hK' => ?_ | refine al_d rfl fun K' hK' => ?_); (repeat (first | (simp only [go_sem, simprocAttr, List.length_map, List.drop_zero]) | refine AS.mk ?_)); ((first | refine hK' _ _ ?_ | refine ⟨?_, hK' _ _ ?_⟩) <;> clear hK' K' <;> (first | (show alist _ _ _ _ _ _; skip) | (simp; done))))); all_goals (refine al_nil ?_; (simp only [go_sem, simprocAttr, List.length_map, List.drop_zero]); refine hK _ ?_; clear hK K))
    (refine awp_frz [6, 7, 8] [] (by decide) (by (simp; done)) ?_; simp only [go_sem, simprocAttr, List.length_map, List.drop_zero])
    refine awp_ret (hR _ _ (.inl rfl) rfl ⟨[], (.tup [agesD h old late, words roots, bD true]), by decide, by simp only [List.length_cons, List.length_nil]; decide, ?_, ?_⟩)
    · simp only [go_sem, simprocAttr, List.length_map, List.drop_zero, htr0]
    · refine ⟨⟨h, old, late, roots, ?_, hg, by omega⟩, ?_⟩ <;> simp only [go_sem, simprocAttr, List.length_map, List.drop_zero]
end Go.Proofs.Ytagphggcdmjlpaa.P

/- YoungRight and YoungDies: walks. -/
namespace Go.Proofs.Ytagphggcdmjlpaa.P
open Go.Ab Go.Proofs.Ytagphggcdmjlpaa.T

theorem checkS {h late roots : List Int} {old : Int} (hg : GoodS h old late roots) : ACallP Try.prog 35 [agesD h old late] (iD 0) := by
  obtain ⟨hl, _, _⟩ := goodS_late hg
  obtain ⟨L, hL, rfl, h4, hA, hr⟩ := hg
  have hck := checkC (flat L) old late (by simp only [maxLen]; omega) (placed_ok hL) (by simp only [maxLen]; omega)
  rw [checkY_flat hL h4 hA] at hck
  exact hck

/-- A major collection. -/
theorem majorS {h late roots : List Int} {old : Int} (hg : GoodS h old late roots) (hmax : roots.length ≤ 100000) :
    ∃ h2 out, ACallP Try.prog 39 [agesD h old late, words roots] (.tup [agesD h2 h2.length [], words out, iD 0]) ∧ out.length = roots.length ∧ h2.length ≤ h.length ∧ GoodS h2 h2.length [] out := by
  obtain ⟨L, hL, rfl, h4, hA, hr⟩ := hg
  obtain ⟨T, mv, h1, h2, h3⟩ := major_good (Rch := fun _ => True) hL h4 hA (fun w hw => (hr w hw).1) hmax (fun _ _ _ => trivial) (fun _ _ _ _ _ _ => trivial)
  have hsz := h2.size
  refine ⟨flat T, roots.map (phi 0 mv), h1, by simp, by omega, T, h2.placed, rfl, by omega, good_copied hL rfl hA h2 h4 (Int.le_refl _), fun w hw => ?_⟩
  obtain ⟨p, hp, rfl⟩ := List.mem_map.1 hw
  exact ⟨copied_name h2 h4 (Int.le_refl _) (hr p hp).1 (h3 p hp), phi_wordok (hr p hp).2⟩


theorem rightW (l : List (List PV)) (sets : List (Int × Int)) (minors : List Int) (hgr : ACallR Try.prog 37 [.p (.sl l), pairs sets, ints minors] GrownR) : ACallP Try.prog 10 [.p (.sl l), pairs sets, ints minors] (bD true) := by
  refine acallp_fn [6] Try.func10 rfl rfl Try.ntmps10 (by simp) fun R hR => ?_
  (refine awp_reg_seq [0, 1, 2] fun K hK => ?_; (repeat' ((refine al_r rfl fun K' hK' => ?_); (repeat (simp only [go_sem, simprocAttr, List.length_map, bne_self_eq_false, beq_self_eq_true])); ((refine hK' _ _ ?_) <;> clear hK' K'))); all_goals (refine al_nil ?_; (simp only [go_sem, simprocAttr, List.length_map, bne_self_eq_false, beq_self_eq_true]); refine hK _ ?_; clear hK K))
  (refine awp_reg_seq [7, 8, 9] fun K hK => ?_; (repeat' ((first | refine al_r rfl fun K' hK' => ?_ | refine al_d rfl fun K' hK' => ?_); (repeat (first | (simp only [go_sem, simprocAttr, List.length_map, bne_self_eq_false, beq_self_eq_true]) | refine AS.mk ?_)); (first | ((first | refine hK' _ _ ?_ | refine ⟨?_, hK' _ _ ?_⟩) <;> clear hK' K' <;> (first | (show alist _ _ _ _ _ _; skip) | (simp; done))) | ((show AC _ _ (D.fn 37 _) _ _); refine acall_r (f := 37) Try.call37 hgr rfl ?_; rintro r ⟨h, old, late, roots, rfl, hg, hrl⟩; (simp only [go_sem, simprocAttr, List.length_map, bne_self_eq_false, beq_self_eq_true]); refine hK' _ _ ?_; clear hK' K')))); all_goals (refine al_nil ?_; (simp only [go_sem, simprocAttr, List.length_map, bne_self_eq_false, beq_self_eq_true]); refine hK _ ?_; clear hK K))
  (refine awp_frz [7, 8, 9] [] (by decide) (by (simp; done)) ?_; simp only [go_sem, simprocAttr, List.length_map, bne_self_eq_false, beq_self_eq_true])
  have hck := checkS hg
  have htr : List.take roots.length (roots.map wrow) = roots.map wrow := List.take_of_length_le (by simp)
  obtain ⟨h2, out, hmin, hol, hle1, hg2⟩ := minorS hg (by omega)
  rw [← hol] at hmin
  have hto : List.take out.length (out.map wrow) = out.map wrow := List.take_of_length_le (by simp)
  have hck2 := checkS hg2
  obtain ⟨h3, out2, hmaj, hol2, hle2, hg3⟩ := majorS hg2 (by omega)
  have hck3 := checkS hg3
  have hq1 : ((out2.length : Int) == (roots.length : Int)) = true := by rw [beq_iff_eq]; omega
  have hq2 : decide ((h2.length : Int) ≤ (h.length : Int)) = true := decide_eq_true (by omega)
  have hq3 : decide ((h3.length : Int) ≤ (h2.length : Int)) = true := decide_eq_true (by omega)

  refine awp_seq_k fun K hK => ?_
  (refine awp_reg_seq [7, 8, 34] fun K hK => ?_; (repeat' ((first | refine al_r rfl fun K' hK' => ?_ | refine al_t rfl rfl fun K' hK' => ?_); (repeat (simp only [go_sem, simprocAttr, List.length_map, bne_self_eq_false, beq_self_eq_true, htr, hto, List.drop_zero, hq1, hq2, hq3])); (first | ((refine hK' _ _ ?_) <;> clear hK' K') | ((show AC _ _ (D.fn 34 _) _ _); refine acall_p (f := 34) (e := rfl) (hr := rfl) (k := hK' _ _ ?_) (hc := Try.call34) (h := youths); clear hK' K') | ((show AC _ _ (D.fn 35 _) _ _); refine acall_p (f := 35) (e := rfl) (hr := rfl) (k := hK' _ _ ?_) (hc := Try.call35) (h := hck); clear hK' K')))); all_goals (refine al_nil ?_; (simp only [go_sem, simprocAttr, List.length_map, bne_self_eq_false, beq_self_eq_true, htr, hto, List.drop_zero, hq1, hq2, hq3]); refine hK _ ?_; clear hK K))
  refine awp_if (_) rfl (fun hc => ?_) (fun hc => ?_)
  · cases hc
  · refine awp_skip ?_
    refine hK _ ?_; clear hK K
    (refine awp_reg_seq [7, 8, 10, 11, 12] fun K hK => ?_; (repeat' ((first | refine al_r rfl fun K' hK' => ?_ | refine al_d rfl fun K' hK' => ?_); (repeat (first | (simp only [go_sem, simprocAttr, List.length_map, bne_self_eq_false, beq_self_eq_true, htr, hto, List.drop_zero, hq1, hq2, hq3]) | refine AS.mk ?_)); (first | ((first | refine hK' _ _ ?_ | refine ⟨?_, hK' _ _ ?_⟩) <;> clear hK' K' <;> (first | (show alist _ _ _ _ _ _; skip) | (simp; done))) | ((show AC _ _ (D.fn 38 _) _ _); refine acall_new (f := 38) Try.call38 hmin rfl ?_; rintro r obs' ⟨rfl, rfl⟩; (simp only [go_sem, simprocAttr, List.length_map, bne_self_eq_false, beq_self_eq_true, htr, hto, List.drop_zero, hq1, hq2, hq3]); refine hK' _ _ ?_; clear hK' K')))); all_goals (refine al_nil ?_; (simp only [go_sem, simprocAttr, List.length_map, bne_self_eq_false, beq_self_eq_true, htr, hto, List.drop_zero, hq1, hq2, hq3]); refine hK _ ?_; clear hK K))
    (refine awp_frz [7, 8, 10, 11, 12] [] (by decide) (by (simp; done)) ?_; simp only [go_sem, simprocAttr, List.length_map, bne_self_eq_false, beq_self_eq_true, htr, hto, List.drop_zero, hq1, hq2, hq3])
    (refine awp_reg_seq [7, 8, 10, 12, 13, 14, 15] fun K hK => ?_; (repeat' ((first | refine al_r rfl fun K' hK' => ?_ | refine al_d rfl fun K' hK' => ?_); (repeat (first | (simp only [go_sem, simprocAttr, List.length_map, bne_self_eq_false, beq_self_eq_true, htr, hto, List.drop_zero, hq1, hq2, hq3]) | refine AS.mk ?_)); (first | ((first | refine hK' _ _ ?_ | refine ⟨?_, hK' _ _ ?_⟩) <;> clear hK' K' <;> (first | (show alist _ _ _ _ _ _; skip) | (simp; done))) | ((show AC _ _ (D.fn 39 _) _ _); refine acall_p (f := 39) (e := rfl) (hr := rfl) (k := hK' _ _ ?_) (hc := Try.call39) (h := hmaj); clear hK' K')))); all_goals (refine al_nil ?_; (simp only [go_sem, simprocAttr, List.length_map, bne_self_eq_false, beq_self_eq_true, htr, hto, List.drop_zero, hq1, hq2, hq3]); refine hK _ ?_; clear hK K))
    (refine awp_frz [7, 8, 10, 12, 13, 14, 15] [] (by decide) (by (simp; done)) ?_; simp only [go_sem, simprocAttr, List.length_map, bne_self_eq_false, beq_self_eq_true, htr, hto, List.drop_zero, hq1, hq2, hq3])
    (refine awp_reg_seq [6] fun K hK => ?_; (repeat' ((first | refine al_r rfl fun K' hK' => ?_ | refine al_t rfl rfl fun K' hK' => ?_); (repeat (simp only [go_sem, simprocAttr, List.length_map, bne_self_eq_false, beq_self_eq_true, htr, hto, List.drop_zero, hq1, hq2, hq3])); (first | ((first | refine hK' _ _ ?_ | refine ⟨?_, hK' _ _ ?_⟩) <;> clear hK' K' <;> (first | (show alist _ _ _ _ _ _; skip) | (intro s hs; cases hs; done))) | ((show AC _ _ (D.fn 35 _) _ _); refine acall_p (f := 35) (e := rfl) (hr := rfl) (k := hK' _ _ ?_) (hc := Try.call35) (h := hck2); clear hK' K') | ((show AC _ _ (D.fn 35 _) _ _); refine acall_p (f := 35) (e := rfl) (hr := rfl) (k := hK' _ _ ?_) (hc := Try.call35) (h := hck3); clear hK' K') | ((show AC _ _ (D.fn 20 _) _ _); refine acall_w [] (by decide) (by simp) (f := 20) (e := rfl) (hr := fun _ => rfl) (k := hK' _ _ ?_) (hc := Try.call20) (h := good00); clear hK' K')))); all_goals (refine al_nil ?_; (simp only [go_sem, simprocAttr, List.length_map, bne_self_eq_false, beq_self_eq_true, htr, hto, List.drop_zero, hq1, hq2, hq3]); refine hK _ ?_; clear hK K))
    all_goals (refine awp_ret ?_; (refine hR _ _ (.inl rfl) rfl ?_); (simp only [go_sem, simprocAttr, List.length_map, bne_self_eq_false, beq_self_eq_true, htr, hto, List.drop_zero, hq1, hq2, hq3, *, Bool.and_true, Bool.and_false, Bool.true_and, Bool.false_and, Bool.or_true, Bool.true_or, Bool.or_false, Bool.false_or, Bool.not_true, Bool.not_false, Bool.false_eq_true]; done))

/-- Without roots nothing is left. -/
theorem diesS {h late roots : List Int} {old : Int} (hg : GoodS h old late roots) : ACallP Try.prog 39 [agesD h old late, words []] (.tup [agesD [] 0 [], words [], iD 0]) := by
  obtain ⟨L, hL, rfl, h4, hA, hr⟩ := hg
  obtain ⟨T, mv, h1, h2, h3⟩ := major_good (ws := []) (Rch := fun _ => False) hL h4 hA (fun w hw => (by cases hw)) (by simp) (fun w hw => (by cases hw)) (fun _ _ hf => hf.elim)
  have hT : T = [] := by
    cases T with
    | nil => rfl
    | cons x T =>
      obtain ⟨o, _, _, hi, _⟩ := h2.src x List.mem_cons_self
      have hx := placed_lt h2.placed (List.mem_cons_self (a := x) (l := T))
      exact ((h2.dst _ _ (hi hx.1).2).1).elim
  subst hT
  exact h1


theorem diesW (l : List (List PV)) (sets : List (Int × Int)) (minors : List Int) (hgr : ACallR Try.prog 37 [.p (.sl l), pairs sets, ints minors] GrownR) : ACallP Try.prog 12 [.p (.sl l), pairs sets, ints minors] (bD true) := by
  refine acallp_fn [6] Try.func12 rfl rfl Try.ntmps12 (by simp) fun R hR => ?_
  (refine awp_reg_seq [0, 1, 2] fun K hK => ?_; (repeat' ((refine al_r rfl fun K' hK' => ?_); (repeat (simp only [go_sem, simprocAttr, List.length_map, List.length_nil, bne_self_eq_false, beq_self_eq_true])); ((refine hK' _ _ ?_) <;> clear hK' K'))); all_goals (refine al_nil ?_; (simp only [go_sem, simprocAttr, List.length_map, List.length_nil, bne_self_eq_false, beq_self_eq_true]); refine hK _ ?_; clear hK K))
  (refine awp_reg_seq [7, 9] fun K hK => ?_; (repeat' ((first | refine al_r rfl fun K' hK' => ?_ | refine al_d rfl fun K' hK' => ?_); (repeat (first | (simp only [go_sem, simprocAttr, List.length_map, List.length_nil, bne_self_eq_false, beq_self_eq_true]) | refine AS.mk ?_)); (first | ((first | refine hK' _ _ ?_ | refine ⟨?_, hK' _ _ ?_⟩) <;> clear hK' K' <;> (first | (show alist _ _ _ _ _ _; skip) | (simp; done))) | ((show AC _ _ (D.fn 37 _) _ _); refine acall_r (f := 37) Try.call37 hgr rfl ?_; rintro r ⟨h, old, late, roots, rfl, hg, hrl⟩; (simp only [go_sem, simprocAttr, List.length_map, List.length_nil, bne_self_eq_false, beq_self_eq_true]); refine hK' _ _ ?_; clear hK' K')))); all_goals (refine al_nil ?_; (simp only [go_sem, simprocAttr, List.length_map, List.length_nil, bne_self_eq_false, beq_self_eq_true]); refine hK _ ?_; clear hK K))
  (refine awp_frz [7, 9] [] (by decide) (by (simp; done)) ?_; simp only [go_sem, simprocAttr, List.length_map, List.length_nil, bne_self_eq_false, beq_self_eq_true])
  have hmaj : ACallP Try.prog 39 [agesD h old late, .nil] _ := ACallP.soft (diesS hg) rfl
  refine awp_seq_k fun K hK => ?_
  (refine awp_reg_seq [7, 26] fun K hK => ?_; (repeat' ((first | refine al_r rfl fun K' hK' => ?_ | refine al_t rfl rfl fun K' hK' => ?_); (repeat (simp only [go_sem, simprocAttr, List.length_map, List.length_nil, bne_self_eq_false, beq_self_eq_true])); (first | ((refine hK' _ _ ?_) <;> clear hK' K') | ((show AC _ _ (D.fn 34 _) _ _); refine acall_p (f := 34) (e := rfl) (hr := rfl) (k := hK' _ _ ?_) (hc := Try.call34) (h := youths); clear hK' K')))); all_goals (refine al_nil ?_; (simp only [go_sem, simprocAttr, List.length_map, List.length_nil, bne_self_eq_false, beq_self_eq_true]); refine hK _ ?_; clear hK K))
  refine awp_if (_) rfl (fun hc => ?_) (fun hc => ?_)
  · cases hc
  · refine awp_skip ?_
    refine hK _ ?_; clear hK K
    (refine awp_reg_seq [10, 11, 12] fun K hK => ?_; (repeat' ((first | refine al_r rfl fun K' hK' => ?_ | refine al_d rfl fun K' hK' => ?_); (repeat (first | (simp only [go_sem, simprocAttr, List.length_map, List.length_nil, bne_self_eq_false, beq_self_eq_true]) | refine AS.mk ?_)); (first | ((first | refine hK' _ _ ?_ | refine ⟨?_, hK' _ _ ?_⟩) <;> clear hK' K' <;> (first | (show alist _ _ _ _ _ _; skip) | (simp; done))) | ((show AC _ _ (D.fn 39 _) _ _); refine acall_p (f := 39) (e := rfl) (hr := rfl) (k := hK' _ _ ?_) (hc := Try.call39) (h := hmaj); clear hK' K')))); all_goals (refine al_nil ?_; (simp only [go_sem, simprocAttr, List.length_map, List.length_nil, bne_self_eq_false, beq_self_eq_true]); refine hK _ ?_; clear hK K))
    (refine awp_frz [10, 11, 12] [] (by decide) (by (simp; done)) ?_; simp only [go_sem, simprocAttr, List.length_map, List.length_nil, bne_self_eq_false, beq_self_eq_true])
    (refine awp_reg_seq [6] fun K hK => ?_; (repeat' ((first | refine al_r rfl fun K' hK' => ?_ | refine al_t rfl rfl fun K' hK' => ?_); (repeat (simp only [go_sem, simprocAttr, List.length_map, List.length_nil, bne_self_eq_false, beq_self_eq_true])); ((first | refine hK' _ _ ?_ | refine ⟨?_, hK' _ _ ?_⟩) <;> clear hK' K' <;> (first | (show alist _ _ _ _ _ _; skip) | (intro s hs; cases hs; done))))); all_goals (refine al_nil ?_; (simp only [go_sem, simprocAttr, List.length_map, List.length_nil, bne_self_eq_false, beq_self_eq_true]); refine hK _ ?_; clear hK K))
    all_goals (refine awp_ret ?_; (refine hR _ _ (.inl rfl) rfl ?_); (simp only [go_sem, simprocAttr, List.length_map, List.length_nil, bne_self_eq_false, beq_self_eq_true, *, Bool.and_true, Bool.and_false, Bool.true_and, Bool.false_and, Bool.or_true, Bool.true_or, Bool.or_false, Bool.false_or, Bool.not_true, Bool.not_false, Bool.false_eq_true]; done))
end Go.Proofs.Ytagphggcdmjlpaa.P

/- A second major collection: all is reached. A minor one of what is old changes nothing. -/
namespace Go.Proofs.Ytagphggcdmjlpaa.P
open Go.Ab Go.Proofs.Ytagphggcdmjlpaa.T

/-- What is reached from words. -/
inductive Reach (L : List Obj) (ws : List Int) : Int → Prop where
  | root {w : Int} : w ∈ ws → (placeS w).2.1 = true → Reach L ws (placeS w).1
  | step {o : Obj} {p : Int} : o ∈ L → Reach L ws o.at_ → p ∈ o.parts → (placeS p).2.1 = true → Reach L ws (placeS p).1

theorem toY0 {L : List Obj} {w : Int} (hL : Placed L) (hn : NameOk L w) (hi : (placeS w).2.1 = true) : toY 0 w = true := by
  obtain ⟨o, ho, ha⟩ := hn.2 hi
  have := placed_lt hL ho
  unfold toY
  rw [hi, decide_eq_true (by omega)]
  rfl

theorem copied_at {L T : List Obj} {low : Int} {Rch : Int → Prop} {mv : List (Int × Int)} (hc : Copied L low Rch T mv) (h4 : (flat L).length ≤ 4000) {w t : Int} (ht : toY low w = true) (e : lk mv (placeS w).1 = some t) : placeS (phi low mv w) = (t, true, 0) := by
  obtain ⟨_, _, x, hx, hxa⟩ := hc.dst _ _ e
  obtain ⟨n, en, hnl⟩ := placed_len hc.placed hx
  have hsz := hc.size
  have htn : t = (n : Int) := by omega
  rw [phi_some ht e, htn]
  exact place_word (by omega)

/-- The object that stands for one. -/
theorem copied_obj {L T : List Obj} {Rch : Int → Prop} {mv : List (Int × Int)} (hL : Placed L) (hc : Copied L 0 Rch T mv) {o : Obj} (ho : o ∈ L) {t : Int} (e : lk mv o.at_ = some t) :
    ∃ x, x ∈ T ∧ x.at_ = t ∧ x.kind = o.kind ∧ x.num = o.num ∧ x.text = o.text ∧ x.parts = o.parts.map (phi 0 mv) ∧ ∀ p, p ∈ o.parts → Known 0 mv p := by
  obtain ⟨_, _, x, hx, hxa⟩ := hc.dst _ _ e
  obtain ⟨o2, ho2, _, hhi, h1, h2, h3, h4, hkn⟩ := hc.src x hx
  have hxp := placed_lt hc.placed hx
  have e2 := (hhi hxp.1).2
  rw [hxa] at e2
  have := placed_inj hL ho2 ho (hc.inj _ _ _ e2 e)
  subst this
  exact ⟨x, hx, hxa, h1, h2, h3, h4, hkn⟩

theorem reach_known {L T : List Obj} {Rch : Int → Prop} {mv : List (Int × Int)} {ws : List Int} (hL : Placed L) (hc : Copied L 0 Rch T mv) (hn : ∀ o, o ∈ L → ∀ p, p ∈ o.parts → NameOk L p) (hw : ∀ w, w ∈ ws → NameOk L w) (hk : ∀ w, w ∈ ws → Known 0 mv w) :
    ∀ a, Reach L ws a → ∃ t, lk mv a = some t := by
  intro a h
  induction h with
  | root hwm hi => exact hk _ hwm (toY0 hL (hw _ hwm) hi)
  | step ho _ hp hi ih =>
    obtain ⟨t, e⟩ := ih
    obtain ⟨x, _, _, _, _, _, _, hkn⟩ := copied_obj hL hc ho e
    exact hkn _ hp (toY0 hL (hn _ ho _ hp) hi)

theorem reach_copied {L T : List Obj} {Rch : Int → Prop} {mv : List (Int × Int)} {ws : List Int} (hL : Placed L) (h4 : (flat L).length ≤ 4000) (hc : Copied L 0 Rch T mv) (hn : ∀ o, o ∈ L → ∀ p, p ∈ o.parts → NameOk L p) (hw : ∀ w, w ∈ ws → NameOk L w) (hk : ∀ w, w ∈ ws → Known 0 mv w) :
    ∀ a, Reach L ws a → ∀ t, lk mv a = some t → Reach T (ws.map (phi 0 mv)) t := by
  intro a h
  induction h with
  | @root w hwm hi =>
    intro t e
    have hp := copied_at hc h4 (toY0 hL (hw _ hwm) hi) e
    have := Reach.root (L := T) (ws := ws.map (phi 0 mv)) (w := phi 0 mv w) (List.mem_map.2 ⟨w, hwm, rfl⟩) (by rw [hp])
    rw [hp] at this
    exact this
  | @step o p ho hr hpm hi ih =>
    intro t e
    obtain ⟨t2, e2⟩ := reach_known hL hc hn hw hk _ hr
    obtain ⟨x, hx, hxa, _, _, _, hxp, _⟩ := copied_obj hL hc ho e2
    have hr2 := ih t2 e2
    rw [← hxa] at hr2
    have hp := copied_at hc h4 (toY0 hL (hn _ ho _ hpm) hi) e
    have := Reach.step (p := phi 0 mv p) hx hr2 (by rw [hxp]; exact List.mem_map.2 ⟨p, hpm, rfl⟩) (by rw [hp])
    rw [hp] at this
    exact this

/-- Two lists of objects at their places, one in the other, of one length. -/
theorem same_list : ∀ (T L : List Obj) (a : Nat), place a T = T → place a L = L → (∀ x, x ∈ T → x ∈ L) → (flat T).length = (flat L).length → T = L
  | [], [], _, _, _, _, _ => rfl
  | [], y :: L, _, _, _, _, h => by
    have : (flat (y :: L)).length = (encW y).length + (flat L).length := by show (encW y ++ flat L).length = _; rw [List.length_append]
    have hpos : 1 ≤ (encW y).length := by simp [encW]
    have h0 : (flat ([] : List Obj)).length = 0 := rfl
    omega
  | x :: T, [], _, _, _, hs, _ => by have := hs x List.mem_cons_self; cases this
  | x :: T, y :: L, a, hT, hL, hs, h => by
    obtain ⟨t1, t2⟩ := List.cons.inj hT
    obtain ⟨l1, l2⟩ := List.cons.inj hL
    have hxa : x.at_ = a := by rw [← t1]; rfl
    have hxy : x = y := by
      rcases List.mem_cons.1 (hs x List.mem_cons_self) with h | h
      · exact h
      · rw [← l2] at h
        have := place_ge h
        have hpos : 1 ≤ (encW y).length := by simp [encW]
        omega
    subst hxy
    have e1 : (flat (x :: T)).length = (encW x).length + (flat T).length := by show (encW x ++ flat T).length = _; rw [List.length_append]
    have e2 : (flat (x :: L)).length = (encW x).length + (flat L).length := by show (encW x ++ flat L).length = _; rw [List.length_append]
    rw [same_list T L _ t2 l2 (fun z hz => by
      rcases List.mem_cons.1 (hs z (List.mem_cons_of_mem _ hz)) with h | h
      · subst h
        rw [← t2] at hz
        have := place_ge hz
        have hpos : 1 ≤ (encW z).length := by simp [encW]
        omega
      · exact h) (by omega)]

/-- Of what is all old a minor collection changes nothing. -/
theorem minor_old {L : List Obj} {ws : List Int} (hL : Placed L) (h4 : (flat L).length ≤ 4000) (hg : GoodA (flat L).length (flat L).length [] L) (hw : ∀ w, w ∈ ws → NameOk L w) (hwl : ws.length ≤ 100000) :
    ACalls Try.prog 38 [agesD (flat L) (flat L).length [], words ws] [] (fun r obs' => r = .tup [.agg [words (flat L), iD (flat L).length, .p (.sl [])], .ref 0 0 ws.length, iD 0] ∧ obs' = [.row 1 (ws.map wrow)]) := by
  obtain ⟨T, mv, h1, hc, _⟩ := minor_good hL h4 hg hw hwl
  have hno : ∀ w, NameOk L w → phi (flat L).length mv w = w := fun w hn => by
    refine phi_not ?_
    unfold toY
    cases hi : (placeS w).2.1 with
    | false => rfl
    | true =>
      obtain ⟨o, ho, ha⟩ := hn.2 hi
      have := placed_lt hL ho
      rw [decide_eq_false (by omega)]; rfl
  have hmap : ∀ l : List Int, (∀ w, w ∈ l → NameOk L w) → l.map (phi (flat L).length mv) = l := fun l h => by
    have : l.map (phi (flat L).length mv) = l.map id := List.map_congr_left fun w hwm => hno w (h w hwm)
    rw [this, List.map_id]
  have hsz := hc.size
  have hlt := hc.lowT
  have hTL : T = L := by
    refine same_list T L 0 hc.placed.1 hL.1 (fun x hx => ?_) (by omega)
    obtain ⟨o, ho, hlo, _, e1, e2, e3, e4, _⟩ := hc.src x hx
    have hxl := placed_lt hc.placed hx
    have e0 := hlo (by omega)
    rw [hmap _ (good_parts hL rfl hg ho)] at e4
    have : x = o := by
      obtain ⟨a, b, c, d, e⟩ := x
      obtain ⟨a', b', c', d', e'⟩ := o
      simp only at e0 e1 e2 e3 e4
      subst e0 e1 e2 e3 e4
      rfl
    rw [this]; exact ho
  rw [hTL, hmap ws hw] at h1
  exact h1

/-- Twice collected. -/
theorem twiceS {h late roots : List Int} {old : Int} (hg : GoodS h old late roots) (hmax : roots.length ≤ 100000) :
    ∃ h2 out h3 out2, ACallP Try.prog 39 [agesD h old late, words roots] (.tup [agesD h2 h2.length [], words out, iD 0]) ∧ ACallP Try.prog 39 [agesD h2 h2.length [], words out] (.tup [agesD h3 h3.length [], words out2, iD 0]) ∧
      ACalls Try.prog 38 [agesD h2 h2.length [], words out] [] (fun r obs' => r = .tup [agesD h2 h2.length [], .ref 0 0 out.length, iD 0] ∧ obs' = [.row 1 (out.map wrow)]) ∧ h3.length = h2.length ∧ out2.length = out.length ∧ out.length ≤ 100000 ∧ h2.length ≤ 4000 := by
  obtain ⟨L, hL, rfl, h4, hA, hr⟩ := hg
  have hn := fun o (ho : o ∈ L) => good_parts hL rfl hA ho
  obtain ⟨T, mv, h1, hc1, hk1⟩ := major_good (Rch := Reach L roots) hL h4 hA (fun w hw => (hr w hw).1) hmax (fun w hw hi => .root hw hi) (fun o ho hro w hw hi => .step ho hro hw hi)
  have hsz := hc1.size
  have hA1 := good_copied hL rfl hA hc1 h4 (Int.le_refl _)
  have hw1 : ∀ w, w ∈ roots.map (phi 0 mv) → NameOk T w := fun w hw => by
    obtain ⟨p, hp, rfl⟩ := List.mem_map.1 hw
    exact copied_name hc1 h4 (Int.le_refl _) (hr p hp).1 (hk1 p hp)
  have h4T : (flat T).length ≤ 4000 := by omega
  obtain ⟨T2, mv2, h2, hc2, hk2⟩ := major_good (Rch := fun _ => True) hc1.placed h4T hA1 hw1 (by simpa using hmax) (fun _ _ _ => trivial) (fun _ _ _ _ _ _ => trivial)
  have h3 := minor_old hc1.placed h4T hA1 hw1 (by simpa using hmax)
  have hn1 := fun o (ho : o ∈ T) => good_parts hc1.placed rfl hA1 ho
  have hrest : restN (leftB 0 mv2) T = 0 := rest_zero fun x hx => by
    obtain ⟨o, ho, _, hhi, _⟩ := hc1.src x hx
    have e := (hhi (placed_lt hc1.placed hx).1).2
    have hro := (hc1.dst _ _ e).1
    have hrx := reach_copied hL h4 hc1 hn (fun w hw => (hr w hw).1) hk1 _ hro _ e
    obtain ⟨t, e2⟩ := reach_known hc1.placed hc2 hn1 hw1 hk2 _ hrx
    unfold leftB
    rw [e2]; simp
  have hsz2 := hc2.size
  exact ⟨flat T, roots.map (phi 0 mv), flat T2, (roots.map (phi 0 mv)).map (phi 0 mv2), h1, h2, h3, by omega, by simp, by simpa using hmax, h4T⟩

theorem good000 : ACallP Try.prog 20 [.p (.sl [[.lit (.int .i64 0)], [.lit (.int .i64 0)], [.lit (.int .i64 0)]])] (bD true) := goodE [0, 0, 0] (by simp [maxLen])


theorem twiceW (l : List (List PV)) (sets : List (Int × Int)) (minors : List Int) (hgr : ACallR Try.prog 37 [.p (.sl l), pairs sets, ints minors] GrownR) : ACallP Try.prog 11 [.p (.sl l), pairs sets, ints minors] (bD true) := by
  refine acallp_fn [6] Try.func11 rfl rfl Try.ntmps11 (by simp) fun R hR => ?_
  (refine awp_reg_seq [0, 1, 2] fun K hK => ?_; (repeat' ((refine al_r rfl fun K' hK' => ?_); (repeat (simp only [go_sem, simprocAttr, List.length_map, bne_self_eq_false, beq_self_eq_true])); ((refine hK' _ _ ?_) <;> clear hK' K'))); all_goals (refine al_nil ?_; (simp only [go_sem, simprocAttr, List.length_map, bne_self_eq_false, beq_self_eq_true]); refine hK _ ?_; clear hK K))
  (refine awp_reg_seq [7, 8, 9] fun K hK => ?_; (repeat' ((first | refine al_r rfl fun K' hK' => ?_ | refine al_d rfl fun K' hK' => ?_); (repeat (first | (simp only [go_sem, simprocAttr, List.length_map, bne_self_eq_false, beq_self_eq_true]) | refine AS.mk ?_)); (first | ((first | refine hK' _ _ ?_ | refine ⟨?_, hK' _ _ ?_⟩) <;> clear hK' K' <;> (first | (show alist _ _ _ _ _ _; skip) | (simp; done))) | ((show AC _ _ (D.fn 37 _) _ _); refine acall_r (f := 37) Try.call37 hgr rfl ?_; rintro r ⟨h, old, late, roots, rfl, hg, hrl⟩; (simp only [go_sem, simprocAttr, List.length_map, bne_self_eq_false, beq_self_eq_true]); refine hK' _ _ ?_; clear hK' K')))); all_goals (refine al_nil ?_; (simp only [go_sem, simprocAttr, List.length_map, bne_self_eq_false, beq_self_eq_true]); refine hK _ ?_; clear hK K))
  (refine awp_frz [7, 8, 9] [] (by decide) (by (simp; done)) ?_; simp only [go_sem, simprocAttr, List.length_map, bne_self_eq_false, beq_self_eq_true])
  have htr : List.take roots.length (roots.map wrow) = roots.map wrow := List.take_of_length_le (by simp)
  obtain ⟨h2, out, h3, out2, hmaj, hmaj2, hmin, hl3, ho2, hom, h24⟩ := twiceS hg (by omega)
  have hto : List.take out.length (out.map wrow) = out.map wrow := List.take_of_length_le (by simp)
  have heqh : ACallP Try.prog 18 [words h2, words h2] (bD true) := by
    have := equalW h2 h2 (by simp only [maxLen]; omega)
    rw [(listEq_iff eqI_iff).2 rfl] at this
    exact this
  have heqw := equalU_same out (by simp only [maxLen]; omega)
  have hq1 : ((h3.length : Int) == (h2.length : Int)) = true := by rw [beq_iff_eq]; omega
  have hq2 : ((out2.length : Int) == (out.length : Int)) = true := by rw [beq_iff_eq]; omega

  refine awp_seq_k fun K hK => ?_
  (refine awp_reg_seq [7, 8, 32] fun K hK => ?_; (repeat' ((first | refine al_r rfl fun K' hK' => ?_ | refine al_t rfl rfl fun K' hK' => ?_); (repeat (simp only [go_sem, simprocAttr, List.length_map, bne_self_eq_false, beq_self_eq_true, htr, hto, List.drop_zero, hq1, hq2])); (first | ((refine hK' _ _ ?_) <;> clear hK' K') | ((show AC _ _ (D.fn 34 _) _ _); refine acall_p (f := 34) (e := rfl) (hr := rfl) (k := hK' _ _ ?_) (hc := Try.call34) (h := youths); clear hK' K')))); all_goals (refine al_nil ?_; (simp only [go_sem, simprocAttr, List.length_map, bne_self_eq_false, beq_self_eq_true, htr, hto, List.drop_zero, hq1, hq2]); refine hK _ ?_; clear hK K))
  refine awp_if (_) rfl (fun hc => ?_) (fun hc => ?_)
  · cases hc
  · refine awp_skip ?_
    refine hK _ ?_; clear hK K
    (refine awp_reg_seq [10, 11, 12] fun K hK => ?_; (repeat' ((first | refine al_r rfl fun K' hK' => ?_ | refine al_d rfl fun K' hK' => ?_); (repeat (first | (simp only [go_sem, simprocAttr, List.length_map, bne_self_eq_false, beq_self_eq_true, htr, hto, List.drop_zero, hq1, hq2]) | refine AS.mk ?_)); (first | ((first | refine hK' _ _ ?_ | refine ⟨?_, hK' _ _ ?_⟩) <;> clear hK' K' <;> (first | (show alist _ _ _ _ _ _; skip) | (simp; done))) | ((show AC _ _ (D.fn 39 _) _ _); refine acall_p (f := 39) (e := rfl) (hr := rfl) (k := hK' _ _ ?_) (hc := Try.call39) (h := hmaj); clear hK' K')))); all_goals (refine al_nil ?_; (simp only [go_sem, simprocAttr, List.length_map, bne_self_eq_false, beq_self_eq_true, htr, hto, List.drop_zero, hq1, hq2]); refine hK _ ?_; clear hK K))
    (refine awp_frz [10, 11, 12] [] (by decide) (by (simp; done)) ?_; simp only [go_sem, simprocAttr, List.length_map, bne_self_eq_false, beq_self_eq_true, htr, hto, List.drop_zero, hq1, hq2])
    (refine awp_reg_seq [10, 11, 12, 13, 14, 15] fun K hK => ?_; (repeat' ((first | refine al_r rfl fun K' hK' => ?_ | refine al_d rfl fun K' hK' => ?_); (repeat (first | (simp only [go_sem, simprocAttr, List.length_map, bne_self_eq_false, beq_self_eq_true, htr, hto, List.drop_zero, hq1, hq2]) | refine AS.mk ?_)); (first | ((first | refine hK' _ _ ?_ | refine ⟨?_, hK' _ _ ?_⟩) <;> clear hK' K' <;> (first | (show alist _ _ _ _ _ _; skip) | (simp; done))) | ((show AC _ _ (D.fn 39 _) _ _); refine acall_p (f := 39) (e := rfl) (hr := rfl) (k := hK' _ _ ?_) (hc := Try.call39) (h := hmaj2); clear hK' K')))); all_goals (refine al_nil ?_; (simp only [go_sem, simprocAttr, List.length_map, bne_self_eq_false, beq_self_eq_true, htr, hto, List.drop_zero, hq1, hq2]); refine hK _ ?_; clear hK K))
    (refine awp_frz [10, 11, 12, 13, 14, 15] [] (by decide) (by (simp; done)) ?_; simp only [go_sem, simprocAttr, List.length_map, bne_self_eq_false, beq_self_eq_true, htr, hto, List.drop_zero, hq1, hq2])
    (refine awp_reg_seq [10, 11, 12, 13, 14, 15, 16, 17, 18] fun K hK => ?_; (repeat' ((first | refine al_r rfl fun K' hK' => ?_ | refine al_d rfl fun K' hK' => ?_); (repeat (first | (simp only [go_sem, simprocAttr, List.length_map, bne_self_eq_false, beq_self_eq_true, htr, hto, List.drop_zero, hq1, hq2]) | refine AS.mk ?_)); (first | ((first | refine hK' _ _ ?_ | refine ⟨?_, hK' _ _ ?_⟩) <;> clear hK' K' <;> (first | (show alist _ _ _ _ _ _; skip) | (simp; done))) | ((show AC _ _ (D.fn 38 _) _ _); refine acall_new (f := 38) Try.call38 hmin rfl ?_; rintro r obs' ⟨rfl, rfl⟩; (simp only [go_sem, simprocAttr, List.length_map, bne_self_eq_false, beq_self_eq_true, htr, hto, List.drop_zero, hq1, hq2]); refine hK' _ _ ?_; clear hK' K')))); all_goals (refine al_nil ?_; (simp only [go_sem, simprocAttr, List.length_map, bne_self_eq_false, beq_self_eq_true, htr, hto, List.drop_zero, hq1, hq2]); refine hK _ ?_; clear hK K))
    (refine awp_frz [10, 11, 12, 13, 14, 15, 16, 17, 18] [] (by decide) (by (simp; done)) ?_; simp only [go_sem, simprocAttr, List.length_map, bne_self_eq_false, beq_self_eq_true, htr, hto, List.drop_zero, hq1, hq2])
    (refine awp_reg_seq [6] fun K hK => ?_; (repeat' ((first | refine al_r rfl fun K' hK' => ?_ | refine al_t rfl rfl fun K' hK' => ?_); (repeat (simp only [go_sem, simprocAttr, List.length_map, bne_self_eq_false, beq_self_eq_true, htr, hto, List.drop_zero, hq1, hq2])); (first | ((first | refine hK' _ _ ?_ | refine ⟨?_, hK' _ _ ?_⟩) <;> clear hK' K' <;> (first | (show alist _ _ _ _ _ _; skip) | (intro s hs; cases hs; done))) | ((show AC _ _ (D.fn 20 _) _ _); refine acall_w [] (by decide) (by simp) (f := 20) (e := rfl) (hr := fun _ => rfl) (k := hK' _ _ ?_) (hc := Try.call20) (h := good000); clear hK' K') | ((show AC _ _ (D.fn 18 _) _ _); refine acall_p (f := 18) (e := rfl) (hr := rfl) (k := hK' _ _ ?_) (hc := Try.call18) (h := heqh); clear hK' K') | ((show AC _ _ (D.fn 21 _) _ _); refine acall_p (f := 21) (e := rfl) (hr := rfl) (k := hK' _ _ ?_) (hc := Try.call21) (h := heqw); clear hK' K')))); all_goals (refine al_nil ?_; (simp only [go_sem, simprocAttr, List.length_map, bne_self_eq_false, beq_self_eq_true, htr, hto, List.drop_zero, hq1, hq2]); refine hK _ ?_; clear hK K))
    all_goals (refine awp_ret ?_; (refine hR _ _ (.inl rfl) rfl ?_); (simp only [go_sem, simprocAttr, List.length_map, bne_self_eq_false, beq_self_eq_true, htr, hto, List.drop_zero, hq1, hq2, *, Bool.and_true, Bool.and_false, Bool.true_and, Bool.false_and, Bool.or_true, Bool.true_or, Bool.or_false, Bool.false_or, Bool.not_true, Bool.not_false, Bool.false_eq_true]; done))
end Go.Proofs.Ytagphggcdmjlpaa.P

/- What data of the types of this seat's statements looks like, by a program of this session (genshape.py). -/
namespace Go.Proofs.Ytagphggcdmjlpaa.P3
open Go.Ab
theorem closed : closedT Try.prog [3, 9, 36, 38, 58, 70, 139] = true := by kernel_rfl
theorem c3 : Try.prog.cellsOf 3 = 1 := by kernel_rfl
theorem c58 : Try.prog.cellsOf 58 = 1 := by kernel_rfl
theorem c70 : Try.prog.cellsOf 70 = 1 := by kernel_rfl
theorem c139 : Try.prog.cellsOf 139 = 2 := by kernel_rfl
theorem sh_bool {P : Program} {f : Nat} {t : TypeId} {xs : List PV} (hu : P.underlying t = some .bool) (h : shapeOk P f t xs) : ∃ b, xs = [.lit (.bool b)] ∧ True := by
  obtain ⟨b, rfl⟩ := shape_bool hu h; exact ⟨b, rfl, trivial⟩
structure Pair where
  s0 : Int
  s1 : Int

def Pair.row (b : Pair) : List PV := [.lit (.int .i64 b.s0), .lit (.int .i64 b.s1)]
def Pair.ok (b : Pair) : Prop := (Lit.int .i64 b.s0).wf = true ∧ (Lit.int .i64 b.s1).wf = true
theorem Pair.row_length (b : Pair) : b.row.length = 2 := rfl
set_option maxRecDepth 100000 in
theorem sh139 {f : Nat} {xs : List PV} (h : shapeOk Try.prog f 139 xs) : ∃ x : Pair, xs = x.row ∧ x.ok := by
  obtain ⟨m, rfl, hl, hf⟩ := shape_array Try.underlying139 h
  match xs, hl with
  | [q0, q1], _ =>
    obtain ⟨x0, e0, k0⟩ := shape_int Try.underlying3 (hf q0 (by simp))
    obtain ⟨x1, e1, k1⟩ := shape_int Try.underlying3 (hf q1 (by simp))
    simp only [List.cons.injEq, and_true] at e0 e1
    exact ⟨⟨x0, x1⟩, by rw [e0, e1]; rfl, k0, k1⟩

theorem rows139 {f : Nat} : ∀ (rows : List (List PV)), (∀ r, r ∈ rows → r.length = Try.prog.cellsOf 139 ∧ shapeOk Try.prog f 139 r) → ∃ ls : List Pair, rows = ls.map (Pair.row) ∧ ∀ x, x ∈ ls → x.ok
  | [], _ => ⟨[], rfl, fun x hx => by cases hx⟩
  | r :: rows, h => by
    obtain ⟨x, rfl, hx⟩ := sh139 (h r List.mem_cons_self).2
    obtain ⟨ls, rfl, hl⟩ := rows139 rows fun r hr => h r (List.mem_cons_of_mem _ hr)
    exact ⟨x :: ls, rfl, fun y hy => by rcases List.mem_cons.1 hy with rfl | hy; exact hx; exact hl y hy⟩

theorem sh70 {f : Nat} {xs : List PV} (h : shapeOk Try.prog f 70 xs) : ∃ x : (List Pair), xs = [.sl (x.map Pair.row)] ∧ (x.length ≤ maxLen ∧ (∀ y, y ∈ x → y.ok) ∧ x.length * 16 ≤ 140737488351232) := by
  obtain ⟨n, rows, _, rfl, hmax, hfit, hr⟩ := shape_slice Try.underlying70 h
  obtain ⟨ls, rfl, hl⟩ := rows139 rows hr
  exact ⟨ls, rfl, by simpa using hmax, hl, by rw [show Try.prog.bytesOf 139 = 16 by kernel_rfl, reach_is] at hfit; simpa using hfit⟩

theorem rows3 {f : Nat} : ∀ (rows : List (List PV)), (∀ r, r ∈ rows → r.length = Try.prog.cellsOf 3 ∧ shapeOk Try.prog f 3 r) → ∃ ls : List Int, rows = ls.map (fun x => [.lit (.int .i64 x)]) ∧ ∀ x, x ∈ ls → (Lit.int .i64 x).wf = true
  | [], _ => ⟨[], rfl, fun x hx => by cases hx⟩
  | r :: rows, h => by
    obtain ⟨x, rfl, hx⟩ := shape_int Try.underlying3 (h r List.mem_cons_self).2
    obtain ⟨ls, rfl, hl⟩ := rows3 rows fun r hr => h r (List.mem_cons_of_mem _ hr)
    exact ⟨x :: ls, rfl, fun y hy => by rcases List.mem_cons.1 hy with rfl | hy; exact hx; exact hl y hy⟩

theorem sh58 {f : Nat} {xs : List PV} (h : shapeOk Try.prog f 58 xs) : ∃ x : (List Int), xs = [.sl (x.map fun x => [.lit (.int .i64 x)])] ∧ (x.length ≤ maxLen ∧ (∀ y, y ∈ x → (Lit.int .i64 y).wf = true) ∧ x.length * 8 ≤ 140737488351232) := by
  obtain ⟨n, rows, _, rfl, hmax, hfit, hr⟩ := shape_slice Try.underlying58 h
  obtain ⟨ls, rfl, hl⟩ := rows3 rows hr
  exact ⟨ls, rfl, by simpa using hmax, hl, by rw [show Try.prog.bytesOf 3 = 8 by kernel_rfl, reach_is] at hfit; simpa using hfit⟩
theorem sh36 {f : Nat} {xs : List PV} (h : shapeOk Try.prog f 36 xs) : ∃ x : List (List PV), xs = [.sl x] ∧ (x.length ≤ maxLen ∧ ∃ g, ∀ y, y ∈ x → shapeOk Try.prog g 38 y) := by
  obtain ⟨n, rows, _, rfl, hmax, hfit, hr⟩ := shape_slice Try.underlying36 h
  exact ⟨rows, rfl, by simpa using hmax, _, fun y hy => (hr y hy).2⟩
end Go.Proofs.Ytagphggcdmjlpaa.P3

/- YoungTwice: a contract, of data as it comes. -/
namespace Go.Proofs.Ytagphggcdmjlpaa.P
open Go.Ab Go.Proofs.Ytagphggcdmjlpaa.T

theorem pairs_eq2 (s : List P3.Pair) : D.p (.sl (s.map P3.Pair.row)) = pairs (s.map fun p => (p.s0, p.s1)) := by
  unfold pairs
  rw [List.map_map]
  rfl

theorem twiceF (l : List (List PV)) (s : List P3.Pair) (m : List Int) (h1 : l.length ≤ maxLen ∧ ∃ g, ∀ y, y ∈ l → shapeOk Try.prog g 38 y) (h2 : s.length ≤ maxLen) (h3 : m.length ≤ maxLen) :
    ACallP Try.prog 11 [.p (.sl l), .p (.sl (s.map P3.Pair.row)), ints m] (bD true) := by
  rw [pairs_eq2]
  obtain ⟨h0, g, hg⟩ := h1
  exact twiceW l _ m (grownC g l _ m hg h0 (by simpa using h2) h3)
end Go.Proofs.Ytagphggcdmjlpaa.P

