/- Texts of this proof, joined: AbO, Y30, Y34, Y35, Y36, Y37, YK, Y39. -/
import Derived.Test.YtagphggcdmjlpaaKYoungKeeps5
set_option linter.unusedSimpArgs false
set_option linter.unusedVariables false
set_option maxHeartbeats 1000000
/- A variable's cell that has nothing has the empty row. No program is named here. -/
namespace Go.Ab

theorem awp_soft_box {P : Program} {nt : Nat} {Q : Exit → St → Prop} {c : Code} {st : St} (id j : Nat) {cs : List D} (hb : st.ob[id]? = some (.box cs)) (hj : cs[j]? = some .nil)
    (h : AWp P nt c Q ⟨st.tm, st.ob.set id (.box (cs.set j (.p (.sl [])))), st.n0⟩) : AWp P nt c Q st := by
  rintro M H0 w0 w a ⟨H, loc, r⟩
  obtain ⟨hr, arr, e, h1, h2, h3, h4⟩ := r.sr.obj id _ hb
  refine h M H0 w0 w a ⟨H, loc, r.setOb (o' := .box (cs.set j (.p (.sl [])))) hb rfl hr (by simp [Ob.sameShape]) (fun _ _ => rfl) rfl rfl rfl rfl ?_⟩
  refine ⟨hr, arr, e, h1, h2, by simpa using h3, fun k d hk => ?_⟩
  have hturn := turns_set (loc := loc) hb (show (Ob.box cs).sameShape (.box (cs.set j (.p (.sl [])))) by simp [Ob.sameShape])
  rw [List.getElem?_set] at hk
  split at hk
  · rename_i e1
    subst e1
    split at hk
    · cases hk
      obtain ⟨v, a1, a2, a3⟩ := h4 j _ hj
      refine ⟨v, a1, a2, ?_⟩
      cases a3
      exact .p _ _ (.none _ _)
    · cases hk
  · obtain ⟨v, a1, a2, a3⟩ := h4 k d hk
    exact ⟨v, a1, a2, a3.turn (.refl H) hturn⟩
end Go.Ab

/- Ages that grow (roadkeep3's grown): a contract. -/
namespace Go.Proofs.Ytagphggcdmjlpaa.P
open Go.Ab Go.Proofs.Ytagphggcdmjlpaa.T

abbrev prow (s : Int × Int) : List PV := [.lit (.int .i64 s.1), .lit (.int .i64 s.2)]
abbrev pairs (l : List (Int × Int)) : D := .p (.sl (l.map prow))

/-- What grown answers. -/
def GrownR (r : D) : Prop := ∃ h old late roots, r = .tup [agesD h old late, words roots, bD true] ∧ GoodS h old late roots ∧ roots.length ≤ 8


set_option maxRecDepth 100000 in
theorem grownC (f : Nat) (l : List (List PV)) (sets : List (Int × Int)) (minors : List Int) (hl : ∀ x, x ∈ l → shapeOk Try.prog f 38 x) (hlen : l.length ≤ maxLen) (hsl : sets.length ≤ maxLen) (hml : minors.length ≤ maxLen) :
    ACalls Try.prog 37 [.p (.sl l), pairs sets, ints minors] [] (fun r obs' => GrownR r ∧ obs' = []) := by
  refine acallm_fnv [.cell 6 64, .tmp 7, .tmp 8] Try.func37 rfl rfl Try.ntmps37 (by simp) (by simp) fun R hR => ?_
  (refine awp_reg_seq [0, 1, 2, 6] fun K hK => ?_; (repeat' ((refine al_r rfl fun K' hK' => ?_); (repeat (simp only [go_sem, simprocAttr, List.length_map])); ((refine hK' _ _ ?_) <;> clear hK' K'))); all_goals (refine al_nil ?_; (simp only [go_sem, simprocAttr, List.length_map]); refine hK _ ?_; clear hK K))
  (refine awp_reg_seq [0, 1, 2, 6, 9] fun K hK => ?_; (repeat' ((refine al_r rfl fun K' hK' => ?_); (repeat (simp only [go_sem, simprocAttr, List.length_map])); ((refine hK' _ _ ?_) <;> clear hK' K'))); all_goals (refine al_nil ?_; (simp only [go_sem, simprocAttr, List.length_map]); refine hK _ ?_; clear hK K))
  refine awp_soft_box 1 0 rfl rfl ?_
  refine awp_soft_box 1 2 rfl rfl ?_
  simp only [go_sem, simprocAttr, List.length_map]
  (refine awp_reg_seq [0, 1, 2, 6, 9, 10] fun K hK => ?_; (repeat' ((refine al_r rfl fun K' hK' => ?_); (repeat (simp only [go_sem, simprocAttr, List.length_map])); ((refine hK' _ _ ?_) <;> clear hK' K'))); all_goals (refine al_nil ?_; (simp only [go_sem, simprocAttr, List.length_map]); refine hK _ ?_; clear hK K))
  refine awp_born 10 1 rfl ?_
  refine awp_seq_k fun K hK => ?_
  (refine awp_reg_seq [1, 2, 6, 9, 10, 19, 20, 21] fun K hK => ?_; (repeat' ((refine al_r rfl fun K' hK' => ?_); (repeat (simp only [go_sem, simprocAttr, List.length_map])); ((first | refine hK' _ _ ?_ | refine ⟨?_, hK' _ _ ?_⟩) <;> clear hK' K' <;> (first | (show alist _ _ _ _ _ _; skip) | (intro s hs; cases hs; done))))); all_goals (refine al_nil ?_; (simp only [go_sem, simprocAttr, List.length_map]); refine hK _ ?_; clear hK K))
  refine awp_block ?_
  -- loop 0 head [1, 2, 6, 9, 10, 19, 20, 21]
  refine awp_loop_cut (fun m s => ∃ (i : Nat) (h : List Int) (old : Int) (late roots : List Int), i ≤ l.length ∧ m = l.length - i ∧ i ≤ 8 ∧ roots.length ≤ i ∧ GoodS h old late roots ∧ s = ⟨ofL [(1, pairs sets), (2, ints minors), (6, .ptr 0 0 0), (9, .ptr 1 0 0), (10, .ref 2 0 roots.length), (19, .p (.sl l)), (20, iD l.length), (21, iD i)], [.box [.nil, iD 0, .nil], .box [words h, iD old, ints late], .row 1 (roots.map wrow)], 0⟩) ⟨_, 0, [], 0, [], [], Nat.zero_le _, rfl, Nat.zero_le _, Nat.le_refl _, goodS_nil, rfl⟩ ?_
  rintro m s ⟨i, h, old, late, roots, hi, hmi, hi8, hrl, hg, rfl⟩
  have htr0 : List.take roots.length (roots.map wrow) = roots.map wrow := List.take_of_length_le (by simp)

  (refine awp_reg_seq [1, 2, 6, 9, 10, 19, 20, 21, 22] fun K hK => ?_; (repeat' ((refine al_r rfl fun K' hK' => ?_); (repeat (simp only [go_sem, simprocAttr, List.length_map, htr0, List.drop_zero])); ((refine hK' _ _ ?_) <;> clear hK' K'))); all_goals (refine al_nil ?_; (simp only [go_sem, simprocAttr, List.length_map, htr0, List.drop_zero]); refine hK _ ?_; clear hK K))
  refine awp_seq_k fun K hK => ?_
  refine awp_if (decide ((i : Int) < (l.length : Int))) rfl (fun hc => ?_) (fun hc => ?_)
  · refine awp_skip ?_
    refine hK _ ?_; clear hK K
    refine awp_seq_k fun K hK => ?_
    refine awp_block ?_
    have hi2 : i < l.length := by simpa using hc
    obtain ⟨x, hget⟩ := get_of_lt hi2
    have hx := hl x (List.mem_of_getElem? hget)
    obtain ⟨k, n, text, args, _, rfl, _⟩ := sh38 hx
    obtain ⟨b, hfl⟩ := flatP f k n text args hx
    obtain ⟨g, old2, late2, w, e, hadd, hae⟩ := addS hg hx
    simp only [List.map_cons, List.map_nil] at hadd
    have hnn : (0 : Int) ≤ (i : Int) := Int.natCast_nonneg i
    have hnx : IntKind.i64.wrap ((i : Int) + 1) = ((i + 1 : Nat) : Int) := wrap_next hi2 hlen
    obtain ⟨X, hX⟩ : ∃ X, decide ((i : Int) ≥ 8) = X := ⟨_, rfl⟩

    (refine awp_reg_seq [1, 2, 6, 9, 10, 11, 12, 19, 20, 21] fun K hK => ?_; (repeat' ((first | refine al_r rfl fun K' hK' => ?_ | refine al_d rfl fun K' hK' => ?_); (repeat (first | (simp only [go_sem, simprocAttr, List.length_map, htr0, List.drop_zero, hget, hnn, hi2, hnx, hX, Int.toNat_natCast, List.getElem?_map, Option.map_some]) | refine AS.mk ?_)); ((first | refine hK' _ _ ?_ | refine ⟨?_, hK' _ _ ?_⟩) <;> clear hK' K' <;> (first | (show alist _ _ _ _ _ _; skip) | (simp; done))))); all_goals (refine al_nil ?_; (simp only [go_sem, simprocAttr, List.length_map, htr0, List.drop_zero, hget, hnn, hi2, hnx, hX, Int.toNat_natCast, List.getElem?_map, Option.map_some]); refine hK _ ?_; clear hK K))
    (refine awp_frz [1, 2, 6, 9, 10, 11, 12, 19, 20, 21] [0, 1, 2] (by decide) (by (simp; done)) ?_; simp only [go_sem, simprocAttr, List.length_map, htr0, List.drop_zero, hget, hnn, hi2, hnx, hX, Int.toNat_natCast, List.getElem?_map, Option.map_some])
    refine awp_seq_k fun K hK => ?_
    refine awp_reg_tov [1, 2, 6, 9, 10, 11, 12, 19, 20, 21, 32] [(32, bD (X || !b))] (h := ?_) (k := ?_)
    · cases X <;> cases b
      all_goals ((repeat' (first | ((first | refine al_r rfl fun K' hK' => ?_ | refine al_t rfl rfl fun K' hK' => ?_); (repeat (simp only [go_sem, simprocAttr, List.length_map, htr0, List.drop_zero, hget, hnn, hi2, hnx, hX, Int.toNat_natCast, List.getElem?_map, Option.map_some])); (first | ((refine hK' _ _ ?_) <;> clear hK' K') | ((show AC _ _ (D.fn 22 _) _ _); refine acall_p (f := 22) (e := rfl) (hr := rfl) (k := hK' _ _ ?_) (hc := Try.call22) (h := hfl); clear hK' K'))) | refine al_e rfl rfl ?_)); all_goals (refine al_nil ?_; (simp only [go_sem, simprocAttr, List.length_map, htr0, List.drop_zero, hget, hnn, hi2, hnx, hX, Int.toNat_natCast, List.getElem?_map, Option.map_some, *, Bool.and_true, Bool.and_false, Bool.true_and, Bool.false_and, Bool.or_true, Bool.true_or, Bool.or_false, Bool.false_or, Bool.not_true, Bool.not_false, Bool.false_eq_true]; done)))
    (intro K hK; (simp only [go_sem, simprocAttr, List.length_map, htr0, List.drop_zero, hget, hnn, hi2, hnx, hX, Int.toNat_natCast, List.getElem?_map, Option.map_some]); refine hK _ ?_; clear hK K)
    refine awp_if (X || !b) rfl (fun hc => ?_) (fun hc => ?_)
    · refine awp_exit ?_
      clear hK
      clear hK
      refine hK _ ?_; clear hK K
      (refine awp_reg_seq [6, 7, 8] fun K hK => ?_; (repeat' ((first | refine al_r rfl fun K' hK' => ?_ | refine al_d rfl fun K' hK' => ?_); (repeat (first | (simp only [go_sem, simprocAttr, List.length_map, htr0, List.drop_zero, hget, hnn, hi2, hnx, hX, Int.toNat_natCast, List.getElem?_map, Option.map_some]) | refine AS.mk ?_)); ((first | refine hK' _ _ ?_ | refine ⟨?_, hK' _ _ ?_⟩) <;> clear hK' K' <;> (first | (show alist _ _ _ _ _ _; skip) | (simp; done))))); all_goals (refine al_nil ?_; (simp only [go_sem, simprocAttr, List.length_map, htr0, List.drop_zero, hget, hnn, hi2, hnx, hX, Int.toNat_natCast, List.getElem?_map, Option.map_some]); refine hK _ ?_; clear hK K))
      (refine awp_frz [6, 7, 8] [] (by decide) (by (simp; done)) ?_; simp only [go_sem, simprocAttr, List.length_map, htr0, List.drop_zero, hget, hnn, hi2, hnx, hX, Int.toNat_natCast, List.getElem?_map, Option.map_some])
      refine awp_ret (hR _ _ (.inl rfl) rfl ⟨[], (.tup [agesD h old late, words roots, bD true]), by decide, by simp only [List.length_cons, List.length_nil]; decide, ?_, ?_⟩)
      · simp only [go_sem, simprocAttr, List.length_map, htr0, List.drop_zero, hget, hnn, hi2, hnx, hX, Int.toNat_natCast, List.getElem?_map, Option.map_some, htr0]
      · refine ⟨⟨h, old, late, roots, ?_, hg, by omega⟩, ?_⟩ <;> simp only [go_sem, simprocAttr, List.length_map, htr0, List.drop_zero, hget, hnn, hi2, hnx, hX, Int.toNat_natCast, List.getElem?_map, Option.map_some]
    · have hX8 : i < 8 := by
        rw [Bool.or_eq_false_iff] at hc
        rw [hc.1] at hX
        simp at hX
        omega
      refine awp_skip ?_
      refine hK _ ?_; clear hK K
      (refine awp_reg_seq [1, 2, 6, 9, 10, 11, 13, 14, 15, 19, 20, 21] fun K hK => ?_; (repeat' ((first | refine al_r rfl fun K' hK' => ?_ | refine al_d rfl fun K' hK' => ?_); (repeat (first | (simp only [go_sem, simprocAttr, List.length_map, htr0, List.drop_zero, hget, hnn, hi2, hnx, hX, Int.toNat_natCast, List.getElem?_map, Option.map_some]) | refine AS.mk ?_)); (first | ((first | refine hK' _ _ ?_ | refine ⟨?_, hK' _ _ ?_⟩) <;> clear hK' K' <;> (first | (show alist _ _ _ _ _ _; skip) | (simp; done))) | ((show AC _ _ (D.fn 71 _) _ _); refine acall_p (f := 71) (e := rfl) (hr := rfl) (k := hK' _ _ ?_) (hc := Try.call71) (h := hadd); clear hK' K')))); all_goals (refine al_nil ?_; (simp only [go_sem, simprocAttr, List.length_map, htr0, List.drop_zero, hget, hnn, hi2, hnx, hX, Int.toNat_natCast, List.getElem?_map, Option.map_some]); refine hK _ ?_; clear hK K))
      (refine awp_frz [1, 2, 6, 9, 10, 11, 13, 14, 15, 19, 20, 21] [0, 1, 2] (by decide) (by (simp; done)) ?_; simp only [go_sem, simprocAttr, List.length_map, htr0, List.drop_zero, hget, hnn, hi2, hnx, hX, Int.toNat_natCast, List.getElem?_map, Option.map_some])
      refine awp_seq_k fun K hK => ?_
      (refine awp_reg_seq [1, 2, 6, 9, 10, 11, 13, 14, 19, 20, 21, 41] fun K hK => ?_; (repeat' ((refine al_r rfl fun K' hK' => ?_); (repeat (simp only [go_sem, simprocAttr, List.length_map, htr0, List.drop_zero, hget, hnn, hi2, hnx, hX, Int.toNat_natCast, List.getElem?_map, Option.map_some])); ((refine hK' _ _ ?_) <;> clear hK' K'))); all_goals (refine al_nil ?_; (simp only [go_sem, simprocAttr, List.length_map, htr0, List.drop_zero, hget, hnn, hi2, hnx, hX, Int.toNat_natCast, List.getElem?_map, Option.map_some]); refine hK _ ?_; clear hK K))
      refine awp_if (e != 0) rfl (fun hc => ?_) (fun hc => ?_)
      · refine awp_exit ?_
        clear hK
        refine hK _ ?_; clear hK K
        (refine awp_reg_end [1, 2, 6, 9, 10, 19, 20, 21] fun K hK => ?_; (repeat' ((refine al_r rfl fun K' hK' => ?_); (repeat (simp only [go_sem, simprocAttr, List.length_map, htr0, List.drop_zero, hget, hnn, hi2, hnx, hX, Int.toNat_natCast, List.getElem?_map, Option.map_some])); ((refine hK' _ _ ?_) <;> clear hK' K'))); all_goals (refine al_nil ?_; (simp only [go_sem, simprocAttr, List.length_map, htr0, List.drop_zero, hget, hnn, hi2, hnx, hX, Int.toNat_natCast, List.getElem?_map, Option.map_some]); refine hK _ ?_; clear hK K))
        (first
          | exact ⟨l.length - (i + 1), by omega, [1, 2, 6, 9, 10, 19, 20, 21], [0, 1, 2], by decide, by intro q hq; exact absurd hq (Nat.not_lt_zero q), i + 1, _, _, _, _, hi2, rfl, by omega, by omega, hg4, rfl⟩
          | exact ⟨l.length - (i + 1), by omega, [1, 2, 6, 9, 10, 19, 20, 21], [0, 1, 2], by decide, by intro q hq; exact absurd hq (Nat.not_lt_zero q), i + 1, _, _, _, _, hi2, rfl, by omega, by omega, hg3, rfl⟩
          | exact ⟨l.length - (i + 1), by omega, [1, 2, 6, 9, 10, 19, 20, 21], [0, 1, 2], by decide, by intro q hq; exact absurd hq (Nat.not_lt_zero q), i + 1, _, _, _, _, hi2, rfl, by omega, by omega, hg, rfl⟩)
      · have he0 : e = 0 := by simpa using hc
        have hg2 := (hae.resolve_left fun h => h he0).2
        obtain ⟨rs, hrs⟩ : ∃ rs, rs = roots ++ [w] := ⟨_, rfl⟩
        have hrsl : rs.length = roots.length + 1 := by rw [hrs]; simp
        rw [← hrs] at hg2
        have hfit : (roots.length + 1) * 8 ≤ 140737488355328 := by omega
        have hmrs : roots.map wrow ++ [wrow w] = rs.map wrow := by rw [hrs]; simp
        have htr : List.take rs.length (rs.map wrow) = rs.map wrow := List.take_of_length_le (by simp)

        refine awp_skip ?_
        refine hK _ ?_; clear hK K
        refine awp_draw_seq (by kernel_rfl) [1, 2, 6, 9, 10, 11, 19, 20, 21] fun K hK => ?_
        ((refine ah_r 0 rfl (by kernel_rfl) rfl fun K' hK' => ?_); (simp only [go_sem, simprocAttr, List.length_map, htr0, htr, List.drop_zero, hnn, hi2, hnx, hfit, hmrs, ← hrsl, Int.toNat_natCast, List.getElem?_map, Option.map_some]); ((refine hK' _ ?_); clear hK' K'))
        ((refine ah_r 1 rfl (by kernel_rfl) rfl fun K' hK' => ?_); (simp only [go_sem, simprocAttr, List.length_map, htr0, htr, List.drop_zero, hnn, hi2, hnx, hfit, hmrs, ← hrsl, Int.toNat_natCast, List.getElem?_map, Option.map_some]); ((refine hK' _ ?_); clear hK' K'))
        ((refine ah_r 2 rfl (by kernel_rfl) rfl fun K' hK' => ?_); (simp only [go_sem, simprocAttr, List.length_map, htr0, htr, List.drop_zero, hnn, hi2, hnx, hfit, hmrs, ← hrsl, Int.toNat_natCast, List.getElem?_map, Option.map_some]); ((refine hK' _ ?_); clear hK' K'))
        (refine ah_one 3 rfl (by kernel_rfl) ?_; (repeat' ((refine al_r rfl fun K' hK' => ?_); (repeat (simp only [go_sem, simprocAttr, List.length_map, htr0, htr, List.drop_zero, hnn, hi2, hnx, hfit, hmrs, ← hrsl, Int.toNat_natCast, List.getElem?_map, Option.map_some])); ((refine hK' _ _ ?_) <;> clear hK' K'))); all_goals refine al_nil ?_)
        (refine ah_one 4 rfl (by kernel_rfl) ?_; (repeat' ((refine al_r rfl fun K' hK' => ?_); (repeat (first | (simp only [go_sem, simprocAttr, List.length_map, htr0, htr, List.drop_zero, hnn, hi2, hnx, hfit, hmrs, ← hrsl, Int.toNat_natCast, List.getElem?_map, Option.map_some]) | refine AAp.grow ?_)); ((refine ⟨?_, ?_, ?_, hK' _ _ ?_⟩) <;> clear hK' K' <;> (first | (show alist _ _ _ _ _ _; skip) | (simp; done) | omega)))); all_goals refine al_nil ?_)
        (refine ah_one 5 rfl (by kernel_rfl) ?_; (repeat' ((refine al_d rfl fun K' hK' => ?_); (repeat (first | (simp only [go_sem, simprocAttr, List.length_map, htr0, htr, List.drop_zero, hnn, hi2, hnx, hfit, hmrs, ← hrsl, Int.toNat_natCast, List.getElem?_map, Option.map_some]) | refine AS.mk ?_)); ((refine ⟨?_, hK' _ _ ?_⟩) <;> clear hK' K' <;> (first | (show alist _ _ _ _ _ _; skip) | (simp; done))))); all_goals refine al_nil ?_)
        ((refine ah_r 6 rfl (by kernel_rfl) rfl fun K' hK' => ?_); (simp only [go_sem, simprocAttr, List.length_map, htr0, htr, List.drop_zero, hnn, hi2, hnx, hfit, hmrs, ← hrsl, Int.toNat_natCast, List.getElem?_map, Option.map_some]); ((refine hK' _ ?_); clear hK' K'))
        (refine ah_done (by kernel_rfl) ?_; (simp only [go_sem, simprocAttr, List.length_map, htr0, htr, List.drop_zero, hnn, hi2, hnx, hfit, hmrs, ← hrsl, Int.toNat_natCast, List.getElem?_map, Option.map_some]); refine hK _ ?_; clear hK K)
        (refine awp_frz [1, 2, 6, 9, 10, 11, 19, 20, 21] [0, 1, 4] (by decide) (by (simp; done)) ?_; simp only [go_sem, simprocAttr, List.length_map, htr0, htr, List.drop_zero, hnn, hi2, hnx, hfit, hmrs, ← hrsl, Int.toNat_natCast, List.getElem?_map, Option.map_some])
        refine awp_seq_kc fun K hK hcut => ?_
        have key : ∀ (h3 : List Int) (old3 : Int) (late3 : List Int), GoodS h3 old3 late3 rs → K ⟨ofL [(1, pairs sets), (2, ints minors), (6, .ptr 0 0 0), (9, .ptr 1 0 0), (10, .ref 2 0 rs.length), (11, iD i), (19, .p (.sl l)), (20, iD l.length), (21, iD i)], [.box [.nil, iD 0, .nil], .box [words h3, iD old3, ints late3], .row 1 (rs.map wrow)], 0⟩ := by
          clear hcut
          intro h3 old3 late3 hg3
          obtain ⟨h4, out, hmin, hol, _, hg4⟩ := minorS hg3 (by omega)
          rw [← hol] at hmin
          have hne : ((out.length : Int) != (rs.length : Int)) = false := by rw [hol]; exact bne_self_eq_false _
          have hcon := contains minors hml (i : Int)

          refine hK _ ?_; clear hK K
          (refine awp_reg_seq [1, 2, 6, 9, 10, 19, 20, 21, 60] fun K hK => ?_; (repeat' ((refine al_r rfl fun K' hK' => ?_); (repeat (simp only [go_sem, simprocAttr, List.length_map, htr, List.drop_zero, hnn, hi2, hnx, hne, bne_self_eq_false, Int.toNat_natCast, List.getElem?_map, Option.map_some])); (first | ((refine hK' _ _ ?_) <;> clear hK' K') | ((show AC _ _ (D.fn 32 _) _ _); refine acall_p (f := 32) (e := rfl) (hr := rfl) (k := hK' _ _ ?_) (hc := Try.call32) (h := hcon); clear hK' K')))); all_goals (refine al_nil ?_; (simp only [go_sem, simprocAttr, List.length_map, htr, List.drop_zero, hnn, hi2, hnx, hne, bne_self_eq_false, Int.toNat_natCast, List.getElem?_map, Option.map_some]); refine hK _ ?_; clear hK K))
          refine awp_if (_) rfl (fun hc => ?_) (fun hc => ?_)
          · (refine awp_frz [1, 2, 6, 9, 10, 19, 20, 21] [0, 1] (by decide) (by (simp; done)) ?_; simp only [go_sem, simprocAttr, List.length_map, htr, List.drop_zero, hnn, hi2, hnx, hne, bne_self_eq_false, Int.toNat_natCast, List.getElem?_map, Option.map_some])
            (refine awp_reg_seq [1, 2, 6, 9, 10, 16, 17, 18, 19, 20, 21] fun K hK => ?_; (repeat' ((first | refine al_r rfl fun K' hK' => ?_ | refine al_d rfl fun K' hK' => ?_); (repeat (first | (simp only [go_sem, simprocAttr, List.length_map, htr, List.drop_zero, hnn, hi2, hnx, hne, bne_self_eq_false, Int.toNat_natCast, List.getElem?_map, Option.map_some]) | refine AS.mk ?_)); (first | ((first | refine hK' _ _ ?_ | refine ⟨?_, hK' _ _ ?_⟩) <;> clear hK' K' <;> (first | (show alist _ _ _ _ _ _; skip) | (simp; done))) | ((show AC _ _ (D.fn 38 _) _ _); refine acall_new (f := 38) Try.call38 hmin rfl ?_; rintro r obs' ⟨rfl, rfl⟩; (simp only [go_sem, simprocAttr, List.length_map, htr, List.drop_zero, hnn, hi2, hnx, hne, bne_self_eq_false, Int.toNat_natCast, List.getElem?_map, Option.map_some]); refine hK' _ _ ?_; clear hK' K')))); all_goals (refine al_nil ?_; (simp only [go_sem, simprocAttr, List.length_map, htr, List.drop_zero, hnn, hi2, hnx, hne, bne_self_eq_false, Int.toNat_natCast, List.getElem?_map, Option.map_some]); refine hK _ ?_; clear hK K))
            (refine awp_frz [1, 2, 6, 9, 10, 16, 17, 18, 19, 20, 21] [0, 1, 2] (by decide) (by (simp; done)) ?_; simp only [go_sem, simprocAttr, List.length_map, htr, List.drop_zero, hnn, hi2, hnx, hne, bne_self_eq_false, Int.toNat_natCast, List.getElem?_map, Option.map_some])
            refine awp_seq_k fun K hK => ?_
            (refine awp_reg_seq [1, 2, 6, 9, 16, 17, 19, 20, 21, 76] fun K hK => ?_; (repeat' ((first | refine al_r rfl fun K' hK' => ?_ | refine al_t rfl rfl fun K' hK' => ?_); (repeat (simp only [go_sem, simprocAttr, List.length_map, htr, List.drop_zero, hnn, hi2, hnx, hne, bne_self_eq_false, Int.toNat_natCast, List.getElem?_map, Option.map_some])); ((first | refine hK' _ _ ?_ | refine ⟨?_, hK' _ _ ?_⟩) <;> clear hK' K' <;> (first | (show alist _ _ _ _ _ _; skip) | (intro s hs; cases hs; done))))); all_goals (refine al_nil ?_; (simp only [go_sem, simprocAttr, List.length_map, htr, List.drop_zero, hnn, hi2, hnx, hne, bne_self_eq_false, Int.toNat_natCast, List.getElem?_map, Option.map_some]); refine hK _ ?_; clear hK K))
            refine awp_if (_) rfl (fun hc => ?_) (fun hc => ?_)
            · cases hc
            · refine awp_skip ?_
              refine hK _ ?_; clear hK K
              (refine awp_reg_end [1, 2, 6, 9, 10, 19, 20, 21] fun K hK => ?_; (repeat' ((first | refine al_r rfl fun K' hK' => ?_ | refine al_d rfl fun K' hK' => ?_); (repeat (first | (simp only [go_sem, simprocAttr, List.length_map, htr, List.drop_zero, hnn, hi2, hnx, hne, bne_self_eq_false, Int.toNat_natCast, List.getElem?_map, Option.map_some]) | refine AS.mk ?_)); ((first | refine hK' _ _ ?_ | refine ⟨?_, hK' _ _ ?_⟩) <;> clear hK' K' <;> (first | (show alist _ _ _ _ _ _; skip) | (simp; done))))); all_goals (refine al_nil ?_; (simp only [go_sem, simprocAttr, List.length_map, htr, List.drop_zero, hnn, hi2, hnx, hne, bne_self_eq_false, Int.toNat_natCast, List.getElem?_map, Option.map_some]); refine hK _ ?_; clear hK K))
              refine hK _ ?_; clear hK K
              (refine awp_reg_end [1, 2, 6, 9, 10, 19, 20, 21] fun K hK => ?_; (repeat' ((refine al_r rfl fun K' hK' => ?_); (repeat (simp only [go_sem, simprocAttr, List.length_map, htr, List.drop_zero, hnn, hi2, hnx, hne, bne_self_eq_false, Int.toNat_natCast, List.getElem?_map, Option.map_some])); ((refine hK' _ _ ?_) <;> clear hK' K'))); all_goals (refine al_nil ?_; (simp only [go_sem, simprocAttr, List.length_map, htr, List.drop_zero, hnn, hi2, hnx, hne, bne_self_eq_false, Int.toNat_natCast, List.getElem?_map, Option.map_some]); refine hK _ ?_; clear hK K))
              (first
                | exact ⟨l.length - (i + 1), by omega, [1, 2, 6, 9, 10, 19, 20, 21], [0, 1, 2], by decide, by intro q hq; exact absurd hq (Nat.not_lt_zero q), i + 1, _, _, _, _, hi2, rfl, by omega, by omega, hg4, rfl⟩
                | exact ⟨l.length - (i + 1), by omega, [1, 2, 6, 9, 10, 19, 20, 21], [0, 1, 2], by decide, by intro q hq; exact absurd hq (Nat.not_lt_zero q), i + 1, _, _, _, _, hi2, rfl, by omega, by omega, hg3, rfl⟩
                | exact ⟨l.length - (i + 1), by omega, [1, 2, 6, 9, 10, 19, 20, 21], [0, 1, 2], by decide, by intro q hq; exact absurd hq (Nat.not_lt_zero q), i + 1, _, _, _, _, hi2, rfl, by omega, by omega, hg, rfl⟩)
          · refine awp_skip ?_
            refine hK _ ?_; clear hK K
            (refine awp_reg_end [1, 2, 6, 9, 10, 19, 20, 21] fun K hK => ?_; (repeat' ((refine al_r rfl fun K' hK' => ?_); (repeat (simp only [go_sem, simprocAttr, List.length_map, htr, List.drop_zero, hnn, hi2, hnx, hne, bne_self_eq_false, Int.toNat_natCast, List.getElem?_map, Option.map_some])); ((refine hK' _ _ ?_) <;> clear hK' K'))); all_goals (refine al_nil ?_; (simp only [go_sem, simprocAttr, List.length_map, htr, List.drop_zero, hnn, hi2, hnx, hne, bne_self_eq_false, Int.toNat_natCast, List.getElem?_map, Option.map_some]); refine hK _ ?_; clear hK K))
            (first
              | exact ⟨l.length - (i + 1), by omega, [1, 2, 6, 9, 10, 19, 20, 21], [0, 1, 2], by decide, by intro q hq; exact absurd hq (Nat.not_lt_zero q), i + 1, _, _, _, _, hi2, rfl, by omega, by omega, hg4, rfl⟩
              | exact ⟨l.length - (i + 1), by omega, [1, 2, 6, 9, 10, 19, 20, 21], [0, 1, 2], by decide, by intro q hq; exact absurd hq (Nat.not_lt_zero q), i + 1, _, _, _, _, hi2, rfl, by omega, by omega, hg3, rfl⟩
              | exact ⟨l.length - (i + 1), by omega, [1, 2, 6, 9, 10, 19, 20, 21], [0, 1, 2], by decide, by intro q hq; exact absurd hq (Nat.not_lt_zero q), i + 1, _, _, _, _, hi2, rfl, by omega, by omega, hg, rfl⟩)

        (refine awp_reg_seq [1, 2, 6, 9, 10, 11, 19, 20, 21, 50] fun K hK => ?_; (repeat' ((refine al_r rfl fun K' hK' => ?_); (repeat (simp only [go_sem, simprocAttr, List.length_map, List.drop_zero])); ((first | refine hK' _ _ ?_ | refine ⟨?_, hK' _ _ ?_⟩) <;> clear hK' K' <;> (first | (show alist _ _ _ _ _ _; skip) | (intro s hs; cases hs; done))))); all_goals (refine al_nil ?_; (simp only [go_sem, simprocAttr, List.length_map, List.drop_zero]); refine hK _ ?_; clear hK K))
        refine awp_if (decide ((i : Int) < (sets.length : Int))) rfl (fun hc => ?_) (fun hc => ?_)
        · have hi3 : i < sets.length := by simpa using hc
          obtain ⟨s, hgs⟩ := get_of_lt hi3
          obtain ⟨h5, old5, late5, hset, hg5⟩ := setS hg2 (by omega) (by omega) s.1 s.2

          refine awp_draw (by kernel_rfl) [1, 2, 6, 9, 10, 11, 19, 20, 21] fun K hK => ?_
          ((refine ah_r 1 rfl (by kernel_rfl) rfl fun K' hK' => ?_); (simp only [go_sem, simprocAttr, List.length_map, htr0, htr, List.drop_zero, hnn, hi3, hgs, Int.toNat_natCast, List.getElem?_map, Option.map_some]); ((refine hK' _ ?_); clear hK' K'))
          ((refine ah_r 2 rfl (by kernel_rfl) rfl fun K' hK' => ?_); (simp only [go_sem, simprocAttr, List.length_map, htr0, htr, List.drop_zero, hnn, hi3, hgs, Int.toNat_natCast, List.getElem?_map, Option.map_some]); ((refine hK' _ ?_); clear hK' K'))
          ((refine ah_r 3 rfl (by kernel_rfl) rfl fun K' hK' => ?_); (simp only [go_sem, simprocAttr, List.length_map, htr0, htr, List.drop_zero, hnn, hi3, hgs, Int.toNat_natCast, List.getElem?_map, Option.map_some]); ((refine hK' _ ?_); clear hK' K'))
          ((refine ah_r 4 rfl (by kernel_rfl) rfl fun K' hK' => ?_); (simp only [go_sem, simprocAttr, List.length_map, htr0, htr, List.drop_zero, hnn, hi3, hgs, Int.toNat_natCast, List.getElem?_map, Option.map_some]); ((refine hK' _ ?_); clear hK' K'))
          ((refine ah_r 5 rfl (by kernel_rfl) rfl fun K' hK' => ?_); (simp only [go_sem, simprocAttr, List.length_map, htr0, htr, List.drop_zero, hnn, hi3, hgs, Int.toNat_natCast, List.getElem?_map, Option.map_some]); ((refine hK' _ ?_); clear hK' K'))
          (refine ah_one 0 rfl (by kernel_rfl) ?_; (repeat' ((refine al_r rfl fun K' hK' => ?_); (repeat (simp only [go_sem, simprocAttr, List.length_map, htr0, htr, List.drop_zero, hnn, hi3, hgs, Int.toNat_natCast, List.getElem?_map, Option.map_some])); ((refine hK' _ _ ?_) <;> clear hK' K'))); all_goals refine al_nil ?_)
          (refine ah_one 6 rfl (by kernel_rfl) ?_; (repeat' ((refine al_r rfl fun K' hK' => ?_); (repeat (simp only [go_sem, simprocAttr, List.length_map, htr0, htr, List.drop_zero, hnn, hi3, hgs, Int.toNat_natCast, List.getElem?_map, Option.map_some])); ((show AC _ _ (D.fn 72 _) _ _); refine acall_m (f := 72) [2] Try.call72 hset rfl rfl (by decide) (by simp) ?_; rintro r obs' ⟨rfl, rfl⟩; refine ⟨by simp, ?_⟩; (simp only [go_sem, simprocAttr, List.length_map, htr0, htr, List.drop_zero, hnn, hi3, hgs, Int.toNat_natCast, List.getElem?_map, Option.map_some]); refine hK' _ _ ?_; clear hK' K'))); all_goals refine al_nil ?_)
          (refine ah_one 7 rfl (by kernel_rfl) ?_; (repeat' ((refine al_d rfl fun K' hK' => ?_); (repeat (first | (simp only [go_sem, simprocAttr, List.length_map, htr0, htr, List.drop_zero, hnn, hi3, hgs, Int.toNat_natCast, List.getElem?_map, Option.map_some]) | refine AS.mk ?_)); ((refine ⟨?_, hK' _ _ ?_⟩) <;> clear hK' K' <;> (first | (show alist _ _ _ _ _ _; skip) | (simp; done))))); all_goals refine al_nil ?_)
          (refine ah_done (by kernel_rfl) ?_; (simp only [go_sem, simprocAttr, List.length_map, htr0, htr, List.drop_zero, hnn, hi3, hgs, Int.toNat_natCast, List.getElem?_map, Option.map_some]); refine hK _ ?_; clear hK K)
          (refine hcut _ [1, 2, 6, 9, 10, 11, 19, 20, 21] [0, 1, 2] (by decide) (by intro q hq; exact absurd hq (Nat.not_lt_zero q)) ?_; simp only [go_sem, simprocAttr, List.length_map, htr0, htr, List.drop_zero, hnn, hi3, hgs, Int.toNat_natCast, List.getElem?_map, Option.map_some]; (exact key _ _ _ hg5))

        · refine awp_skip ?_
          (refine hcut _ [1, 2, 6, 9, 10, 11, 19, 20, 21] [0, 1, 2] (by decide) (by intro q hq; exact absurd hq (Nat.not_lt_zero q)) ?_; simp only [go_sem, simprocAttr, List.length_map, List.drop_zero]; (exact key _ _ _ hg2))
  · refine awp_exit ?_
    clear hK
    refine hK _ ?_; clear hK K
    (refine awp_reg_seq [6, 7, 8] fun K hK => ?_; (repeat' ((first | refine al_r rfl fun K' hK' => ?_ | refine al_d rfl fun K' hK' => ?_); (repeat (first | (simp only [go_sem, simprocAttr, List.length_map, List.drop_zero]) | refine AS.mk ?_)); ((first | refine hK' _ _ ?_ | refine ⟨?_, hK' _ _ ?_⟩) <;> clear hK' K' <;> (first | (show alist _ _ _ _ _ _; skip) | (simp; done))))); all_goals (refine al_nil ?_; (simp only [go_sem, simprocAttr, List.length_map, List.drop_zero]); refine hK _ ?_; clear hK K))
    (refine awp_frz [6, 7, 8] [] (by decide) (by (simp; done)) ?_; simp only [go_sem, simprocAttr, List.length_map, List.drop_zero])
    refine awp_ret (hR _ _ (.inl rfl) rfl ⟨[], (.tup [agesD h old late, words roots, bD true]), by decide, by simp only [List.length_cons, List.length_nil]; decide, ?_, ?_⟩)
    · simp only [go_sem, simprocAttr, List.length_map, List.drop_zero, htr0]
    · refine ⟨⟨h, old, late, roots, ?_, hg, by omega⟩, ?_⟩ <;> simp only [go_sem, simprocAttr, List.length_map, List.drop_zero]
end Go.Proofs.Ytagphggcdmjlpaa.P

/- The reading of a word, whatever its parts answer: contracts. -/
namespace Go.Proofs.Ytagphggcdmjlpaa.P
open Go.Ab Go.Proofs.Ytagphggcdmjlpaa.T

/-- A value, so deep at most. -/
def Val : Nat → List PV → Prop
  | 0, _ => False
  | f + 1, xs => ∃ k n text args, xs = [.lit (.int .i64 k), .lit (.int .i64 n), .lit (.string text), .sl args] ∧ args.length ≤ 400 ∧ ∀ x, x ∈ args → Val f x

theorem Val.form {f : Nat} {xs : List PV} (h : Val f xs) : ∃ k n t a, xs = [.lit (.int .i64 k), .lit (.int .i64 n), .lit (.string t), .sl a] := by
  cases f with
  | zero => exact h.elim
  | succ f =>
    obtain ⟨k, n, text, args, e, _⟩ := h
    exact ⟨k, n, text, args, e⟩

abbrev zrow : List PV := [.lit (.int .i64 0), .lit (.int .i64 0), .lit (.string ByteArray.empty), .sl []]

/-- Parts that are read one behind the other: each answers a value, an error, and how many nodes are left. -/
def runC : List (Int → List PV × Int × Int) → Int → List (List PV) → List (List PV) × Int × Int
  | [], lf, acc => (acc, 0, lf)
  | c :: l, lf, acc => if (c lf).2.1 != 0 then ([], (c lf).2.1, (c lf).2.2) else runC l (c lf).2.2 (acc ++ [(c lf).1])

/-- What the reading of a word answers. -/
def ReadsTo (g : List Int) (w nest left : Int) (r : List PV × Int × Int) : Prop :=
  ACalls Try.prog 58 [words g, wD w, iD nest, .ptr 0 0 0] [.box [iD left]] (fun v obs' => v = .tup [.agg (r.1.map .p), iD r.2.1] ∧ obs' = [.box [iD r.2.2]])
def ResOk (f : Nat) (left : Int) (r : List PV × Int × Int) : Prop := Val f r.1 ∧ -1 ≤ r.2.2 ∧ r.2.2 ≤ left ∧ (r.2.1 = 0 → 0 ≤ r.2.2)

def nodeR (k num : Int) (text : ByteArray) (R : List (List PV) × Int × Int) : List PV × Int × Int :=
  if R.2.1 != 0 then (zrow, R.2.1, R.2.2) else ([.lit (.int .i64 k), .lit (.int .i64 num), .lit (.string text), .sl R.1], 0, R.2.2)


theorem readLarge (g : List Int) (w nest left : Int) (h0 : 0 ≤ left) (h4 : left ≤ 400) (hc0 : (decide (left - 1 < 0) || decide (nest < 1)) = true) : ReadsTo g w nest left (zrow, 2, left - 1) := by
  unfold ReadsTo
  have hwl : IntKind.i64.wrap (left - 1) = left - 1 := Go.Ab.wrap_small (by omega) (by omega)
  obtain ⟨A, hA⟩ : ∃ A, decide (left - 1 < 0) = A := ⟨_, rfl⟩
  obtain ⟨B, hB⟩ : ∃ B, decide (nest < 1) = B := ⟨_, rfl⟩
  rw [hA, hB] at hc0
  refine acallm_fnv [.cell 8 38, .tmp 9] Try.func58 rfl rfl Try.ntmps58 (by simp) (by simp) fun R hR => ?_
  (refine awp_reg_seq [0, 1, 2, 3, 8] fun K hK => ?_; (repeat' ((refine al_r rfl fun K' hK' => ?_); (repeat (simp only [go_sem, simprocAttr])); ((refine hK' _ _ ?_) <;> clear hK' K'))); all_goals (refine al_nil ?_; (simp only [go_sem, simprocAttr]); refine hK _ ?_; clear hK K))
  refine awp_seq_k fun K hK => ?_

  (refine awp_reg_seq [0, 1, 2, 3, 8] fun K hK => ?_; (repeat' ((first | refine al_r rfl fun K' hK' => ?_ | refine al_d rfl fun K' hK' => ?_); (repeat (first | (simp only [go_sem, simprocAttr, hwl, hA, hB]) | refine AS.mk ?_)); ((first | refine hK' _ _ ?_ | refine ⟨?_, hK' _ _ ?_⟩) <;> clear hK' K' <;> (first | (show alist _ _ _ _ _ _; skip) | (simp; done))))); all_goals (refine al_nil ?_; (simp only [go_sem, simprocAttr, hwl, hA, hB]); refine hK _ ?_; clear hK K))
  refine awp_reg_tov [0, 1, 2, 3, 8, 33] [(33, bD true)] (h := ?_) (k := ?_)
  · cases A <;> cases B <;> first | (cases hc0; done) | skip
    all_goals ((repeat' (first | ((first | refine al_r rfl fun K' hK' => ?_ | refine al_t rfl rfl fun K' hK' => ?_); (repeat (simp only [go_sem, simprocAttr, hwl, hA, hB])); ((refine hK' _ _ ?_) <;> clear hK' K')) | refine al_e rfl rfl ?_)); all_goals (refine al_nil ?_; (simp only [go_sem, simprocAttr, hwl, hA, hB, *, Bool.and_true, Bool.and_false, Bool.true_and, Bool.false_and, Bool.or_true, Bool.true_or, Bool.or_false, Bool.false_or, Bool.not_true, Bool.not_false, Bool.false_eq_true]; done)))
  (intro K hK; (simp only [go_sem, simprocAttr, hwl, hA, hB]); refine hK _ ?_; clear hK K)
  refine awp_if (_) rfl (fun hc => ?_) (fun hc => ?_)
  · (refine awp_reg_seq [8, 9] fun K hK => ?_; (repeat' ((first | refine al_r rfl fun K' hK' => ?_ | refine al_d rfl fun K' hK' => ?_); (repeat (first | (simp only [go_sem, simprocAttr, hwl, hA, hB]) | refine AS.mk ?_)); ((first | refine hK' _ _ ?_ | refine ⟨?_, hK' _ _ ?_⟩) <;> clear hK' K' <;> (first | (show alist _ _ _ _ _ _; skip) | (simp; done))))); all_goals (refine al_nil ?_; (simp only [go_sem, simprocAttr, hwl, hA, hB]); refine hK _ ?_; clear hK K))
    (refine awp_frz [8, 9] [0] (by decide) (by (simp; done)) ?_; simp only [go_sem, simprocAttr, hwl, hA, hB])
    refine awp_ret (hR _ _ (.inl rfl) rfl ⟨[0], (.tup [.agg (zrow.map .p), iD 2]), by decide, by simp only [List.length_cons, List.length_nil]; decide, ?_, ?_⟩)
    · simp only [go_sem, simprocAttr, hwl, hA, hB, List.map_cons, List.map_nil]
    · refine ⟨?_, ?_⟩ <;> simp only [go_sem, simprocAttr, hwl, hA, hB, List.map_cons, List.map_nil]
  · cases hc


set_option maxRecDepth 100000 in
theorem readNode (g : List Int) (f : Nat) (w a : Int) (o : Obj) (k nest left : Int) (cs : List (Int → List PV × Int × Int))
    (hva : ACallP Try.prog 81 [wD w] (.tup [.agg [iD 0, iD 0, .p (.lit (.string ByteArray.empty)), .p (.sl [])], bD false]))
    (hrd : ACallP Try.prog 62 [wD w] (.tup [iD 4, iD a, iD 0])) (hat : ACallP Try.prog 19 [words g, iD a] (.tup [objD o, iD 0])) (hki : ACallP Try.prog 82 [iD o.kind] (iD k))
    (hcl : cs.length = o.parts.length) (hal : o.parts.length ≤ 400)
    (hcs : ∀ (i : Nat) w1 c, o.parts[i]? = some w1 → cs[i]? = some c → ∀ lf, 0 ≤ lf → lf ≤ 400 → ReadsTo g w1 (nest - 1) lf (c lf) ∧ ResOk f lf (c lf))
    (hn : 1 ≤ nest) (hn2 : nest ≤ 1000) (hl1 : 1 ≤ left) (hl2 : left ≤ 400) :
    ReadsTo g w nest left (nodeR k o.num o.text (runC cs (left - 1) [])) := by
  obtain ⟨RC, hRC⟩ : ∃ RC, RC = runC cs (left - 1) [] := ⟨_, rfl⟩
  obtain ⟨V, hV⟩ : ∃ V, V = nodeR k o.num o.text RC := ⟨_, rfl⟩
  rw [← hRC, ← hV]
  unfold ReadsTo
  unfold nodeR at hV
  have hwl : IntKind.i64.wrap (left - 1) = left - 1 := Go.Ab.wrap_small (by omega) (by omega)
  have c1 : decide (left - 1 < 0) = false := by simp; omega
  have c2 : decide (nest < 1) = false := by simp; omega
  have hwn : IntKind.i64.wrap (nest - 1) = nest - 1 := Go.Ab.wrap_small (by omega) (by omega)
  refine acallm_fnv [.cell 8 38, .tmp 9] Try.func58 rfl rfl Try.ntmps58 (by simp) (by simp) fun R hR => ?_
  (refine awp_reg_seq [0, 1, 2, 3, 8] fun K hK => ?_; (repeat' ((refine al_r rfl fun K' hK' => ?_); (repeat (simp only [go_sem, simprocAttr])); ((refine hK' _ _ ?_) <;> clear hK' K'))); all_goals (refine al_nil ?_; (simp only [go_sem, simprocAttr]); refine hK _ ?_; clear hK K))
  refine awp_seq_k fun K hK => ?_

  (refine awp_reg_seq [0, 1, 2, 3, 8] fun K hK => ?_; (repeat' ((first | refine al_r rfl fun K' hK' => ?_ | refine al_d rfl fun K' hK' => ?_); (repeat (first | (simp only [go_sem, simprocAttr, hwl, c1, c2]) | refine AS.mk ?_)); ((first | refine hK' _ _ ?_ | refine ⟨?_, hK' _ _ ?_⟩) <;> clear hK' K' <;> (first | (show alist _ _ _ _ _ _; skip) | (simp; done))))); all_goals (refine al_nil ?_; (simp only [go_sem, simprocAttr, hwl, c1, c2]); refine hK _ ?_; clear hK K))
  (refine awp_reg_tov [0, 1, 2, 3, 8, 33] [(33, bD false)] (h := ?_) (k := ?_); · ((repeat' ((first | refine al_r rfl fun K' hK' => ?_ | refine al_t rfl rfl fun K' hK' => ?_); (repeat (simp only [go_sem, simprocAttr, hwl, c1, c2])); ((refine hK' _ _ ?_) <;> clear hK' K'))); all_goals (refine al_nil ?_; simp only [go_sem, simprocAttr, hwl, c1, c2, *, Bool.and_true, Bool.and_false, Bool.true_and, Bool.false_and, Bool.or_true, Bool.true_or, Bool.or_false, Bool.false_or, Bool.not_true, Bool.not_false, Bool.false_eq_true]))); intro K hK; (simp only [go_sem, simprocAttr, hwl, c1, c2]); refine hK _ ?_; clear hK K
  refine awp_if (_) rfl (fun hc => ?_) (fun hc => ?_)
  · cases hc
  · refine awp_skip ?_
    refine hK _ ?_; clear hK K
    refine awp_seq_k fun K hK => ?_
    (refine awp_reg_seq [0, 1, 2, 3, 8, 10, 11] fun K hK => ?_; (repeat' ((first | refine al_r rfl fun K' hK' => ?_ | refine al_d rfl fun K' hK' => ?_); (repeat (first | (simp only [go_sem, simprocAttr, hwl, c1, c2]) | refine AS.mk ?_)); (first | ((first | refine hK' _ _ ?_ | refine ⟨?_, hK' _ _ ?_⟩) <;> clear hK' K' <;> (first | (show alist _ _ _ _ _ _; skip) | (simp; done))) | ((show AC _ _ (D.fn 81 _) _ _); refine acall_p (f := 81) (e := rfl) (hr := rfl) (k := hK' _ _ ?_) (hc := Try.call81) (h := hva); clear hK' K')))); all_goals (refine al_nil ?_; (simp only [go_sem, simprocAttr, hwl, c1, c2]); refine hK _ ?_; clear hK K))
    (refine awp_frz [0, 1, 2, 3, 8, 10, 11] [0, 1] (by decide) (by (simp; done)) ?_; simp only [go_sem, simprocAttr, hwl, c1, c2])
    (refine awp_reg_seq [0, 1, 2, 3, 8, 10, 40] fun K hK => ?_; (repeat' ((refine al_r rfl fun K' hK' => ?_); (repeat (simp only [go_sem, simprocAttr, hwl, c1, c2])); ((refine hK' _ _ ?_) <;> clear hK' K'))); all_goals (refine al_nil ?_; (simp only [go_sem, simprocAttr, hwl, c1, c2]); refine hK _ ?_; clear hK K))
    refine awp_if (_) rfl (fun hc => ?_) (fun hc => ?_)
    · cases hc
    · refine awp_skip ?_
      refine hK _ ?_; clear hK K
      (refine awp_reg_seq [0, 2, 3, 8, 13, 14] fun K hK => ?_; (repeat' ((refine al_r rfl fun K' hK' => ?_); (repeat (simp only [go_sem, simprocAttr, hwl, c1, c2])); (first | ((refine hK' _ _ ?_) <;> clear hK' K') | ((show AC _ _ (D.fn 62 _) _ _); refine acall_p (f := 62) (e := rfl) (hr := rfl) (k := hK' _ _ ?_) (hc := Try.call62) (h := hrd); clear hK' K')))); all_goals (refine al_nil ?_; (simp only [go_sem, simprocAttr, hwl, c1, c2]); refine hK _ ?_; clear hK K))
      refine awp_seq_k fun K hK => ?_

      (refine awp_reg_seq [0, 2, 3, 8, 13, 14, 49] fun K hK => ?_; (repeat' ((refine al_r rfl fun K' hK' => ?_); (repeat (simp only [go_sem, simprocAttr, bne_self_eq_false])); ((refine hK' _ _ ?_) <;> clear hK' K'))); all_goals (refine al_nil ?_; (simp only [go_sem, simprocAttr, bne_self_eq_false]); refine hK _ ?_; clear hK K))
      refine awp_if (_) rfl (fun hc => ?_) (fun hc => ?_)
      · cases hc
      · refine awp_skip ?_
        refine hK _ ?_; clear hK K
        (refine awp_reg_seq [0, 2, 3, 8, 14, 15] fun K hK => ?_; (repeat' ((first | refine al_r rfl fun K' hK' => ?_ | refine al_d rfl fun K' hK' => ?_); (repeat (first | (simp only [go_sem, simprocAttr, bne_self_eq_false]) | refine AS.mk ?_)); (first | ((first | refine hK' _ _ ?_ | refine ⟨?_, hK' _ _ ?_⟩) <;> clear hK' K' <;> (first | (show alist _ _ _ _ _ _; skip) | (simp; done))) | ((show AC _ _ (D.fn 19 _) _ _); refine acall_p (f := 19) (e := rfl) (hr := rfl) (k := hK' _ _ ?_) (hc := Try.call19) (h := hat); clear hK' K')))); all_goals (refine al_nil ?_; (simp only [go_sem, simprocAttr, bne_self_eq_false]); refine hK _ ?_; clear hK K))
        (refine awp_frz [0, 2, 3, 8, 14, 15] [0, 1] (by decide) (by (simp; done)) ?_; simp only [go_sem, simprocAttr, bne_self_eq_false])
        refine awp_seq_k fun K hK => ?_
        (refine awp_reg_seq [0, 2, 3, 8, 14, 15, 59] fun K hK => ?_; (repeat' ((refine al_r rfl fun K' hK' => ?_); (repeat (simp only [go_sem, simprocAttr, bne_self_eq_false])); ((refine hK' _ _ ?_) <;> clear hK' K'))); all_goals (refine al_nil ?_; (simp only [go_sem, simprocAttr, bne_self_eq_false]); refine hK _ ?_; clear hK K))
        refine awp_if (_) rfl (fun hc => ?_) (fun hc => ?_)
        · cases hc
        · refine awp_skip ?_
          refine hK _ ?_; clear hK K

          refine awp_draw_seq (by kernel_rfl) [0, 2, 3, 8, 15, 16] fun K hK => ?_
          have key : K (⟨ofL [(0, words g), (2, iD nest), (3, .ptr 0 0 0), (8, .ptr 1 0 0), (15, .rd [.lit (.int .i64 o.at_), .lit (.int .i64 o.kind), .lit (.int .i64 o.num), .lit (.string o.text), .sl (o.parts.map wrow)] 0), (16, .ptr 2 0 0)], [.box [iD (left - 1)], .box [iD 0, iD 0, .p (.lit (.string ByteArray.empty)), .nil], .box [iD k, iD o.num, .p (.lit (.string o.text)), .nil]], 1⟩) := by
            refine hK _ ?_; clear hK K
            refine awp_born_box 2 3 4 rfl rfl ?_
            simp only [go_sem, simprocAttr, List.length_map]
            refine awp_seq_k fun K hK => ?_

            (refine awp_reg_seq [0, 2, 3, 8, 16, 71, 72, 73] fun K hK => ?_; (repeat' ((refine al_r rfl fun K' hK' => ?_); (repeat (simp only [go_sem, simprocAttr, List.length_map])); ((first | refine hK' _ _ ?_ | refine ⟨?_, hK' _ _ ?_⟩) <;> clear hK' K' <;> (first | (show alist _ _ _ _ _ _; skip) | (intro s hs; cases hs; done))))); all_goals (refine al_nil ?_; (simp only [go_sem, simprocAttr, List.length_map]); refine hK _ ?_; clear hK K))
            refine awp_block ?_
            -- loop 0 head [0, 2, 3, 8, 16, 71, 72, 73]
            refine awp_loop_cut (fun m s => ∃ (i : Nat) (lf : Int) (acc : List (List PV)), i ≤ o.parts.length ∧ m = o.parts.length - i ∧ acc.length = i ∧ 0 ≤ lf ∧ lf ≤ 400 ∧ RC = runC (cs.drop i) lf acc ∧ s = ⟨ofL [(0, words g), (2, iD nest), (3, .ptr 0 0 0), (8, .ptr 1 0 0), (16, .ptr 2 0 0), (71, words o.parts), (72, iD o.parts.length), (73, iD i)], [.box [iD lf], .box [iD 0, iD 0, .p (.lit (.string ByteArray.empty)), .nil], .box [iD k, iD o.num, .p (.lit (.string o.text)), .ref 3 0 acc.length], .row 4 acc], 1⟩) ⟨_, 0, left - 1, [], Nat.zero_le _, rfl, rfl, by omega, by omega, hRC, rfl⟩ ?_
            clear hRC
            rintro m s ⟨i, lf, acc, hi, hmi, hacc, hlf0, hlf4, hRC, rfl⟩
            (refine awp_reg_seq [0, 2, 3, 8, 16, 71, 72, 73, 74] fun K hK => ?_; (repeat' ((refine al_r rfl fun K' hK' => ?_); (repeat (simp only [go_sem, simprocAttr, List.length_map])); ((refine hK' _ _ ?_) <;> clear hK' K'))); all_goals (refine al_nil ?_; (simp only [go_sem, simprocAttr, List.length_map]); refine hK _ ?_; clear hK K))
            refine awp_seq_k fun K hK => ?_
            refine awp_if (decide ((i : Int) < (o.parts.length : Int))) rfl (fun hc => ?_) (fun hc => ?_)
            · refine awp_skip ?_
              refine hK _ ?_; clear hK K
              refine awp_seq_k fun K hK => ?_
              refine awp_block ?_
              have hi2 : i < o.parts.length := by simpa using hc
              obtain ⟨w1, hgw⟩ := get_of_lt hi2
              obtain ⟨c, hgc⟩ := get_of_lt (l := cs) (i := i) (by omega)
              have hgl := lt_of_get hgw
              have hnn : (0 : Int) ≤ (i : Int) := Int.natCast_nonneg i
              have hnx : IntKind.i64.wrap ((i : Int) + 1) = ((i + 1 : Nat) : Int) := by rw [Go.Ab.wrap_small (by omega) (by omega)]; rfl
              obtain ⟨hch, hr1, hr2, hr3, hr4⟩ := hcs i w1 c hgw hgc lf hlf0 hlf4
              unfold ReadsTo at hch
              have hR2 : RC = if (c lf).2.1 != 0 then ([], (c lf).2.1, (c lf).2.2) else runC (cs.drop (i + 1)) (c lf).2.2 (acc ++ [(c lf).1]) := by rw [hRC, drop_of hgc]; rfl
              clear hRC
              generalize c lf = r at hch hr1 hr2 hr3 hr4 hR2
              obtain ⟨x, e1, l2⟩ := r
              simp only at hch hr1 hr2 hr3 hr4 hR2
              obtain ⟨k', n', t', a', rfl⟩ := hr1.form
              simp only [List.map_cons, List.map_nil] at hch
              have hta : List.take acc.length acc = acc := List.take_length
              have hfi : (acc.length + 1) * 56 ≤ 140737488355328 := by omega

              (refine awp_reg_seq [0, 2, 3, 8, 16, 18, 71, 72, 73] fun K hK => ?_; (repeat' ((refine al_r rfl fun K' hK' => ?_); (repeat (simp only [go_sem, simprocAttr, hgw, hgl, hnn, hnx, hwn, hta, hfi, Int.toNat_natCast, List.getElem?_map, Option.map_some, List.length_map, List.drop_zero])); ((refine hK' _ _ ?_) <;> clear hK' K'))); all_goals (refine al_nil ?_; (simp only [go_sem, simprocAttr, hgw, hgl, hnn, hnx, hwn, hta, hfi, Int.toNat_natCast, List.getElem?_map, Option.map_some, List.length_map, List.drop_zero]); refine hK _ ?_; clear hK K))
              (refine awp_reg_seq [0, 2, 3, 8, 16, 19, 20, 71, 72, 73] fun K hK => ?_; (repeat' ((first | refine al_r rfl fun K' hK' => ?_ | refine al_d rfl fun K' hK' => ?_); (repeat (first | (simp only [go_sem, simprocAttr, hgw, hgl, hnn, hnx, hwn, hta, hfi, Int.toNat_natCast, List.getElem?_map, Option.map_some, List.length_map, List.drop_zero]) | refine AS.mk ?_)); (first | ((first | refine hK' _ _ ?_ | refine ⟨?_, hK' _ _ ?_⟩) <;> clear hK' K' <;> (first | (show alist _ _ _ _ _ _; skip) | (simp; done))) | ((show AC _ _ (D.fn 58 _) _ _); refine acall_m (f := 58) [0] Try.call58 hch rfl rfl (by decide) (by simp) ?_; rintro r obs' ⟨rfl, rfl⟩; refine ⟨by simp, ?_⟩; (simp only [go_sem, simprocAttr, hgw, hgl, hnn, hnx, hwn, hta, hfi, Int.toNat_natCast, List.getElem?_map, Option.map_some, List.length_map, List.drop_zero]); refine hK' _ _ ?_; clear hK' K')))); all_goals (refine al_nil ?_; (simp only [go_sem, simprocAttr, hgw, hgl, hnn, hnx, hwn, hta, hfi, Int.toNat_natCast, List.getElem?_map, Option.map_some, List.length_map, List.drop_zero]); refine hK _ ?_; clear hK K))
              (refine awp_frz [0, 2, 3, 8, 16, 19, 20, 71, 72, 73] [0, 1, 2, 3] (by decide) (by (simp; done)) ?_; simp only [go_sem, simprocAttr, hgw, hgl, hnn, hnx, hwn, hta, hfi, Int.toNat_natCast, List.getElem?_map, Option.map_some, List.length_map, List.drop_zero])
              refine awp_seq_k fun K hK => ?_

              (refine awp_reg_seq [0, 2, 3, 8, 16, 19, 20, 71, 72, 73, 87] fun K hK => ?_; (repeat' ((refine al_r rfl fun K' hK' => ?_); (repeat (simp only [go_sem, simprocAttr, hta, hfi, hnx, List.drop_zero])); ((refine hK' _ _ ?_) <;> clear hK' K'))); all_goals (refine al_nil ?_; (simp only [go_sem, simprocAttr, hta, hfi, hnx, List.drop_zero]); refine hK _ ?_; clear hK K))
              refine awp_if (e1 != 0) rfl (fun hc => ?_) (fun hc => ?_)
              · (refine awp_reg_seq [8, 9] fun K hK => ?_; (repeat' ((first | refine al_r rfl fun K' hK' => ?_ | refine al_d rfl fun K' hK' => ?_); (repeat (first | (simp only [go_sem, simprocAttr, hta, hfi, hnx, List.drop_zero]) | refine AS.mk ?_)); ((first | refine hK' _ _ ?_ | refine ⟨?_, hK' _ _ ?_⟩) <;> clear hK' K' <;> (first | (show alist _ _ _ _ _ _; skip) | (simp; done))))); all_goals (refine al_nil ?_; (simp only [go_sem, simprocAttr, hta, hfi, hnx, List.drop_zero]); refine hK _ ?_; clear hK K))
                rw [if_pos hc] at hR2
                have hV3 : V = (zrow, e1, l2) := by rw [hV, hR2, if_pos hc]
                (refine awp_frz [8, 9] [0] (by decide) (by (simp; done)) ?_; simp only [go_sem, simprocAttr, hta, hfi, hnx, List.drop_zero])
                refine awp_ret (hR _ _ (.inl rfl) rfl ⟨[0], (.tup [.agg (V.1.map .p), iD V.2.1]), by decide, by simp only [List.length_cons, List.length_nil]; decide, ?_, ?_⟩)
                · simp only [go_sem, simprocAttr, hta, hfi, hnx, List.drop_zero, hV3, List.map_cons, List.map_nil]
                · refine ⟨?_, ?_⟩ <;> simp only [go_sem, simprocAttr, hta, hfi, hnx, List.drop_zero, hV3, List.map_cons, List.map_nil]
              · have he0 : e1 = 0 := by simpa using hc
                rw [if_neg (by rw [hc]; exact Bool.false_ne_true)] at hR2
                refine awp_skip ?_
                refine hK _ ?_; clear hK K
                (refine awp_reg_end [0, 2, 3, 8, 16, 71, 72, 73] fun K hK => ?_; (repeat' ((first | refine al_r rfl fun K' hK' => ?_ | refine al_d rfl fun K' hK' => ?_); (repeat (first | (simp only [go_sem, simprocAttr, hta, hfi, hnx, List.drop_zero]) | refine AS.mk ?_ | refine AAp.grow ?_)); ((first | refine hK' _ _ ?_ | refine ⟨?_, hK' _ _ ?_⟩ | refine ⟨?_, ?_, hK' _ _ ?_⟩) <;> clear hK' K' <;> (first | (show alist _ _ _ _ _ _; skip) | (simp; done))))); all_goals (refine al_nil ?_; (simp only [go_sem, simprocAttr, hta, hfi, hnx, List.drop_zero]); refine hK _ ?_; clear hK K))
                refine hK _ ?_; clear hK K
                (refine awp_reg_end [0, 2, 3, 8, 16, 71, 72, 73] fun K hK => ?_; (repeat' ((refine al_r rfl fun K' hK' => ?_); (repeat (simp only [go_sem, simprocAttr, hta, hfi, hnx, List.drop_zero])); ((refine hK' _ _ ?_) <;> clear hK' K'))); all_goals (refine al_nil ?_; (simp only [go_sem, simprocAttr, hta, hfi, hnx, List.drop_zero]); refine hK _ ?_; clear hK K))
                refine ⟨o.parts.length - (i + 1), by omega, [0, 2, 3, 8, 16, 71, 72, 73], [0, 1, 2, 5], by decide, (fun q hq => by have : q = 0 := Nat.lt_one_iff.1 hq; subst this; rfl), i + 1, l2, acc ++ [[.lit (.int .i64 k'), .lit (.int .i64 n'), .lit (.string t'), .sl a']], hi2, rfl, by simp [hacc], hr4 he0, by omega, hR2, ?_⟩
                simp only [go_sem, simprocAttr, hta, hfi, hnx, List.drop_zero, List.length_append, List.length_cons, List.length_nil]

            · have hie : i = o.parts.length := by simp at hc; omega
              rw [hie, ← hcl, List.drop_length] at hRC
              have hR2 : RC = (acc, 0, lf) := hRC
              have hV3 : V = ([.lit (.int .i64 k), .lit (.int .i64 o.num), .lit (.string o.text), .sl acc], 0, lf) := by rw [hV, hR2]; rfl
              have hta : List.take acc.length acc = acc := List.take_length
              refine awp_exit ?_
              clear hK
              refine hK _ ?_; clear hK K
              (refine awp_reg_seq [8, 9] fun K hK => ?_; (repeat' ((first | refine al_r rfl fun K' hK' => ?_ | refine al_d rfl fun K' hK' => ?_); (repeat (first | (simp only [go_sem, simprocAttr, List.length_map]) | refine AS.mk ?_)); ((first | refine hK' _ _ ?_ | refine ⟨?_, hK' _ _ ?_⟩) <;> clear hK' K' <;> (first | (show alist _ _ _ _ _ _; skip) | (simp; done))))); all_goals (refine al_nil ?_; (simp only [go_sem, simprocAttr, List.length_map]); refine hK _ ?_; clear hK K))
              (refine awp_frz [8, 9] [0] (by decide) (by (simp; done)) ?_; simp only [go_sem, simprocAttr, List.length_map])
              refine awp_ret (hR _ _ (.inl rfl) rfl ⟨[0], (.tup [.agg (V.1.map .p), iD V.2.1]), by decide, by simp only [List.length_cons, List.length_nil]; decide, ?_, ?_⟩)
              · simp only [go_sem, simprocAttr, List.length_map, hV3, hta, List.map_cons, List.map_nil]
              · refine ⟨?_, ?_⟩ <;> simp only [go_sem, simprocAttr, List.length_map, hV3, List.map_cons, List.map_nil]
          ((refine ah_r 0 rfl (by kernel_rfl) rfl fun K' hK' => ?_); (simp only [go_sem, simprocAttr, List.length_map]); ((refine hK' _ ?_); clear hK' K'))
          ((refine ah_r 1 rfl (by kernel_rfl) rfl fun K' hK' => ?_); (simp only [go_sem, simprocAttr, List.length_map]); ((refine hK' _ ?_); clear hK' K'))
          ((refine ah_r 3 rfl (by kernel_rfl) rfl fun K' hK' => ?_); (simp only [go_sem, simprocAttr, List.length_map]); ((refine hK' _ ?_); clear hK' K'))
          ((refine ah_r 4 rfl (by kernel_rfl) rfl fun K' hK' => ?_); (simp only [go_sem, simprocAttr, List.length_map]); ((refine hK' _ ?_); clear hK' K'))
          ((refine ah_r 5 rfl (by kernel_rfl) rfl fun K' hK' => ?_); (simp only [go_sem, simprocAttr, List.length_map]); ((refine hK' _ ?_); clear hK' K'))
          ((refine ah_r 6 rfl (by kernel_rfl) rfl fun K' hK' => ?_); (simp only [go_sem, simprocAttr, List.length_map]); ((refine hK' _ ?_); clear hK' K'))
          refine ah_two 2 8 rfl rfl (by kernel_rfl) ?_ ?_
          · ((repeat' ((refine al_r rfl fun K' hK' => ?_); (repeat (simp only [go_sem, simprocAttr, List.length_map])); ((show AC _ _ (D.fn 82 _) _ _); refine acall_p (f := 82) (e := rfl) (hr := rfl) (k := hK' _ _ ?_) (hc := Try.call82) (h := hki); clear hK' K'))); all_goals refine al_nil ?_)
            refine ah_two 7 8 rfl rfl (by kernel_rfl) ?_ ?_
            · ((repeat' ((refine al_r rfl fun K' hK' => ?_); (repeat (simp only [go_sem, simprocAttr, List.length_map])); ((refine hK' _ _ ?_) <;> clear hK' K'))); all_goals refine al_nil ?_)
              (refine ah_one 8 rfl (by kernel_rfl) ?_; (repeat' ((refine al_r rfl fun K' hK' => ?_); (repeat (simp only [go_sem, simprocAttr, List.length_map])); ((refine hK' _ _ ?_) <;> clear hK' K'))); all_goals refine al_nil ?_)
              (refine ah_one 9 rfl (by kernel_rfl) ?_; (repeat' ((refine al_d rfl fun K' hK' => ?_); (repeat (first | (simp only [go_sem, simprocAttr, List.length_map]) | refine AS.mk ?_)); ((refine ⟨?_, hK' _ _ ?_⟩) <;> clear hK' K' <;> (first | (show alist _ _ _ _ _ _; skip) | (simp; done))))); all_goals refine al_nil ?_)
              (refine ah_done (by kernel_rfl) ?_; (simp only [go_sem, simprocAttr, List.length_map]); exact key)
            · ((repeat' ((refine al_r rfl fun K' hK' => ?_); (repeat (simp only [go_sem, simprocAttr, List.length_map])); ((refine hK' _ _ ?_) <;> clear hK' K'))); all_goals refine al_nil ?_)
              (refine ah_one 7 rfl (by kernel_rfl) ?_; (repeat' ((refine al_r rfl fun K' hK' => ?_); (repeat (simp only [go_sem, simprocAttr, List.length_map])); ((refine hK' _ _ ?_) <;> clear hK' K'))); all_goals refine al_nil ?_)
              (refine ah_one 9 rfl (by kernel_rfl) ?_; (repeat' ((refine al_d rfl fun K' hK' => ?_); (repeat (first | (simp only [go_sem, simprocAttr, List.length_map]) | refine AS.mk ?_)); ((refine ⟨?_, hK' _ _ ?_⟩) <;> clear hK' K' <;> (first | (show alist _ _ _ _ _ _; skip) | (simp; done))))); all_goals refine al_nil ?_)
              (refine ah_done (by kernel_rfl) ?_; (simp only [go_sem, simprocAttr, List.length_map]); exact key)
          · ((repeat' ((refine al_r rfl fun K' hK' => ?_); (repeat (simp only [go_sem, simprocAttr, List.length_map])); ((refine hK' _ _ ?_) <;> clear hK' K'))); all_goals refine al_nil ?_)
            (refine ah_one 2 rfl (by kernel_rfl) ?_; (repeat' ((refine al_r rfl fun K' hK' => ?_); (repeat (simp only [go_sem, simprocAttr, List.length_map])); ((show AC _ _ (D.fn 82 _) _ _); refine acall_p (f := 82) (e := rfl) (hr := rfl) (k := hK' _ _ ?_) (hc := Try.call82) (h := hki); clear hK' K'))); all_goals refine al_nil ?_)
            (refine ah_one 7 rfl (by kernel_rfl) ?_; (repeat' ((refine al_r rfl fun K' hK' => ?_); (repeat (simp only [go_sem, simprocAttr, List.length_map])); ((refine hK' _ _ ?_) <;> clear hK' K'))); all_goals refine al_nil ?_)
            (refine ah_one 9 rfl (by kernel_rfl) ?_; (repeat' ((refine al_d rfl fun K' hK' => ?_); (repeat (first | (simp only [go_sem, simprocAttr, List.length_map]) | refine AS.mk ?_)); ((refine ⟨?_, hK' _ _ ?_⟩) <;> clear hK' K' <;> (first | (show alist _ _ _ _ _ _; skip) | (simp; done))))); all_goals refine al_nil ?_)
            (refine ah_done (by kernel_rfl) ?_; (simp only [go_sem, simprocAttr, List.length_map]); exact key)
end Go.Proofs.Ytagphggcdmjlpaa.P

/- What is read of the new heap is what is read of the old one. -/
namespace Go.Proofs.Ytagphggcdmjlpaa.P
open Go.Ab Go.Proofs.Ytagphggcdmjlpaa.T

theorem runC_ok {f : Nat} : ∀ (cs : List (Int → List PV × Int × Int)) (lf : Int) (acc : List (List PV)), (∀ c, c ∈ cs → ∀ lf, 0 ≤ lf → lf ≤ 400 → ResOk f lf (c lf)) → (∀ x, x ∈ acc → Val f x) → 0 ≤ lf → lf ≤ 400 →
    -1 ≤ (runC cs lf acc).2.2 ∧ (runC cs lf acc).2.2 ≤ lf ∧ ((runC cs lf acc).2.1 = 0 → 0 ≤ (runC cs lf acc).2.2 ∧ (runC cs lf acc).1.length = acc.length + cs.length ∧ ∀ x, x ∈ (runC cs lf acc).1 → Val f x)
  | [], lf, acc, _, ha, h0, _ => ⟨by show -1 ≤ lf; omega, Int.le_refl _, fun _ => ⟨h0, by simp [runC], ha⟩⟩
  | c :: cs, lf, acc, hc, ha, h0, h4 => by
    obtain ⟨r1, r2, r3, r4⟩ := hc c List.mem_cons_self lf h0 h4
    have e : runC (c :: cs) lf acc = if (c lf).2.1 != 0 then ([], (c lf).2.1, (c lf).2.2) else runC cs (c lf).2.2 (acc ++ [(c lf).1]) := rfl
    rw [e]
    by_cases hz : (c lf).2.1 = 0
    · rw [if_neg (by simp [hz])]
      obtain ⟨q1, q2, q3⟩ := runC_ok cs (c lf).2.2 (acc ++ [(c lf).1]) (fun d hd => hc d (List.mem_cons_of_mem _ hd)) (fun x hx => by
        rcases List.mem_append.1 hx with hx | hx
        · exact ha x hx
        · rcases List.mem_singleton.1 hx with rfl; exact r1) (r4 hz) (by omega)
      refine ⟨q1, by omega, fun h => ?_⟩
      obtain ⟨a, b, c⟩ := q3 h
      exact ⟨a, by rw [b, List.length_append, List.length_cons, List.length_cons, List.length_nil]; omega, c⟩
    · rw [if_pos (by simpa using hz)]
      exact ⟨r2, r3, fun h => absurd h hz⟩

theorem zval {f : Nat} : Val (f + 1) zrow := ⟨0, 0, ByteArray.empty, [], rfl, by simp, fun x hx => by cases hx⟩

theorem node_ok {f : Nat} {k num left : Int} {text : ByteArray} {cs : List (Int → List PV × Int × Int)} (hc : ∀ c, c ∈ cs → ∀ lf, 0 ≤ lf → lf ≤ 400 → ResOk f lf (c lf)) (hl1 : 1 ≤ left) (hl2 : left ≤ 400) (hn : cs.length ≤ 400) :
    ResOk (f + 1) left (nodeR k num text (runC cs (left - 1) [])) := by
  obtain ⟨q1, q2, q3⟩ := runC_ok cs (left - 1) [] hc (fun x hx => by cases hx) (by omega) (by omega)
  generalize runC cs (left - 1) [] = R at *
  obtain ⟨a, e, lf⟩ := R
  simp only at q1 q2 q3
  unfold nodeR
  by_cases he : e = 0
  · rw [if_neg (by simp [he])]
    obtain ⟨b1, b2, b3⟩ := q3 he
    exact ⟨⟨k, num, text, a, rfl, by simp at b2; omega, b3⟩, by simp only; omega, by simp only; omega, fun _ => b1⟩
  · rw [if_pos (by simpa using he)]
    exact ⟨zval, q1, by simp only; omega, fun h => absurd h he⟩

theorem copied_at2 {L T : List Obj} {low : Int} {Rch : Int → Prop} {mv : List (Int × Int)} (hc : Copied L low Rch T mv) (h4 : (flat L).length ≤ 4000) {w t : Int} (ht : toY low w = true) (e : lk mv (placeS w).1 = some t) : placeS (phi low mv w) = (t, true, 0) := by
  obtain ⟨_, _, x, hx, hxa⟩ := hc.dst _ _ e
  obtain ⟨n, en, hnl⟩ := placed_len hc.placed hx
  have hsz := hc.size
  have htn : t = (n : Int) := by omega
  rw [phi_some ht e, htn]
  exact place_word (by omega)

/-- A word, and what it is turned to: both name objects that are alike. -/
theorem copied_word {L T : List Obj} {low : Int} {Rch : Int → Prop} {mv : List (Int × Int)} {w : Int} (hL : Placed L) (hc : Copied L low Rch T mv) (h4 : (flat L).length ≤ 4000) (h0 : 0 ≤ low) (hn : NameOk L w) (hk : Known low mv w) (hi : (placeS w).2.1 = true) :
    ∃ o x, o ∈ L ∧ x ∈ T ∧ o.at_ = (placeS w).1 ∧ x.at_ = (placeS (phi low mv w)).1 ∧ (placeS (phi low mv w)).2.1 = true ∧ x.kind = o.kind ∧ x.num = o.num ∧ x.text = o.text ∧ x.parts = o.parts.map (phi low mv) ∧ ∀ p, p ∈ o.parts → Known low mv p := by
  obtain ⟨o, ho, hoa⟩ := hn.2 hi
  cases ht : toY low w with
  | false =>
    have hlt : (placeS w).1 < low := by
      unfold toY at ht
      rw [hi, Bool.true_and, decide_eq_false_iff_not] at ht
      omega
    obtain ⟨x, hx, hxa⟩ := hc.kept o ho (by omega)
    obtain ⟨o2, ho2, hlo, _, h1, h2, h3, h4, hkn⟩ := hc.src x hx
    have := placed_inj hL ho2 ho (by rw [hlo (by omega), hxa])
    subst this
    rw [phi_not ht]
    exact ⟨o2, x, ho2, hx, hoa, by rw [hxa, hoa], hi, h1, h2, h3, h4, hkn⟩
  | true =>
    obtain ⟨t, e⟩ := hk ht
    have hp := copied_at2 hc h4 ht e
    obtain ⟨_, hlt, x, hx, hxa⟩ := hc.dst _ _ e
    obtain ⟨o2, ho2, _, hhi, h1, h2, h3, h4, hkn⟩ := hc.src x hx
    have e2 := (hhi (by omega)).2
    rw [hxa] at e2
    have := placed_inj hL ho2 ho (by rw [hc.inj _ _ _ e2 e, hoa])
    subst this
    rw [hp]
    exact ⟨o2, x, ho2, hx, hoa, hxa, rfl, h1, h2, h3, h4, hkn⟩

/-- A word that names an object is read. -/
theorem read_obj {L : List Obj} {o : Obj} {w left : Int} {n f : Nat} {cs : List (Int → List PV × Int × Int)} (hL : Placed L) (h4 : (flat L).length ≤ 4000) (ho : o ∈ L) (hoa : o.at_ = (placeS w).1) (hi : (placeS w).2.1 = true)
    (hcl : cs.length = o.parts.length) (hcs : ∀ (i : Nat) w1 c, o.parts[i]? = some w1 → cs[i]? = some c → ∀ lf, 0 ≤ lf → lf ≤ 400 → ReadsTo (flat L) w1 n lf (c lf) ∧ ResOk f lf (c lf)) (hn : n ≤ 500) (hl1 : 1 ≤ left) (hl2 : left ≤ 400) :
    ReadsTo (flat L) w ((n + 1 : Nat) : Int) left (nodeR (kindsS o.kind) o.num o.text (runC cs (left - 1) [])) := by
  have hrd := readW w
  have hva := valueW w
  unfold placeS at hi hoa
  rw [Bool.and_eq_true, beq_iff_eq, beq_iff_eq] at hi
  have e1 : valueS w = (0, 0, false) := by unfold valueS; rw [if_pos (by simp [hi.2])]
  rw [e1] at hva
  rw [hi.1, hi.2] at hrd
  have hat := at_ (flat L) (readS w).2.1 (by simp only [maxLen]; omega) (placed_ok hL)
  have e2 := at_placed hL ho
  rw [hoa] at e2
  rw [e2] at hat
  have hok := hL.2 o ho
  obtain ⟨kk, hk, hk1, hk5⟩ := right_kind hok.1
  have hki := kinds o.kind (by omega) (by omega)
  have hpl := (right_small hok.1).2
  refine readNode (flat L) f w _ o _ _ left cs hva hrd hat hki hcl (by omega) (fun i w1 c h1 h2 lf h3 h5 => ?_) (by omega) (by omega) hl1 hl2
  rw [show ((n + 1 : Nat) : Int) - 1 = (n : Int) by omega]
  exact hcs i w1 c h1 h2 lf h3 h5

/-- What is read of a word: a value, an error, and how many nodes are left. -/
def readF (g : List Int) : Nat → Int → Int → List PV × Int × Int
  | 0, _, left => (zrow, 2, left - 1)
  | n + 1, w, left => if left = 0 then (zrow, 2, -1) else
    if (placeS w).2.1 then nodeR (kindsS (atS g (placeS w).1).1.kind) (atS g (placeS w).1).1.num (atS g (placeS w).1).1.text (runC ((atS g (placeS w).1).1.parts.map (readF g n)) (left - 1) [])
    else ([.lit (.int .i64 (valueS w).1), .lit (.int .i64 (valueS w).2.1), .lit (.string ByteArray.empty), .sl []], 0, left - 1)

theorem read_ok {L : List Obj} (hL : Placed L) (h4 : (flat L).length ≤ 4000) (hn : ∀ o, o ∈ L → ∀ p, p ∈ o.parts → NameOk L p) :
    ∀ (n : Nat), n ≤ 500 → ∀ w, NameOk L w → ∀ left, 0 ≤ left → left ≤ 400 → ReadsTo (flat L) w n left (readF (flat L) n w left) ∧ ResOk (n + 1) left (readF (flat L) n w left) := by
  intro n
  induction n with
  | zero =>
    intro _ w _ left hl0 hl4
    exact ⟨readLarge _ _ _ _ hl0 hl4 (by simp), zval, by show -1 ≤ left - 1; omega, by show left - 1 ≤ left; omega, fun h => by cases h⟩
  | succ n ih =>
    intro hn5 w hw left hl0 hl4
    unfold readF
    by_cases hl : left = 0
    · subst hl
      rw [if_pos rfl]
      exact ⟨readLarge _ _ _ 0 (by omega) (by omega) (by simp), zval, by simp only; omega, by simp only; omega, fun h => by cases h⟩
    · rw [if_neg hl]
      cases hi : (placeS w).2.1 with
      | false =>
        rw [if_neg Bool.false_ne_true]
        have hva := valueW w
        have hv3 : (valueS w).2.2 = true := by
          have h1 := hw.1
          unfold placeS at h1 hi
          simp only at h1 hi
          rw [h1, beq_self_eq_true, Bool.true_and] at hi
          unfold valueS
          rw [if_neg (by rw [h1, hi]; simp)]
        rw [hv3] at hva
        refine ⟨readLeaf _ w _ _ _ left hva (by omega) (by omega) (by omega), ⟨_, _, _, [], rfl, by simp, fun x hx => by cases hx⟩, by simp only; omega, by simp only; omega, fun _ => by simp only; omega⟩
      | true =>
        rw [if_pos rfl]
        obtain ⟨o, ho, hoa⟩ := hw.2 hi
        have hat := at_placed hL ho
        rw [hoa] at hat
        rw [hat]
        simp only
        refine ⟨read_obj (f := n + 1) hL h4 ho hoa hi (by simp) (fun i w1 c h1 h2 lf h3 h5 => ?_) (by omega) (by omega) hl4, node_ok (fun c hc2 lf h3 h5 => ?_) (by omega) hl4 ?_⟩
        · rw [List.getElem?_map, h1] at h2
          cases h2
          exact ih (by omega) w1 (hn o ho w1 (List.mem_of_getElem? h1)) lf h3 h5
        · obtain ⟨p, hp, rfl⟩ := List.mem_map.1 hc2
          exact (ih (by omega) p (hn o ho p hp) lf h3 h5).2
        · have := (right_small (hL.2 o ho).1).2
          simp; omega

theorem read_copied {L T : List Obj} {low : Int} {Rch : Int → Prop} {mv : List (Int × Int)} (hL : Placed L) (hc : Copied L low Rch T mv) (h4 : (flat L).length ≤ 4000) (h0 : 0 ≤ low) (hn : ∀ o, o ∈ L → ∀ p, p ∈ o.parts → NameOk L p) :
    ∀ (n : Nat) w, NameOk L w → Known low mv w → ∀ left, readF (flat T) n (phi low mv w) left = readF (flat L) n w left := by
  intro n
  induction n with
  | zero => intro w _ _ left; rfl
  | succ n ih =>
    intro w hw hk left
    unfold readF
    by_cases hl : left = 0
    · rw [if_pos hl, if_pos hl]
    · rw [if_neg hl, if_neg hl]
      cases hi : (placeS w).2.1 with
      | false =>
        have hph : phi low mv w = w := phi_not (by unfold toY; rw [hi]; rfl)
        rw [hph, hi, if_neg Bool.false_ne_true, if_neg Bool.false_ne_true]
      | true =>
        obtain ⟨o, x, ho, hx, hoa, hxa, hi2, e1, e2, e3, e5, hkn⟩ := copied_word hL hc h4 h0 hw hk hi
        have h1 := at_placed hL ho
        have h2 := at_placed hc.placed hx
        rw [hoa] at h1
        rw [hxa] at h2
        rw [hi2, if_pos rfl, if_pos rfl, h1, h2]
        simp only
        rw [e1, e2, e3, e5, List.map_map]
        have : o.parts.map (readF (flat T) n ∘ phi low mv) = o.parts.map (readF (flat L) n) := List.map_congr_left fun p hp => by
          funext lf
          exact ih p (hn o ho p hp) (hkn p hp) lf
        rw [this]


theorem readVal (g : List Int) (w k n e : Int) (text : ByteArray) (args : List (List PV)) (lf : Int)
    (hre : ACalls Try.prog 58 [words g, wD w, iD 40, .ptr 0 0 0] [.box [iD 400]] (fun r obs' => r = .tup [valD k n text args, iD e] ∧ obs' = [.box [iD lf]])) : ACallP Try.prog 25 [words g, wD w] (.tup [valD k n text args, iD e]) := by
  refine acallp_fnv [.cell 4 38, .tmp 5] Try.func25 rfl rfl Try.ntmps25 (by simp) fun R hR => ?_
  (refine awp_reg_seq [0, 1, 4] fun K hK => ?_; (repeat' ((refine al_r rfl fun K' hK' => ?_); (repeat (simp only [go_sem, simprocAttr])); ((refine hK' _ _ ?_) <;> clear hK' K'))); all_goals (refine al_nil ?_; (simp only [go_sem, simprocAttr]); refine hK _ ?_; clear hK K))
  (refine awp_reg_seq [0, 1, 4, 6] fun K hK => ?_; (repeat' ((first | refine al_r rfl fun K' hK' => ?_ | refine al_d rfl fun K' hK' => ?_); (repeat (first | (simp only [go_sem, simprocAttr]) | refine AS.mk ?_)); ((first | refine hK' _ _ ?_ | refine ⟨?_, hK' _ _ ?_⟩) <;> clear hK' K' <;> (first | (show alist _ _ _ _ _ _; skip) | (simp; done))))); all_goals (refine al_nil ?_; (simp only [go_sem, simprocAttr]); refine hK _ ?_; clear hK K))
  (refine awp_reg_seq [4, 5] fun K hK => ?_; (repeat' ((first | refine al_r rfl fun K' hK' => ?_ | refine al_d rfl fun K' hK' => ?_); (repeat (first | (simp only [go_sem, simprocAttr]) | refine AS.mk ?_)); (first | ((first | refine hK' _ _ ?_ | refine ⟨?_, hK' _ _ ?_⟩) <;> clear hK' K' <;> (first | (show alist _ _ _ _ _ _; skip) | (simp; done))) | ((show AC _ _ (D.fn 58 _) _ _); refine acall_m (f := 58) [1] Try.call58 hre rfl rfl (by decide) (by simp) ?_; rintro r obs' ⟨rfl, rfl⟩; refine ⟨by simp, ?_⟩; (simp only [go_sem, simprocAttr]); refine hK' _ _ ?_; clear hK' K')))); all_goals (refine al_nil ?_; (simp only [go_sem, simprocAttr]); refine hK _ ?_; clear hK K))
  refine awp_ret ?_; refine hR _ _ (.inl rfl) rfl ?_
  simp only [go_sem, simprocAttr]

theorem read25 {g : List Int} {w : Int} {r : List PV × Int × Int} {f : Nat} (h : ReadsTo g w 40 400 r) (hv : Val f r.1) : ACallP Try.prog 25 [words g, wD w] (.tup [.agg (r.1.map .p), iD r.2.1]) := by
  obtain ⟨xs, e, lf⟩ := r
  obtain ⟨k, n, t, a, e2⟩ := hv.form
  simp only at e2
  subst e2
  exact readVal g w k n e t a lf h
end Go.Proofs.Ytagphggcdmjlpaa.P

/- YoungKeeps: the walk. -/
namespace Go.Proofs.Ytagphggcdmjlpaa.P
open Go.Ab Go.Proofs.Ytagphggcdmjlpaa.T


theorem sameNode (f : Nat) (ih : ∀ xs, Val f xs → ACallP Try.prog 26 [.agg (xs.map .p), .agg (xs.map .p)] (bD true)) (xs : List PV) (h : Val (f + 1) xs) : ACallP Try.prog 26 [.agg (xs.map .p), .agg (xs.map .p)] (bD true) := by
  obtain ⟨k, n, text, args, rfl, hal, hargs⟩ := h
  have hmax : args.length ≤ maxLen := by simp only [maxLen]; omega
  refine acallp_fn [4] Try.func26 rfl rfl Try.ntmps26 (by simp) fun R hR => ?_
  (refine awp_reg_seq [2, 3] fun K hK => ?_; (repeat' ((refine al_r rfl fun K' hK' => ?_); (repeat (simp only [go_sem, simprocAttr])); ((refine hK' _ _ ?_) <;> clear hK' K'))); all_goals (refine al_nil ?_; (simp only [go_sem, simprocAttr]); refine hK _ ?_; clear hK K))
  (refine awp_frz [2, 3] [] (by decide) (by (simp; done)) ?_; simp only [go_sem, simprocAttr])
  refine awp_seq_k fun K hK => ?_

  refine awp_reg_tov [2, 3, 33] [(33, bD false)] (h := ?_) (k := ?_)
  · all_goals ((repeat' (first | ((first | refine al_r rfl fun K' hK' => ?_ | refine al_t rfl rfl fun K' hK' => ?_); (repeat (simp only [go_sem, simprocAttr, bne_self_eq_false])); ((first | refine hK' _ _ ?_ | refine ⟨?_, hK' _ _ ?_⟩) <;> clear hK' K' <;> (first | (show alist _ _ _ _ _ _; skip) | (intro s hs; cases hs; done)))) | refine al_e rfl rfl ?_ | ((fail_if_success (refine al_t rfl rfl fun K' hK' => ?_)); refine al_s _ rfl rfl rfl (fun hb => ?_) (fun hb => ?_)))); all_goals (refine al_nil ?_; (first | (simp only [go_sem, simprocAttr, bne_self_eq_false, *, Bool.and_true, Bool.and_false, Bool.true_and, Bool.false_and, Bool.or_true, Bool.true_or, Bool.or_false, Bool.false_or, Bool.not_true, Bool.not_false, Bool.false_eq_true]; done) | (simp_all; done))))
  (intro K hK; (simp only [go_sem, simprocAttr, bne_self_eq_false]); refine hK _ ?_; clear hK K)
  refine awp_if (_) rfl (fun hc => ?_) (fun hc => ?_)
  · cases hc
  · refine awp_skip ?_
    refine hK _ ?_; clear hK K
    refine awp_seq_k fun K hK => ?_
    (refine awp_reg_seq [2, 3, 36, 37] fun K hK => ?_; (repeat' ((refine al_r rfl fun K' hK' => ?_); (repeat (simp only [go_sem, simprocAttr, bne_self_eq_false])); ((first | refine hK' _ _ ?_ | refine ⟨?_, hK' _ _ ?_⟩) <;> clear hK' K' <;> (first | (show alist _ _ _ _ _ _; skip) | (intro s hs; cases hs; done))))); all_goals (refine al_nil ?_; (simp only [go_sem, simprocAttr, bne_self_eq_false]); refine hK _ ?_; clear hK K))
    refine awp_block ?_
    -- loop 0 head [2, 3, 36, 37]
    refine awp_loop (fun m s => ∃ i : Nat, i ≤ args.length ∧ m = args.length - i ∧ s = ⟨ofL [(2, .rd [.lit (.int .i64 k), .lit (.int .i64 n), .lit (.string text), .sl args] 0), (3, .rd [.lit (.int .i64 k), .lit (.int .i64 n), .lit (.string text), .sl args] 0), (36, iD args.length), (37, iD i)], [], 0⟩) ⟨_, 0, Nat.zero_le _, rfl, rfl⟩ ?_
    rintro m s ⟨i, hi, rfl, rfl⟩
    (refine awp_reg_seq [2, 3, 36, 37, 38] fun K hK => ?_; (repeat' ((refine al_r rfl fun K' hK' => ?_); (repeat (simp only [go_sem, simprocAttr, bne_self_eq_false])); ((refine hK' _ _ ?_) <;> clear hK' K'))); all_goals (refine al_nil ?_; (simp only [go_sem, simprocAttr, bne_self_eq_false]); refine hK _ ?_; clear hK K))
    refine awp_seq_k fun K hK => ?_
    refine awp_if (decide ((i : Int) < args.length)) rfl (fun hc => ?_) (fun hc => ?_)
    · refine awp_skip ?_
      refine hK _ ?_; clear hK K
      refine awp_seq_k fun K hK => ?_
      refine awp_block ?_
      have hi2 : i < args.length := by simpa using hc
      obtain ⟨x, hget⟩ := get_of_lt hi2
      have hnn : (0 : Int) ≤ (i : Int) := Int.natCast_nonneg i
      have hnx : IntKind.i64.wrap ((i : Int) + 1) = ((i + 1 : Nat) : Int) := wrap_next hi2 hmax
      have hxs := hargs x (List.mem_of_getElem? hget)
      have hcall := ih x hxs
      obtain ⟨y0, y1, y2, y3, rfl⟩ := hxs.form
      simp only [List.map_cons, List.map_nil] at hcall

      (refine awp_reg_seq [2, 3, 5, 36, 37] fun K hK => ?_; (repeat' ((refine al_r rfl fun K' hK' => ?_); (repeat (simp only [go_sem, simprocAttr, hget, hnn, hi2, hnx, Int.toNat_natCast])); ((refine hK' _ _ ?_) <;> clear hK' K'))); all_goals (refine al_nil ?_; (simp only [go_sem, simprocAttr, hget, hnn, hi2, hnx, Int.toNat_natCast]); refine hK _ ?_; clear hK K))
      refine awp_draw_tov (by kernel_rfl) [2, 3, 36, 37, 51] [(51, bD false)] (h := ?_) (k := ?_)
      · all_goals ((refine ah_r 0 rfl (by kernel_rfl) rfl fun K' hK' => ?_); (simp only [go_sem, simprocAttr, hget, hnn, hi2, hnx, Int.toNat_natCast]); ((refine hK' _ ?_); clear hK' K'))
        all_goals ((refine ah_r 1 rfl (by kernel_rfl) rfl fun K' hK' => ?_); (simp only [go_sem, simprocAttr, hget, hnn, hi2, hnx, Int.toNat_natCast]); ((refine hK' _ ?_); clear hK' K'))
        all_goals ((refine ah_r 2 rfl (by kernel_rfl) rfl fun K' hK' => ?_); (simp only [go_sem, simprocAttr, hget, hnn, hi2, hnx, Int.toNat_natCast]); ((refine hK' _ ?_); clear hK' K'))
        all_goals ((refine ah_r 3 rfl (by kernel_rfl) rfl fun K' hK' => ?_); (simp only [go_sem, simprocAttr, hget, hnn, hi2, hnx, Int.toNat_natCast]); ((refine hK' _ ?_); clear hK' K'))
        all_goals ((refine ah_r 4 rfl (by kernel_rfl) rfl fun K' hK' => ?_); (simp only [go_sem, simprocAttr, hget, hnn, hi2, hnx, Int.toNat_natCast]); ((refine hK' _ ?_); clear hK' K'))
        all_goals ((refine ah_r 5 rfl (by kernel_rfl) rfl fun K' hK' => ?_); (simp only [go_sem, simprocAttr, hget, hnn, hi2, hnx, Int.toNat_natCast]); ((refine hK' _ ?_); clear hK' K'))
        all_goals ((refine ah_r 6 rfl (by kernel_rfl) rfl fun K' hK' => ?_); (simp only [go_sem, simprocAttr, hget, hnn, hi2, hnx, Int.toNat_natCast]); ((refine hK' _ ?_); clear hK' K'))
        all_goals ((refine ah_r 7 rfl (by kernel_rfl) rfl fun K' hK' => ?_); (simp only [go_sem, simprocAttr, hget, hnn, hi2, hnx, Int.toNat_natCast]); ((refine hK' _ ?_); clear hK' K'))
        all_goals ((refine ah_r 8 rfl (by kernel_rfl) rfl fun K' hK' => ?_); (simp only [go_sem, simprocAttr, hget, hnn, hi2, hnx, Int.toNat_natCast]); ((refine hK' _ ?_); clear hK' K'))
        all_goals ((refine ah_r 9 rfl (by kernel_rfl) rfl fun K' hK' => ?_); (simp only [go_sem, simprocAttr, hget, hnn, hi2, hnx, Int.toNat_natCast]); ((refine hK' _ ?_); clear hK' K'))
        all_goals (refine ah_one 10 rfl (by kernel_rfl) ?_; (repeat' ((refine al_r rfl fun K' hK' => ?_); (repeat (simp only [go_sem, simprocAttr, hget, hnn, hi2, hnx, Int.toNat_natCast])); ((show AC _ _ (D.fn 26 _) _ _); refine acall_p (f := 26) (e := rfl) (hr := rfl) (k := hK' _ _ ?_) (hc := Try.call26) (h := hcall); clear hK' K'))); all_goals refine al_nil ?_)
        all_goals ((refine ah_r 11 rfl (by kernel_rfl) rfl fun K' hK' => ?_); (simp only [go_sem, simprocAttr, hget, hnn, hi2, hnx, Int.toNat_natCast]); ((refine hK' _ ?_); clear hK' K'))
        all_goals (refine ah_done (by kernel_rfl) ?_; simp only [go_sem, simprocAttr, hget, hnn, hi2, hnx, Int.toNat_natCast, *, Bool.and_true, Bool.and_false, Bool.true_and, Bool.false_and, Bool.or_true, Bool.true_or, Bool.or_false, Bool.false_or, Bool.not_true, Bool.not_false, Bool.false_eq_true])
      (intro K hK; (simp only [go_sem, simprocAttr, hget, hnn, hi2, hnx, Int.toNat_natCast]); refine hK _ ?_; clear hK K)
      refine awp_if (_) rfl (fun hc => ?_) (fun hc => ?_)
      · cases hc
      · refine awp_skip ?_
        refine hK _ ?_; clear hK K
        (refine awp_reg_end [2, 3, 36, 37] fun K hK => ?_; (repeat' ((refine al_r rfl fun K' hK' => ?_); (repeat (simp only [go_sem, simprocAttr, hget, hnn, hi2, hnx, Int.toNat_natCast])); ((refine hK' _ _ ?_) <;> clear hK' K'))); all_goals (refine al_nil ?_; (simp only [go_sem, simprocAttr, hget, hnn, hi2, hnx, Int.toNat_natCast]); refine hK _ ?_; clear hK K))
        exact ⟨_, by omega, i + 1, hi2, rfl, rfl⟩

    · refine awp_exit ?_
      clear hK
      refine hK _ ?_; clear hK K
      (refine awp_reg_seq [4] fun K hK => ?_; (repeat' ((refine al_r rfl fun K' hK' => ?_); (repeat (simp only [go_sem, simprocAttr])); ((refine hK' _ _ ?_) <;> clear hK' K'))); all_goals (refine al_nil ?_; (simp only [go_sem, simprocAttr]); refine hK _ ?_; clear hK K))
      all_goals (refine awp_ret ?_; (refine hR _ _ (.inl rfl) rfl ?_); (simp only [go_sem, simprocAttr, *, Bool.and_true, Bool.and_false, Bool.true_and, Bool.false_and, Bool.or_true, Bool.true_or, Bool.or_false, Bool.false_or, Bool.not_true, Bool.not_false, Bool.false_eq_true]; done))

theorem sameVal2 : ∀ (f : Nat) (xs : List PV), Val f xs → ACallP Try.prog 26 [.agg (xs.map .p), .agg (xs.map .p)] (bD true)
  | 0, _, h => h.elim
  | f + 1, xs, h => sameNode f (sameVal2 f) xs h


theorem sameVals (f : Nat) (l : List (List PV)) (hl : l.length ≤ 100000) (hv : ∀ x, x ∈ l → Val f x) : ACallP Try.prog 41 [.p (.sl l), .p (.sl l)] (bD true) := by
  refine acallp_fn [4] Try.func41 rfl rfl Try.ntmps41 (by simp) fun R hR => ?_
  (refine awp_reg_seq [0, 1] fun K hK => ?_; (repeat' ((refine al_r rfl fun K' hK' => ?_); (repeat (simp only [go_sem, simprocAttr, bne_self_eq_false])); ((refine hK' _ _ ?_) <;> clear hK' K'))); all_goals (refine al_nil ?_; (simp only [go_sem, simprocAttr, bne_self_eq_false]); refine hK _ ?_; clear hK K))
  refine awp_seq_k fun K hK => ?_
  (refine awp_reg_seq [0, 1, 10] fun K hK => ?_; (repeat' ((refine al_r rfl fun K' hK' => ?_); (repeat (simp only [go_sem, simprocAttr, bne_self_eq_false])); ((first | refine hK' _ _ ?_ | refine ⟨?_, hK' _ _ ?_⟩) <;> clear hK' K' <;> (first | (show alist _ _ _ _ _ _; skip) | (intro s hs; cases hs; done))))); all_goals (refine al_nil ?_; (simp only [go_sem, simprocAttr, bne_self_eq_false]); refine hK _ ?_; clear hK K))
  refine awp_if (_) rfl (fun hc => ?_) (fun hc => ?_)
  · cases hc
  · refine awp_skip ?_
    refine hK _ ?_; clear hK K
    refine awp_seq_k fun K hK => ?_
    (refine awp_reg_seq [0, 1, 12, 13] fun K hK => ?_; (repeat' ((refine al_r rfl fun K' hK' => ?_); (repeat (simp only [go_sem, simprocAttr, bne_self_eq_false])); ((first | refine hK' _ _ ?_ | refine ⟨?_, hK' _ _ ?_⟩) <;> clear hK' K' <;> (first | (show alist _ _ _ _ _ _; skip) | (intro s hs; cases hs; done))))); all_goals (refine al_nil ?_; (simp only [go_sem, simprocAttr, bne_self_eq_false]); refine hK _ ?_; clear hK K))
    refine awp_block ?_
    -- loop 0 head [0, 1, 12, 13]
    refine awp_loop (fun m s => ∃ i : Nat, i ≤ l.length ∧ m = l.length - i ∧ s = ⟨ofL [(0, .p (.sl l)), (1, .p (.sl l)), (12, iD l.length), (13, iD i)], [], 0⟩) ⟨_, 0, Nat.zero_le _, rfl, rfl⟩ ?_
    rintro m s ⟨i, hi, rfl, rfl⟩
    (refine awp_reg_seq [0, 1, 12, 13, 14] fun K hK => ?_; (repeat' ((refine al_r rfl fun K' hK' => ?_); (repeat (simp only [go_sem, simprocAttr, bne_self_eq_false])); ((refine hK' _ _ ?_) <;> clear hK' K'))); all_goals (refine al_nil ?_; (simp only [go_sem, simprocAttr, bne_self_eq_false]); refine hK _ ?_; clear hK K))
    refine awp_seq_k fun K hK => ?_
    refine awp_if (decide ((i : Int) < l.length)) rfl (fun hc => ?_) (fun hc => ?_)
    · refine awp_skip ?_
      refine hK _ ?_; clear hK K
      refine awp_seq_k fun K hK => ?_
      refine awp_block ?_
      have hi2 : i < l.length := by simpa using hc
      obtain ⟨x, hget⟩ := get_of_lt hi2
      have hnn : (0 : Int) ≤ (i : Int) := Int.natCast_nonneg i
      have hnx : IntKind.i64.wrap ((i : Int) + 1) = ((i + 1 : Nat) : Int) := by rw [Go.Ab.wrap_small (by omega) (by omega)]; rfl
      have hxs := hv x (List.mem_of_getElem? hget)
      have hcall := sameVal2 f x hxs
      obtain ⟨y0, y1, y2, y3, rfl⟩ := hxs.form
      simp only [List.map_cons, List.map_nil] at hcall

      (refine awp_reg_seq [0, 1, 5, 12, 13] fun K hK => ?_; (repeat' ((refine al_r rfl fun K' hK' => ?_); (repeat (simp only [go_sem, simprocAttr, hget, hnn, hi2, hnx, Int.toNat_natCast])); ((refine hK' _ _ ?_) <;> clear hK' K'))); all_goals (refine al_nil ?_; (simp only [go_sem, simprocAttr, hget, hnn, hi2, hnx, Int.toNat_natCast]); refine hK _ ?_; clear hK K))
      refine awp_draw_tov (by kernel_rfl) [0, 1, 12, 13, 25] [(25, bD false)] (h := ?_) (k := ?_)
      · all_goals ((refine ah_r 0 rfl (by kernel_rfl) rfl fun K' hK' => ?_); (simp only [go_sem, simprocAttr, hget, hnn, hi2, hnx, Int.toNat_natCast]); ((refine hK' _ ?_); clear hK' K'))
        all_goals ((refine ah_r 1 rfl (by kernel_rfl) rfl fun K' hK' => ?_); (simp only [go_sem, simprocAttr, hget, hnn, hi2, hnx, Int.toNat_natCast]); ((refine hK' _ ?_); clear hK' K'))
        all_goals ((refine ah_r 2 rfl (by kernel_rfl) rfl fun K' hK' => ?_); (simp only [go_sem, simprocAttr, hget, hnn, hi2, hnx, Int.toNat_natCast]); ((refine hK' _ ?_); clear hK' K'))
        all_goals ((refine ah_r 3 rfl (by kernel_rfl) rfl fun K' hK' => ?_); (simp only [go_sem, simprocAttr, hget, hnn, hi2, hnx, Int.toNat_natCast]); ((refine hK' _ ?_); clear hK' K'))
        all_goals ((refine ah_r 4 rfl (by kernel_rfl) rfl fun K' hK' => ?_); (simp only [go_sem, simprocAttr, hget, hnn, hi2, hnx, Int.toNat_natCast]); ((refine hK' _ ?_); clear hK' K'))
        all_goals ((refine ah_r 5 rfl (by kernel_rfl) rfl fun K' hK' => ?_); (simp only [go_sem, simprocAttr, hget, hnn, hi2, hnx, Int.toNat_natCast]); ((refine hK' _ ?_); clear hK' K'))
        all_goals ((refine ah_r 6 rfl (by kernel_rfl) rfl fun K' hK' => ?_); (simp only [go_sem, simprocAttr, hget, hnn, hi2, hnx, Int.toNat_natCast]); ((refine hK' _ ?_); clear hK' K'))
        all_goals ((refine ah_r 7 rfl (by kernel_rfl) rfl fun K' hK' => ?_); (simp only [go_sem, simprocAttr, hget, hnn, hi2, hnx, Int.toNat_natCast]); ((refine hK' _ ?_); clear hK' K'))
        all_goals (refine ah_one 8 rfl (by kernel_rfl) ?_; (repeat' ((refine al_r rfl fun K' hK' => ?_); (repeat (simp only [go_sem, simprocAttr, hget, hnn, hi2, hnx, Int.toNat_natCast])); ((show AC _ _ (D.fn 26 _) _ _); refine acall_p (f := 26) (e := rfl) (hr := rfl) (k := hK' _ _ ?_) (hc := Try.call26) (h := hcall); clear hK' K'))); all_goals refine al_nil ?_)
        all_goals ((refine ah_r 9 rfl (by kernel_rfl) rfl fun K' hK' => ?_); (simp only [go_sem, simprocAttr, hget, hnn, hi2, hnx, Int.toNat_natCast]); ((refine hK' _ ?_); clear hK' K'))
        all_goals (refine ah_done (by kernel_rfl) ?_; simp only [go_sem, simprocAttr, hget, hnn, hi2, hnx, Int.toNat_natCast, *, Bool.and_true, Bool.and_false, Bool.true_and, Bool.false_and, Bool.or_true, Bool.true_or, Bool.or_false, Bool.false_or, Bool.not_true, Bool.not_false, Bool.false_eq_true])
      (intro K hK; (simp only [go_sem, simprocAttr, hget, hnn, hi2, hnx, Int.toNat_natCast]); refine hK _ ?_; clear hK K)
      refine awp_if (_) rfl (fun hc => ?_) (fun hc => ?_)
      · cases hc
      · refine awp_skip ?_
        refine hK _ ?_; clear hK K
        (refine awp_reg_end [0, 1, 12, 13] fun K hK => ?_; (repeat' ((refine al_r rfl fun K' hK' => ?_); (repeat (simp only [go_sem, simprocAttr, hget, hnn, hi2, hnx, Int.toNat_natCast])); ((refine hK' _ _ ?_) <;> clear hK' K'))); all_goals (refine al_nil ?_; (simp only [go_sem, simprocAttr, hget, hnn, hi2, hnx, Int.toNat_natCast]); refine hK _ ?_; clear hK K))
        exact ⟨_, by omega, i + 1, hi2, rfl, rfl⟩

    · refine awp_exit ?_
      clear hK
      refine hK _ ?_; clear hK K
      (refine awp_reg_seq [4] fun K hK => ?_; (repeat' ((refine al_r rfl fun K' hK' => ?_); (repeat (simp only [go_sem, simprocAttr])); ((refine hK' _ _ ?_) <;> clear hK' K'))); all_goals (refine al_nil ?_; (simp only [go_sem, simprocAttr]); refine hK _ ?_; clear hK K))
      all_goals (refine awp_ret ?_; (refine hR _ _ (.inl rfl) rfl ?_); (simp only [go_sem, simprocAttr, *, Bool.and_true, Bool.and_false, Bool.true_and, Bool.false_and, Bool.or_true, Bool.true_or, Bool.or_false, Bool.false_or, Bool.not_true, Bool.not_false, Bool.false_eq_true]; done))


theorem equalE (a b : List Int) (ha : a.length ≤ maxLen) : ACallP Try.prog 42 [ints a, ints b] (bD (listEq eqI a b)) := by
  refine acallp_fn [4] Try.func42 rfl rfl Try.ntmps42 (by simp) fun R hR => ?_
  (refine awp_reg_seq [0, 1] fun K hK => ?_; (repeat' ((refine al_r rfl fun K' hK' => ?_); (repeat (simp only [go_sem, simprocAttr, List.length_map])); ((refine hK' _ _ ?_) <;> clear hK' K'))); all_goals (refine al_nil ?_; (simp only [go_sem, simprocAttr, List.length_map]); refine hK _ ?_; clear hK K))
  refine awp_seq_k fun K hK => ?_
  (refine awp_reg_seq [0, 1, 10] fun K hK => ?_; (repeat' ((refine al_r rfl fun K' hK' => ?_); (repeat (simp only [go_sem, simprocAttr, List.length_map])); ((first | refine hK' _ _ ?_ | refine ⟨?_, hK' _ _ ?_⟩) <;> clear hK' K' <;> (first | (show alist _ _ _ _ _ _; skip) | (intro s hs; cases hs; done))))); all_goals (refine al_nil ?_; (simp only [go_sem, simprocAttr, List.length_map]); refine hK _ ?_; clear hK K))
  refine awp_if (_) rfl (fun hc => ?_) (fun hc => ?_)
  · have hl : a.length ≠ b.length := by
      intro e; rw [e] at hc; simp at hc
    rw [listEq_len hl] at hR
    (refine awp_reg_seq [4] fun K hK => ?_; (repeat' ((refine al_r rfl fun K' hK' => ?_); (repeat (simp only [go_sem, simprocAttr, List.length_map])); ((refine hK' _ _ ?_) <;> clear hK' K'))); all_goals (refine al_nil ?_; (simp only [go_sem, simprocAttr, List.length_map]); refine hK _ ?_; clear hK K))
    refine awp_ret ?_; (refine hR _ _ (.inl rfl) rfl ?_)
    simp only [go_sem, simprocAttr, List.length_map]
  · have hl : a.length = b.length := by
      have : ((a.length : Int) != b.length) = false := hc
      simp at this; omega
    refine awp_skip ?_
    refine hK _ ?_; clear hK K
    refine awp_seq_k fun K hK => ?_
    (refine awp_reg_seq [0, 1, 12, 13] fun K hK => ?_; (repeat' ((refine al_r rfl fun K' hK' => ?_); (repeat (simp only [go_sem, simprocAttr, List.length_map])); ((first | refine hK' _ _ ?_ | refine ⟨?_, hK' _ _ ?_⟩) <;> clear hK' K' <;> (first | (show alist _ _ _ _ _ _; skip) | (intro s hs; cases hs; done))))); all_goals (refine al_nil ?_; (simp only [go_sem, simprocAttr, List.length_map]); refine hK _ ?_; clear hK K))
    refine awp_block ?_
    refine awp_loop (fun m s => ∃ i : Nat, i ≤ a.length ∧ m = a.length - i ∧ (∀ (j : Nat) x y, j < i → a[j]? = some x → b[j]? = some y → eqI x y = true) ∧ s = ⟨ofL [(0, ints a), (1, ints b), (12, iD a.length), (13, iD i)], [], 0⟩) ⟨_, 0, Nat.zero_le _, rfl, fun j _ _ hj => absurd hj (by omega), rfl⟩ ?_
    rintro m s ⟨i, hi, rfl, hbefore, rfl⟩
    (refine awp_reg_seq [0, 1, 12, 13, 14] fun K hK => ?_; (repeat' ((refine al_r rfl fun K' hK' => ?_); (repeat (simp only [go_sem, simprocAttr, List.length_map])); ((refine hK' _ _ ?_) <;> clear hK' K'))); all_goals (refine al_nil ?_; (simp only [go_sem, simprocAttr, List.length_map]); refine hK _ ?_; clear hK K))
    refine awp_seq_k fun K hK => ?_
    refine awp_if (decide ((i : Int) < a.length)) rfl (fun hc => ?_) (fun hc => ?_)
    · refine awp_skip ?_
      refine hK _ ?_; clear hK K
      have hi2 : i < a.length := by simpa using hc
      obtain ⟨x, hx⟩ := get_of_lt hi2
      obtain ⟨y, hy⟩ := get_of_lt (l := b) (i := i) (by omega)
      have hnn : (0 : Int) ≤ (i : Int) := Int.natCast_nonneg i

      refine awp_seq_k fun K hK => ?_
      refine awp_block ?_
      (refine awp_reg_seq [0, 1, 5, 12, 13] fun K hK => ?_; (repeat' ((refine al_r rfl fun K' hK' => ?_); (repeat (simp only [go_sem, simprocAttr, hx, hy, hnn, List.length_map, List.getElem?_map, Int.toNat_natCast, Option.map_some, List.length_map])); ((refine hK' _ _ ?_) <;> clear hK' K'))); all_goals (refine al_nil ?_; (simp only [go_sem, simprocAttr, hx, hy, hnn, List.length_map, List.getElem?_map, Int.toNat_natCast, Option.map_some, List.length_map]); refine hK _ ?_; clear hK K))
      refine awp_draw_seq (by kernel_rfl) [0, 1, 12, 13, 24] fun K hK => ?_
      ((refine ah_r 0 rfl (by kernel_rfl) rfl fun K' hK' => ?_); (simp only [go_sem, simprocAttr, hx, hy, hnn, List.length_map, List.getElem?_map, Int.toNat_natCast, Option.map_some, List.length_map]); ((refine hK' _ ?_); clear hK' K'))
      ((refine ah_r 1 rfl (by kernel_rfl) rfl fun K' hK' => ?_); (simp only [go_sem, simprocAttr, hx, hy, hnn, List.length_map, List.getElem?_map, Int.toNat_natCast, Option.map_some, List.length_map]); ((refine hK' _ ?_); clear hK' K'))
      ((refine ah_r 2 rfl (by kernel_rfl) rfl fun K' hK' => ?_); (simp only [go_sem, simprocAttr, hx, hy, hnn, List.length_map, List.getElem?_map, Int.toNat_natCast, Option.map_some, List.length_map]); ((refine hK' _ ?_); clear hK' K'))
      ((refine ah_r 3 rfl (by kernel_rfl) rfl fun K' hK' => ?_); (simp only [go_sem, simprocAttr, hx, hy, hnn, List.length_map, List.getElem?_map, Int.toNat_natCast, Option.map_some, List.length_map]); ((refine hK' _ ?_); clear hK' K'))
      ((refine ah_r 4 rfl (by kernel_rfl) rfl fun K' hK' => ?_); (simp only [go_sem, simprocAttr, hx, hy, hnn, List.length_map, List.getElem?_map, Int.toNat_natCast, Option.map_some, List.length_map]); ((refine hK' _ ?_); clear hK' K'))
      ((refine ah_r 5 rfl (by kernel_rfl) rfl fun K' hK' => ?_); (simp only [go_sem, simprocAttr, hx, hy, hnn, List.length_map, List.getElem?_map, Int.toNat_natCast, Option.map_some, List.length_map]); ((refine hK' _ ?_); clear hK' K'))
      ((refine ah_r 6 rfl (by kernel_rfl) rfl fun K' hK' => ?_); (simp only [go_sem, simprocAttr, hx, hy, hnn, List.length_map, List.getElem?_map, Int.toNat_natCast, Option.map_some, List.length_map]); ((refine hK' _ ?_); clear hK' K'))
      ((refine ah_r 7 rfl (by kernel_rfl) rfl fun K' hK' => ?_); (simp only [go_sem, simprocAttr, hx, hy, hnn, List.length_map, List.getElem?_map, Int.toNat_natCast, Option.map_some, List.length_map]); ((refine hK' _ ?_); clear hK' K'))
      ((refine ah_r 8 rfl (by kernel_rfl) rfl fun K' hK' => ?_); (simp only [go_sem, simprocAttr, hx, hy, hnn, List.length_map, List.getElem?_map, Int.toNat_natCast, Option.map_some, List.length_map]); ((refine hK' _ ?_); clear hK' K'))
      (refine ah_done (by kernel_rfl) ?_; (simp only [go_sem, simprocAttr, hx, hy, hnn, List.length_map, List.getElem?_map, Int.toNat_natCast, Option.map_some, List.length_map]); refine hK _ ?_; clear hK K)
      refine awp_if (!(eqI x y)) rfl (fun hc => ?_) (fun hc => ?_)
      · have he : eqI x y = false := by simpa using hc
        rw [listEq_not hx hy he] at hR
        (refine awp_reg_seq [4] fun K hK => ?_; (repeat' ((refine al_r rfl fun K' hK' => ?_); (repeat (simp only [go_sem, simprocAttr, hx, hy, hnn, List.length_map, List.getElem?_map, Int.toNat_natCast, Option.map_some, List.length_map])); ((refine hK' _ _ ?_) <;> clear hK' K'))); all_goals (refine al_nil ?_; (simp only [go_sem, simprocAttr, hx, hy, hnn, List.length_map, List.getElem?_map, Int.toNat_natCast, Option.map_some, List.length_map]); refine hK _ ?_; clear hK K))
        refine awp_ret ?_; (refine hR _ _ (.inl rfl) rfl ?_)
        simp only [go_sem, simprocAttr, hx, hy, hnn, List.length_map, List.getElem?_map, Int.toNat_natCast, Option.map_some, List.length_map]
      · have he : eqI x y = true := by simpa using hc
        refine awp_skip ?_
        refine hK _ ?_; clear hK K
        (refine awp_reg_end [0, 1, 12, 13] fun K hK => ?_; (repeat' ((refine al_r rfl fun K' hK' => ?_); (repeat (simp only [go_sem, simprocAttr, hx, hy, hnn, List.length_map, List.getElem?_map, Int.toNat_natCast, Option.map_some, List.length_map])); ((refine hK' _ _ ?_) <;> clear hK' K'))); all_goals (refine al_nil ?_; (simp only [go_sem, simprocAttr, hx, hy, hnn, List.length_map, List.getElem?_map, Int.toNat_natCast, Option.map_some, List.length_map]); refine hK _ ?_; clear hK K))
        refine ⟨_, ?_, i + 1, hi2, rfl, ?_, ?_⟩
        · omega
        · intro j u v hj hu hv
          by_cases e : j = i
          · subst e; rw [hx] at hu; rw [hy] at hv; cases hu; cases hv; exact he
          · exact hbefore j u v (by omega) hu hv
        · rw [wrap_next hi2 ha]

    · refine awp_exit ?_
      clear hK
      refine hK _ ?_; clear hK K
      have hi2 : i = a.length := by simp at hc; omega
      have hfin : listEq eqI a b = true := listEq_of hl fun j x y hx hy => hbefore j x y (by have := lt_of_get hx; omega) hx hy
      rw [hfin] at hR
      (refine awp_reg_seq [4] fun K hK => ?_; (repeat' ((refine al_r rfl fun K' hK' => ?_); (repeat (simp only [go_sem, simprocAttr, List.length_map])); ((refine hK' _ _ ?_) <;> clear hK' K'))); all_goals (refine al_nil ?_; (simp only [go_sem, simprocAttr, List.length_map]); refine hK _ ?_; clear hK K))
      refine awp_ret ?_; (refine hR _ _ (.inl rfl) rfl ?_)
      simp only [go_sem, simprocAttr, List.length_map]



theorem equalE_same (l : List Int) (h : l.length ≤ maxLen) : ACallP Try.prog 42 [ints l, ints l] (bD true) := by
  have heq := equalE l l h
  rw [(listEq_iff eqI_iff).2 rfl] at heq
  exact heq


theorem readsC (h : List Int) (old : Int) (late ws : List Int) (f : Nat) (rs : List (List PV × Int)) (hl : rs.length = ws.length) (hws : ws.length ≤ 100000) (hr : ∀ (i : Nat) w r, ws[i]? = some w → rs[i]? = some r → Val f r.1 ∧ ACallP Try.prog 25 [words h, wD w] (.tup [.agg (r.1.map .p), iD r.2])) :
    ACallP Try.prog 40 [agesD h old late, words ws] (.tup [.p (.sl (rs.map fun r => r.1)), ints (rs.map fun r => r.2)]) := by
  refine acallp_fn [4, 5] Try.func40 rfl rfl Try.ntmps40 (by simp) fun R hR => ?_
  (refine awp_reg_seq [1, 2] fun K hK => ?_; (repeat' ((refine al_r rfl fun K' hK' => ?_); (repeat (simp only [go_sem, simprocAttr, List.length_map])); ((refine hK' _ _ ?_) <;> clear hK' K'))); all_goals (refine al_nil ?_; (simp only [go_sem, simprocAttr, List.length_map]); refine hK _ ?_; clear hK K))
  (refine awp_frz [1, 2] [] (by decide) (by (simp; done)) ?_; simp only [go_sem, simprocAttr, List.length_map])
  (refine awp_reg_seq [1, 2, 6] fun K hK => ?_; (repeat' ((refine al_r rfl fun K' hK' => ?_); (repeat (simp only [go_sem, simprocAttr, List.length_map])); ((refine hK' _ _ ?_) <;> clear hK' K'))); all_goals (refine al_nil ?_; (simp only [go_sem, simprocAttr, List.length_map]); refine hK _ ?_; clear hK K))
  (refine awp_reg_seq [1, 2, 6, 7] fun K hK => ?_; (repeat' ((refine al_r rfl fun K' hK' => ?_); (repeat (simp only [go_sem, simprocAttr, List.length_map])); ((refine hK' _ _ ?_) <;> clear hK' K'))); all_goals (refine al_nil ?_; (simp only [go_sem, simprocAttr, List.length_map]); refine hK _ ?_; clear hK K))
  refine awp_born 6 4 rfl ?_
  refine awp_born 7 1 rfl ?_
  simp only [go_sem, simprocAttr, List.length_map]
  refine awp_seq_k fun K hK => ?_
  (refine awp_reg_seq [2, 6, 7, 12, 13, 14] fun K hK => ?_; (repeat' ((refine al_r rfl fun K' hK' => ?_); (repeat (simp only [go_sem, simprocAttr, List.length_map])); ((first | refine hK' _ _ ?_ | refine ⟨?_, hK' _ _ ?_⟩) <;> clear hK' K' <;> (first | (show alist _ _ _ _ _ _; skip) | (intro s hs; cases hs; done))))); all_goals (refine al_nil ?_; (simp only [go_sem, simprocAttr, List.length_map]); refine hK _ ?_; clear hK K))
  refine awp_block ?_
  -- loop 0 head [2, 6, 7, 12, 13, 14]
  refine awp_loop_cut (fun m s => ∃ (i : Nat), i ≤ ws.length ∧ m = ws.length - i ∧ s = ⟨ofL [(2, .rd [.sl (h.map wrow), .lit (.int .i64 old), .sl (late.map irow)] 0), (6, .ref 0 0 i), (7, .ref 1 0 i), (12, words ws), (13, iD ws.length), (14, iD i)], [.row 4 ((rs.take i).map fun r => r.1), .row 1 (((rs.take i).map fun r => r.2).map irow)], 0⟩) ⟨_, 0, Nat.zero_le _, rfl, rfl⟩ ?_
  rintro m s ⟨i, hi, hmi, rfl⟩
  (refine awp_reg_seq [2, 6, 7, 12, 13, 14, 15] fun K hK => ?_; (repeat' ((refine al_r rfl fun K' hK' => ?_); (repeat (simp only [go_sem, simprocAttr, List.length_map])); ((refine hK' _ _ ?_) <;> clear hK' K'))); all_goals (refine al_nil ?_; (simp only [go_sem, simprocAttr, List.length_map]); refine hK _ ?_; clear hK K))
  refine awp_seq_k fun K hK => ?_
  refine awp_if (decide ((i : Int) < (ws.length : Int))) rfl (fun hc => ?_) (fun hc => ?_)
  · refine awp_skip ?_
    refine hK _ ?_; clear hK K
    refine awp_seq_k fun K hK => ?_
    refine awp_block ?_
    have hi2 : i < ws.length := by simpa using hc
    obtain ⟨w, hgw⟩ := get_of_lt hi2
    obtain ⟨r, hgr⟩ := get_of_lt (l := rs) (i := i) (by omega)
    have hnn : (0 : Int) ≤ (i : Int) := Int.natCast_nonneg i
    have hnx : IntKind.i64.wrap ((i : Int) + 1) = ((i + 1 : Nat) : Int) := by rw [Go.Ab.wrap_small (by omega) (by omega)]; rfl
    obtain ⟨hv, hrd⟩ := hr i w r hgw hgr
    have htk := take_succ_of hgr
    obtain ⟨xs, e⟩ := r
    simp only at hv hrd
    obtain ⟨k, n, t, a, rfl⟩ := hv.form
    simp only [List.map_cons, List.map_nil] at hrd
    have hlt : (rs.take i).length = i := by rw [List.length_take]; omega
    have ht1 : List.take i ((rs.take i).map fun r => r.1) = (rs.take i).map fun r => r.1 := List.take_of_length_le (by simp; omega)
    have ht2 : List.take i (((rs.take i).map fun r => r.2).map irow) = ((rs.take i).map fun r => r.2).map irow := List.take_of_length_le (by simp; omega)
    have hf1 : (i + 1) * 56 ≤ 140737488355328 := by omega
    have hf2 : (i + 1) * 8 ≤ 140737488355328 := by omega

    (refine awp_reg_seq [2, 6, 7, 9, 12, 13, 14] fun K hK => ?_; (repeat' ((refine al_r rfl fun K' hK' => ?_); (repeat (simp only [go_sem, simprocAttr, hgw, hnn, hi2, hnx, hlt, ht1, ht2, hf1, hf2, Int.toNat_natCast, List.getElem?_map, Option.map_some, List.length_map, List.drop_zero])); ((refine hK' _ _ ?_) <;> clear hK' K'))); all_goals (refine al_nil ?_; (simp only [go_sem, simprocAttr, hgw, hnn, hi2, hnx, hlt, ht1, ht2, hf1, hf2, Int.toNat_natCast, List.getElem?_map, Option.map_some, List.length_map, List.drop_zero]); refine hK _ ?_; clear hK K))
    (refine awp_reg_seq [2, 6, 7, 10, 11, 12, 13, 14] fun K hK => ?_; (repeat' ((first | refine al_r rfl fun K' hK' => ?_ | refine al_d rfl fun K' hK' => ?_); (repeat (first | (simp only [go_sem, simprocAttr, hgw, hnn, hi2, hnx, hlt, ht1, ht2, hf1, hf2, Int.toNat_natCast, List.getElem?_map, Option.map_some, List.length_map, List.drop_zero]) | refine AS.mk ?_)); (first | ((first | refine hK' _ _ ?_ | refine ⟨?_, hK' _ _ ?_⟩) <;> clear hK' K' <;> (first | (show alist _ _ _ _ _ _; skip) | (simp; done))) | ((show AC _ _ (D.fn 25 _) _ _); refine acall_p (f := 25) (e := rfl) (hr := rfl) (k := hK' _ _ ?_) (hc := Try.call25) (h := hrd); clear hK' K')))); all_goals (refine al_nil ?_; (simp only [go_sem, simprocAttr, hgw, hnn, hi2, hnx, hlt, ht1, ht2, hf1, hf2, Int.toNat_natCast, List.getElem?_map, Option.map_some, List.length_map, List.drop_zero]); refine hK _ ?_; clear hK K))
    (refine awp_frz [2, 6, 7, 10, 11, 12, 13, 14] [0, 1] (by decide) (by (simp; done)) ?_; simp only [go_sem, simprocAttr, hgw, hnn, hi2, hnx, hlt, ht1, ht2, hf1, hf2, Int.toNat_natCast, List.getElem?_map, Option.map_some, List.length_map, List.drop_zero])
    (refine awp_reg_end [2, 6, 7, 12, 13, 14] fun K hK => ?_; (repeat' ((refine al_r rfl fun K' hK' => ?_); (repeat (first | (simp only [go_sem, simprocAttr, hgw, hnn, hi2, hnx, hlt, ht1, ht2, hf1, hf2, Int.toNat_natCast, List.getElem?_map, Option.map_some, List.length_map, List.drop_zero]) | refine AAp.grow ?_)); ((first | refine hK' _ _ ?_ | refine ⟨?_, ?_, hK' _ _ ?_⟩) <;> clear hK' K' <;> (first | (show alist _ _ _ _ _ _; skip) | (simp; done))))); all_goals (refine al_nil ?_; (simp only [go_sem, simprocAttr, hgw, hnn, hi2, hnx, hlt, ht1, ht2, hf1, hf2, Int.toNat_natCast, List.getElem?_map, Option.map_some, List.length_map, List.drop_zero]); refine hK _ ?_; clear hK K))
    refine hK _ ?_; clear hK K
    (refine awp_reg_end [2, 6, 7, 12, 13, 14] fun K hK => ?_; (repeat' ((refine al_r rfl fun K' hK' => ?_); (repeat (simp only [go_sem, simprocAttr, hgw, hnn, hi2, hnx, hlt, ht1, ht2, hf1, hf2, Int.toNat_natCast, List.getElem?_map, Option.map_some, List.length_map, List.drop_zero])); ((refine hK' _ _ ?_) <;> clear hK' K'))); all_goals (refine al_nil ?_; (simp only [go_sem, simprocAttr, hgw, hnn, hi2, hnx, hlt, ht1, ht2, hf1, hf2, Int.toNat_natCast, List.getElem?_map, Option.map_some, List.length_map, List.drop_zero]); refine hK _ ?_; clear hK K))
    refine ⟨ws.length - (i + 1), by omega, [2, 6, 7, 12, 13, 14], [3, 5], by decide, by intro q hq; exact absurd hq (Nat.not_lt_zero q), i + 1, hi2, rfl, ?_⟩
    rw [htk]
    simp only [go_sem, simprocAttr, hgw, hnn, hi2, hnx, hlt, ht1, ht2, hf1, hf2, Int.toNat_natCast, List.getElem?_map, Option.map_some, List.length_map, List.drop_zero, List.map_append, List.map_cons, List.map_nil]

  · have hie : i = ws.length := by simp at hc; omega
    have hta : rs.take i = rs := List.take_of_length_le (by omega)
    rw [hta]
    have ht1 : List.take i (rs.map fun r => r.1) = rs.map fun r => r.1 := List.take_of_length_le (by simp; omega)
    have ht2 : List.take i ((rs.map fun r => r.2).map irow) = (rs.map fun r => r.2).map irow := List.take_of_length_le (by simp; omega)
    refine awp_exit ?_
    clear hK
    refine hK _ ?_; clear hK K
    (refine awp_reg_seq [4, 5] fun K hK => ?_; (repeat' ((refine al_r rfl fun K' hK' => ?_); (repeat (simp only [go_sem, simprocAttr, List.length_map, List.drop_zero])); ((refine hK' _ _ ?_) <;> clear hK' K'))); all_goals (refine al_nil ?_; (simp only [go_sem, simprocAttr, List.length_map, List.drop_zero]); refine hK _ ?_; clear hK K))
    refine awp_ret ?_; (refine hR _ _ (.inl rfl) rfl ?_)
    simp only [go_sem, simprocAttr, List.length_map, List.drop_zero, ht1, ht2]
end Go.Proofs.Ytagphggcdmjlpaa.P

/- YoungKeeps. -/
namespace Go.Proofs.Ytagphggcdmjlpaa.P
open Go.Ab Go.Proofs.Ytagphggcdmjlpaa.T

/-- What reads answers, of words that name objects. -/
def readsF (g : List Int) (ws : List Int) : List (List PV × Int) := ws.map fun w => ((readF g 40 w 400).1, (readF g 40 w 400).2.1)

theorem reads_ok {L : List Obj} {old n : Int} {late ws : List Int} (hL : Placed L) (h4 : (flat L).length ≤ 4000) (hn : n = (flat L).length) (hg : GoodA n old late L) (hw : ∀ w, w ∈ ws → NameOk L w) (hwl : ws.length ≤ 100000) (o2 : Int) (l2 : List Int) :
    ACallP Try.prog 40 [agesD (flat L) o2 l2, words ws] (.tup [.p (.sl ((readsF (flat L) ws).map fun r => r.1)), ints ((readsF (flat L) ws).map fun r => r.2)]) ∧ ∀ x, x ∈ (readsF (flat L) ws).map (fun r => r.1) → Val 41 x := by
  have key : ∀ w, w ∈ ws → ReadsTo (flat L) w 40 400 (readF (flat L) 40 w 400) ∧ ResOk 41 400 (readF (flat L) 40 w 400) := fun w hwm => read_ok hL h4 (fun o ho => good_parts hL hn hg ho) 40 (by omega) w (hw w hwm) 400 (by omega) (by omega)
  refine ⟨readsC (flat L) o2 l2 ws 41 _ (by unfold readsF; simp) hwl fun i w r h1 h2 => ?_, fun x hx => ?_⟩
  · unfold readsF at h2
    rw [List.getElem?_map, h1] at h2
    cases h2
    obtain ⟨a, b⟩ := key w (List.mem_of_getElem? h1)
    exact ⟨b.1, read25 a b.1⟩
  · unfold readsF at hx
    rw [List.map_map] at hx
    obtain ⟨w, hwm, rfl⟩ := List.mem_map.1 hx
    exact (key w hwm).2.1

theorem reads_same {L T : List Obj} {low : Int} {Rch : Int → Prop} {mv : List (Int × Int)} {ws : List Int} (hL : Placed L) (hc : Copied L low Rch T mv) (h4 : (flat L).length ≤ 4000) (h0 : 0 ≤ low) (hn : ∀ o, o ∈ L → ∀ p, p ∈ o.parts → NameOk L p) (hw : ∀ w, w ∈ ws → NameOk L w) (hk : ∀ w, w ∈ ws → Known low mv w) :
    readsF (flat T) (ws.map (phi low mv)) = readsF (flat L) ws := by
  unfold readsF
  rw [List.map_map]
  exact List.map_congr_left fun w hwm => by
    show ((readF (flat T) 40 (phi low mv w) 400).1, (readF (flat T) 40 (phi low mv w) 400).2.1) = _
    rw [read_copied hL hc h4 h0 hn 40 w (hw w hwm) (hk w hwm) 400]

theorem keepS {h late roots : List Int} {old : Int} (hg : GoodS h old late roots) (hmax : roots.length ≤ 8) :
    ∃ h2 out h3 out3 vs es, ACalls Try.prog 38 [agesD h old late, words roots] [] (fun r obs' => r = .tup [agesD h2 h2.length [], .ref 0 0 out.length, iD 0] ∧ obs' = [.row 1 (out.map wrow)]) ∧ ACallP Try.prog 39 [agesD h old late, words roots] (.tup [agesD h3 h3.length [], words out3, iD 0]) ∧
      ACallP Try.prog 40 [agesD h old late, words roots] (.tup [.p (.sl vs), ints es]) ∧ ACallP Try.prog 40 [agesD h2 h2.length [], words out] (.tup [.p (.sl vs), ints es]) ∧ ACallP Try.prog 40 [agesD h3 h3.length [], words out3] (.tup [.p (.sl vs), ints es]) ∧
      ACallP Try.prog 41 [.p (.sl vs), .p (.sl vs)] (bD true) ∧ ACallP Try.prog 42 [ints es, ints es] (bD true) := by
  obtain ⟨L, hL, rfl, h4, hA, hr⟩ := hg
  have hn := fun o (ho : o ∈ L) => good_parts hL rfl hA ho
  have hw : ∀ w, w ∈ roots → NameOk L w := fun w hwm => (hr w hwm).1
  obtain ⟨T, mv, h1, hc1, hk1⟩ := minor_good hL h4 hA hw (by omega)
  obtain ⟨T2, mv2, h2, hc2, hk2⟩ := major_good (Rch := fun _ => True) hL h4 hA hw (by omega) (fun _ _ _ => trivial) (fun _ _ _ _ _ _ => trivial)
  have hs1 := hc1.size
  have hs2 := hc2.size
  obtain ⟨q1, hv⟩ := reads_ok hL h4 rfl hA hw (by omega) old late
  have hA1 := good_copied hL rfl hA hc1 h4 hA.1
  have hA2 := good_copied hL rfl hA hc2 h4 (Int.le_refl _)
  obtain ⟨q2, _⟩ := reads_ok (ws := roots.map (phi old mv)) hc1.placed (by omega) rfl hA1 (fun w hwm => by
    obtain ⟨p, hp, rfl⟩ := List.mem_map.1 hwm
    exact copied_name hc1 h4 hA.1 (hw p hp) (hk1 p hp)) (by simp; omega) (flat T).length []
  obtain ⟨q3, _⟩ := reads_ok (ws := roots.map (phi 0 mv2)) hc2.placed (by omega) rfl hA2 (fun w hwm => by
    obtain ⟨p, hp, rfl⟩ := List.mem_map.1 hwm
    exact copied_name hc2 h4 (Int.le_refl _) (hw p hp) (hk2 p hp)) (by simp; omega) (flat T2).length []
  rw [reads_same hL hc1 h4 hA.1 hn hw hk1] at q2
  rw [reads_same hL hc2 h4 (Int.le_refl _) hn hw hk2] at q3
  have hrl : (readsF (flat L) roots).length = roots.length := by unfold readsF; simp
  refine ⟨flat T, roots.map (phi old mv), flat T2, roots.map (phi 0 mv2), _, _, ?_, h2, q1, q2, q3, sameVals 41 _ (by simp; omega) hv, equalE_same _ (by simp only [maxLen, List.length_map]; omega)⟩
  rw [List.length_map]
  exact h1


theorem keepsW (l : List (List PV)) (sets : List (Int × Int)) (minors : List Int) (hgr : ACallR Try.prog 37 [.p (.sl l), pairs sets, ints minors] GrownR) : ACallP Try.prog 13 [.p (.sl l), pairs sets, ints minors] (bD true) := by
  refine acallp_fn [6] Try.func13 rfl rfl Try.ntmps13 (by simp) fun R hR => ?_
  (refine awp_reg_seq [0, 1, 2] fun K hK => ?_; (repeat' ((refine al_r rfl fun K' hK' => ?_); (repeat (simp only [go_sem, simprocAttr, List.length_map, bne_self_eq_false, beq_self_eq_true])); ((refine hK' _ _ ?_) <;> clear hK' K'))); all_goals (refine al_nil ?_; (simp only [go_sem, simprocAttr, List.length_map, bne_self_eq_false, beq_self_eq_true]); refine hK _ ?_; clear hK K))
  (refine awp_reg_seq [7, 8, 9] fun K hK => ?_; (repeat' ((first | refine al_r rfl fun K' hK' => ?_ | refine al_d rfl fun K' hK' => ?_); (repeat (first | (simp only [go_sem, simprocAttr, List.length_map, bne_self_eq_false, beq_self_eq_true]) | refine AS.mk ?_)); (first | ((first | refine hK' _ _ ?_ | refine ⟨?_, hK' _ _ ?_⟩) <;> clear hK' K' <;> (first | (show alist _ _ _ _ _ _; skip) | (simp; done))) | ((show AC _ _ (D.fn 37 _) _ _); refine acall_r (f := 37) Try.call37 hgr rfl ?_; rintro r ⟨h, old, late, roots, rfl, hg, hrl⟩; (simp only [go_sem, simprocAttr, List.length_map, bne_self_eq_false, beq_self_eq_true]); refine hK' _ _ ?_; clear hK' K')))); all_goals (refine al_nil ?_; (simp only [go_sem, simprocAttr, List.length_map, bne_self_eq_false, beq_self_eq_true]); refine hK _ ?_; clear hK K))
  (refine awp_frz [7, 8, 9] [] (by decide) (by (simp; done)) ?_; simp only [go_sem, simprocAttr, List.length_map, bne_self_eq_false, beq_self_eq_true])
  have htr : List.take roots.length (roots.map wrow) = roots.map wrow := List.take_of_length_le (by simp)
  obtain ⟨h2, out, h3, out3, vs, es, hmin, hmaj, hr1, hr2, hr3, hsv, hse⟩ := keepS hg hrl
  have hto : List.take out.length (out.map wrow) = out.map wrow := List.take_of_length_le (by simp)

  refine awp_seq_k fun K hK => ?_
  (refine awp_reg_seq [7, 8, 35] fun K hK => ?_; (repeat' ((first | refine al_r rfl fun K' hK' => ?_ | refine al_t rfl rfl fun K' hK' => ?_); (repeat (simp only [go_sem, simprocAttr, List.length_map, bne_self_eq_false, beq_self_eq_true, htr, hto, List.drop_zero])); (first | ((refine hK' _ _ ?_) <;> clear hK' K') | ((show AC _ _ (D.fn 34 _) _ _); refine acall_p (f := 34) (e := rfl) (hr := rfl) (k := hK' _ _ ?_) (hc := Try.call34) (h := youths); clear hK' K')))); all_goals (refine al_nil ?_; (simp only [go_sem, simprocAttr, List.length_map, bne_self_eq_false, beq_self_eq_true, htr, hto, List.drop_zero]); refine hK _ ?_; clear hK K))
  refine awp_if (_) rfl (fun hc => ?_) (fun hc => ?_)
  · cases hc
  · refine awp_skip ?_
    refine hK _ ?_; clear hK K
    (refine awp_reg_seq [7, 8, 10, 11] fun K hK => ?_; (repeat' ((refine al_r rfl fun K' hK' => ?_); (repeat (simp only [go_sem, simprocAttr, List.length_map, bne_self_eq_false, beq_self_eq_true, htr, hto, List.drop_zero])); (first | ((refine hK' _ _ ?_) <;> clear hK' K') | ((show AC _ _ (D.fn 40 _) _ _); refine acall_p (f := 40) (e := rfl) (hr := rfl) (k := hK' _ _ ?_) (hc := Try.call40) (h := hr1); clear hK' K')))); all_goals (refine al_nil ?_; (simp only [go_sem, simprocAttr, List.length_map, bne_self_eq_false, beq_self_eq_true, htr, hto, List.drop_zero]); refine hK _ ?_; clear hK K))
    (refine awp_reg_seq [7, 8, 10, 11, 12, 13, 14] fun K hK => ?_; (repeat' ((first | refine al_r rfl fun K' hK' => ?_ | refine al_d rfl fun K' hK' => ?_); (repeat (first | (simp only [go_sem, simprocAttr, List.length_map, bne_self_eq_false, beq_self_eq_true, htr, hto, List.drop_zero]) | refine AS.mk ?_)); (first | ((first | refine hK' _ _ ?_ | refine ⟨?_, hK' _ _ ?_⟩) <;> clear hK' K' <;> (first | (show alist _ _ _ _ _ _; skip) | (simp; done))) | ((show AC _ _ (D.fn 38 _) _ _); refine acall_new (f := 38) Try.call38 hmin rfl ?_; rintro r obs' ⟨rfl, rfl⟩; (simp only [go_sem, simprocAttr, List.length_map, bne_self_eq_false, beq_self_eq_true, htr, hto, List.drop_zero]); refine hK' _ _ ?_; clear hK' K')))); all_goals (refine al_nil ?_; (simp only [go_sem, simprocAttr, List.length_map, bne_self_eq_false, beq_self_eq_true, htr, hto, List.drop_zero]); refine hK _ ?_; clear hK K))
    (refine awp_frz [7, 8, 10, 11, 12, 13, 14] [] (by decide) (by (simp; done)) ?_; simp only [go_sem, simprocAttr, List.length_map, bne_self_eq_false, beq_self_eq_true, htr, hto, List.drop_zero])
    (refine awp_reg_seq [10, 11, 12, 13, 14, 15, 16, 17] fun K hK => ?_; (repeat' ((first | refine al_r rfl fun K' hK' => ?_ | refine al_d rfl fun K' hK' => ?_); (repeat (first | (simp only [go_sem, simprocAttr, List.length_map, bne_self_eq_false, beq_self_eq_true, htr, hto, List.drop_zero]) | refine AS.mk ?_)); (first | ((first | refine hK' _ _ ?_ | refine ⟨?_, hK' _ _ ?_⟩) <;> clear hK' K' <;> (first | (show alist _ _ _ _ _ _; skip) | (simp; done))) | ((show AC _ _ (D.fn 39 _) _ _); refine acall_p (f := 39) (e := rfl) (hr := rfl) (k := hK' _ _ ?_) (hc := Try.call39) (h := hmaj); clear hK' K')))); all_goals (refine al_nil ?_; (simp only [go_sem, simprocAttr, List.length_map, bne_self_eq_false, beq_self_eq_true, htr, hto, List.drop_zero]); refine hK _ ?_; clear hK K))
    (refine awp_frz [10, 11, 12, 13, 14, 15, 16, 17] [] (by decide) (by (simp; done)) ?_; simp only [go_sem, simprocAttr, List.length_map, bne_self_eq_false, beq_self_eq_true, htr, hto, List.drop_zero])
    refine awp_seq_k fun K hK => ?_
    (refine awp_reg_seq [10, 11, 12, 13, 15, 16, 60] fun K hK => ?_; (repeat' ((refine al_r rfl fun K' hK' => ?_); (repeat (simp only [go_sem, simprocAttr, List.length_map, bne_self_eq_false, beq_self_eq_true, htr, hto, List.drop_zero])); (first | ((refine hK' _ _ ?_) <;> clear hK' K') | ((show AC _ _ (D.fn 20 _) _ _); refine acall_w [] (by decide) (by simp) (f := 20) (e := rfl) (hr := fun _ => rfl) (k := hK' _ _ ?_) (hc := Try.call20) (h := good00); clear hK' K')))); all_goals (refine al_nil ?_; (simp only [go_sem, simprocAttr, List.length_map, bne_self_eq_false, beq_self_eq_true, htr, hto, List.drop_zero]); refine hK _ ?_; clear hK K))
    (refine awp_frz [10, 11, 12, 13, 15, 16, 60] [] (by decide) (by (simp; done)) ?_; simp only [go_sem, simprocAttr, List.length_map, bne_self_eq_false, beq_self_eq_true, htr, hto, List.drop_zero])
    refine awp_if (_) rfl (fun hc => ?_) (fun hc => ?_)
    · cases hc
    · refine awp_skip ?_
      refine hK _ ?_; clear hK K
      (refine awp_reg_seq [10, 11, 15, 16, 18, 19] fun K hK => ?_; (repeat' ((refine al_r rfl fun K' hK' => ?_); (repeat (simp only [go_sem, simprocAttr, List.length_map, bne_self_eq_false, beq_self_eq_true, htr, hto, List.drop_zero])); (first | ((refine hK' _ _ ?_) <;> clear hK' K') | ((show AC _ _ (D.fn 40 _) _ _); refine acall_p (f := 40) (e := rfl) (hr := rfl) (k := hK' _ _ ?_) (hc := Try.call40) (h := hr2); clear hK' K')))); all_goals (refine al_nil ?_; (simp only [go_sem, simprocAttr, List.length_map, bne_self_eq_false, beq_self_eq_true, htr, hto, List.drop_zero]); refine hK _ ?_; clear hK K))
      (refine awp_reg_seq [10, 11, 18, 19, 20, 21] fun K hK => ?_; (repeat' ((refine al_r rfl fun K' hK' => ?_); (repeat (simp only [go_sem, simprocAttr, List.length_map, bne_self_eq_false, beq_self_eq_true, htr, hto, List.drop_zero])); (first | ((refine hK' _ _ ?_) <;> clear hK' K') | ((show AC _ _ (D.fn 40 _) _ _); refine acall_p (f := 40) (e := rfl) (hr := rfl) (k := hK' _ _ ?_) (hc := Try.call40) (h := hr3); clear hK' K')))); all_goals (refine al_nil ?_; (simp only [go_sem, simprocAttr, List.length_map, bne_self_eq_false, beq_self_eq_true, htr, hto, List.drop_zero]); refine hK _ ?_; clear hK K))
      (refine awp_reg_seq [6] fun K hK => ?_; (repeat' ((first | refine al_r rfl fun K' hK' => ?_ | refine al_t rfl rfl fun K' hK' => ?_); (repeat (simp only [go_sem, simprocAttr, List.length_map, bne_self_eq_false, beq_self_eq_true, htr, hto, List.drop_zero])); (first | ((refine hK' _ _ ?_) <;> clear hK' K') | ((show AC _ _ (D.fn 41 _) _ _); refine acall_p (f := 41) (e := rfl) (hr := rfl) (k := hK' _ _ ?_) (hc := Try.call41) (h := hsv); clear hK' K') | ((show AC _ _ (D.fn 42 _) _ _); refine acall_p (f := 42) (e := rfl) (hr := rfl) (k := hK' _ _ ?_) (hc := Try.call42) (h := hse); clear hK' K')))); all_goals (refine al_nil ?_; (simp only [go_sem, simprocAttr, List.length_map, bne_self_eq_false, beq_self_eq_true, htr, hto, List.drop_zero]); refine hK _ ?_; clear hK K))
      all_goals (refine awp_ret ?_; (refine hR _ _ (.inl rfl) rfl ?_); (simp only [go_sem, simprocAttr, List.length_map, bne_self_eq_false, beq_self_eq_true, htr, hto, List.drop_zero, *, Bool.and_true, Bool.and_false, Bool.true_and, Bool.false_and, Bool.or_true, Bool.true_or, Bool.or_false, Bool.false_or, Bool.not_true, Bool.not_false, Bool.false_eq_true]; done))
end Go.Proofs.Ytagphggcdmjlpaa.P

/- What data of the types of this seat's statements looks like, by a program of this session (genshape.py). -/
namespace Go.Proofs.Ytagphggcdmjlpaa.P3
open Go.Ab
theorem closed : closedT Try.prog [3, 9, 36, 38, 58, 70, 139] = true := by kernel_rfl
theorem c3 : Try.prog.cellsOf 3 = 1 := by kernel_rfl
theorem c58 : Try.prog.cellsOf 58 = 1 := by kernel_rfl
theorem c70 : Try.prog.cellsOf 70 = 1 := by kernel_rfl
theorem c139 : Try.prog.cellsOf 139 = 2 := by kernel_rfl
theorem sh_bool {P : Program} {f : Nat} {t : TypeId} {xs : List PV} (hu : P.underlying t = some .bool) (h : shapeOk P f t xs) : ∃ b, xs = [.lit (.bool b)] ∧ True := by
  obtain ⟨b, rfl⟩ := shape_bool hu h; exact ⟨b, rfl, trivial⟩
structure Pair where
  s0 : Int
  s1 : Int

def Pair.row (b : Pair) : List PV := [.lit (.int .i64 b.s0), .lit (.int .i64 b.s1)]
def Pair.ok (b : Pair) : Prop := (Lit.int .i64 b.s0).wf = true ∧ (Lit.int .i64 b.s1).wf = true
theorem Pair.row_length (b : Pair) : b.row.length = 2 := rfl
set_option maxRecDepth 100000 in
theorem sh139 {f : Nat} {xs : List PV} (h : shapeOk Try.prog f 139 xs) : ∃ x : Pair, xs = x.row ∧ x.ok := by
  obtain ⟨m, rfl, hl, hf⟩ := shape_array Try.underlying139 h
  match xs, hl with
  | [q0, q1], _ =>
    obtain ⟨x0, e0, k0⟩ := shape_int Try.underlying3 (hf q0 (by simp))
    obtain ⟨x1, e1, k1⟩ := shape_int Try.underlying3 (hf q1 (by simp))
    simp only [List.cons.injEq, and_true] at e0 e1
    exact ⟨⟨x0, x1⟩, by rw [e0, e1]; rfl, k0, k1⟩

theorem rows139 {f : Nat} : ∀ (rows : List (List PV)), (∀ r, r ∈ rows → r.length = Try.prog.cellsOf 139 ∧ shapeOk Try.prog f 139 r) → ∃ ls : List Pair, rows = ls.map (Pair.row) ∧ ∀ x, x ∈ ls → x.ok
  | [], _ => ⟨[], rfl, fun x hx => by cases hx⟩
  | r :: rows, h => by
    obtain ⟨x, rfl, hx⟩ := sh139 (h r List.mem_cons_self).2
    obtain ⟨ls, rfl, hl⟩ := rows139 rows fun r hr => h r (List.mem_cons_of_mem _ hr)
    exact ⟨x :: ls, rfl, fun y hy => by rcases List.mem_cons.1 hy with rfl | hy; exact hx; exact hl y hy⟩

theorem sh70 {f : Nat} {xs : List PV} (h : shapeOk Try.prog f 70 xs) : ∃ x : (List Pair), xs = [.sl (x.map Pair.row)] ∧ (x.length ≤ maxLen ∧ (∀ y, y ∈ x → y.ok) ∧ x.length * 16 ≤ 140737488351232) := by
  obtain ⟨n, rows, _, rfl, hmax, hfit, hr⟩ := shape_slice Try.underlying70 h
  obtain ⟨ls, rfl, hl⟩ := rows139 rows hr
  exact ⟨ls, rfl, by simpa using hmax, hl, by rw [show Try.prog.bytesOf 139 = 16 by kernel_rfl, reach_is] at hfit; simpa using hfit⟩

theorem rows3 {f : Nat} : ∀ (rows : List (List PV)), (∀ r, r ∈ rows → r.length = Try.prog.cellsOf 3 ∧ shapeOk Try.prog f 3 r) → ∃ ls : List Int, rows = ls.map (fun x => [.lit (.int .i64 x)]) ∧ ∀ x, x ∈ ls → (Lit.int .i64 x).wf = true
  | [], _ => ⟨[], rfl, fun x hx => by cases hx⟩
  | r :: rows, h => by
    obtain ⟨x, rfl, hx⟩ := shape_int Try.underlying3 (h r List.mem_cons_self).2
    obtain ⟨ls, rfl, hl⟩ := rows3 rows fun r hr => h r (List.mem_cons_of_mem _ hr)
    exact ⟨x :: ls, rfl, fun y hy => by rcases List.mem_cons.1 hy with rfl | hy; exact hx; exact hl y hy⟩

theorem sh58 {f : Nat} {xs : List PV} (h : shapeOk Try.prog f 58 xs) : ∃ x : (List Int), xs = [.sl (x.map fun x => [.lit (.int .i64 x)])] ∧ (x.length ≤ maxLen ∧ (∀ y, y ∈ x → (Lit.int .i64 y).wf = true) ∧ x.length * 8 ≤ 140737488351232) := by
  obtain ⟨n, rows, _, rfl, hmax, hfit, hr⟩ := shape_slice Try.underlying58 h
  obtain ⟨ls, rfl, hl⟩ := rows3 rows hr
  exact ⟨ls, rfl, by simpa using hmax, hl, by rw [show Try.prog.bytesOf 3 = 8 by kernel_rfl, reach_is] at hfit; simpa using hfit⟩
theorem sh36 {f : Nat} {xs : List PV} (h : shapeOk Try.prog f 36 xs) : ∃ x : List (List PV), xs = [.sl x] ∧ (x.length ≤ maxLen ∧ ∃ g, ∀ y, y ∈ x → shapeOk Try.prog g 38 y) := by
  obtain ⟨n, rows, _, rfl, hmax, hfit, hr⟩ := shape_slice Try.underlying36 h
  exact ⟨rows, rfl, by simpa using hmax, _, fun y hy => (hr y hy).2⟩
end Go.Proofs.Ytagphggcdmjlpaa.P3

/- YoungKeeps: a contract, of data as it comes. -/
namespace Go.Proofs.Ytagphggcdmjlpaa.P
open Go.Ab Go.Proofs.Ytagphggcdmjlpaa.T

theorem pairs_eq2 (s : List P3.Pair) : D.p (.sl (s.map P3.Pair.row)) = pairs (s.map fun p => (p.s0, p.s1)) := by
  unfold pairs
  rw [List.map_map]
  rfl

theorem keepsF (l : List (List PV)) (s : List P3.Pair) (m : List Int) (h1 : l.length ≤ maxLen ∧ ∃ g, ∀ y, y ∈ l → shapeOk Try.prog g 38 y) (h2 : s.length ≤ maxLen) (h3 : m.length ≤ maxLen) :
    ACallP Try.prog 13 [.p (.sl l), .p (.sl (s.map P3.Pair.row)), ints m] (bD true) := by
  rw [pairs_eq2]
  obtain ⟨h0, g, hg⟩ := h1
  exact keepsW l _ m (grownC g l _ m hg h0 (by simpa using h2) h3)
end Go.Proofs.Ytagphggcdmjlpaa.P

