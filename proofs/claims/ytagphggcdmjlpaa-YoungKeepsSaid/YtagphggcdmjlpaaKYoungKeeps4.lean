/- Texts of this proof, joined: Y2, Y3, Y17, Y22, AbI, AbJ, Y4, Y5, Y6, Y7, Y8, AbL, Y9, Y10. -/
import Derived.Test.YtagphggcdmjlpaaKYoungKeeps3
import Derived.Shelf.Spec.SlicesInsertGrow
set_option linter.unusedSimpArgs false
set_option linter.unusedVariables false
set_option maxHeartbeats 1000000
/- Are ages right: a contract. -/
namespace Go.Proofs.Ytagphggcdmjlpaa.P
open Go.Ab Go.Proofs.Ytagphggcdmjlpaa.T

abbrev agesD (h : List Int) (old : Int) (late : List Int) : D := .agg [words h, iD old, ints late]

/-- Does an object begin, or the heap end, at a place. -/
def begS (n : Int) (l : List Obj) (t : Int) : Bool := t == n || l.any fun o => t == o.at_
def hasI (ns : List Int) (t : Int) : Bool := ns.any fun m => t == m

def Starts (n : Int) (l : List Obj) (es : List (Value × PV)) : Prop := intKeys .i64 es ∧ ∀ t, mget es t = if begS n l t then some (.lit (.bool true)) else none

theorem starts_nil (n : Int) : Starts n [] (mset .i64 n (.lit (.bool true)) []) := by
  refine ⟨intKeys_mset (intKeys_nil _), fun t => ?_⟩
  rw [mget_mset (intKeys_nil _)]
  unfold begS
  by_cases h : n = t
  · subst h; simp
  · have : (t == n) = false := by simpa using fun h2 => h h2.symm
    rw [if_neg h, this]; rfl

theorem starts_snoc {n : Int} {l : List Obj} {es : List (Value × PV)} (h : Starts n l es) (o : Obj) : Starts n (l ++ [o]) (mset .i64 o.at_ (.lit (.bool true)) es) := by
  refine ⟨intKeys_mset h.1, fun t => ?_⟩
  rw [mget_mset h.1, h.2]
  unfold begS
  rw [List.any_append]
  by_cases e : o.at_ = t
  · subst e; simp
  · have : (t == o.at_) = false := by simpa using fun h2 => e h2.symm
    rw [if_neg e]
    simp [this]

def prevB (pv : Option Int) (t : Int) : Bool := match pv with | some p => decide (p ≥ t) | none => false

/-- Are late places not so: the one ahead is told. -/
def lateF (old : Int) (beg : Int → Bool) : Option Int → List Int → Bool
  | _, [] => false
  | pv, t :: r => (decide (t ≥ old) || !beg t || prevB pv t) || lateF old beg (some t) r

def partE (n old : Int) (beg : Int → Bool) (late : List Int) (o : Obj) (w : Int) : Int :=
  if (placeS w).2.2 != 0 || ((placeS w).2.1 && ((placeS w).1 == n || !beg (placeS w).1)) then 4
  else if (placeS w).2.1 && decide (o.at_ < old) && decide ((placeS w).1 ≥ old) && !hasI late o.at_ then 8 else 0

def firstE {α : Type} (f : α → Int) : List α → Int
  | [] => 0
  | x :: l => if f x != 0 then f x else firstE f l

/-- What Check answers, for objects. -/
def checkO (n old : Int) (late : List Int) (l : List Obj) : Int :=
  if decide (old < 0) || !begS n l old then 1 else if lateF old (begS n l) none late then 21 else firstE (fun o => firstE (partE n old (begS n l) late o) o.parts) l

def checkY (h : List Int) (old : Int) (late : List Int) : Int := if (objsS h).2 != 0 then (objsS h).2 else checkO h.length old late (objsS h).1


theorem checkBad (h : List Int) (old e : Int) (late : List Int) (l : List Obj) (he : (e != 0) = true) (hob : ACallP Try.prog 15 [words h] (.tup [objs l, iD e])) : ACallP Try.prog 35 [agesD h old late] (iD e) := by
  refine acallp_fn [2] Try.func35 rfl rfl Try.ntmps35 (by simp) fun R hR => ?_
  (refine awp_reg_seq [1] fun K hK => ?_; (repeat' ((refine al_r rfl fun K' hK' => ?_); (repeat (simp only [go_sem, simprocAttr, he])); ((refine hK' _ _ ?_) <;> clear hK' K'))); all_goals (refine al_nil ?_; (simp only [go_sem, simprocAttr, he]); refine hK _ ?_; clear hK K))
  (refine awp_frz [1] [] (by decide) (by (simp; done)) ?_; simp only [go_sem, simprocAttr, he])
  (refine awp_reg_seq [1, 3, 4] fun K hK => ?_; (repeat' ((refine al_r rfl fun K' hK' => ?_); (repeat (simp only [go_sem, simprocAttr, he])); (first | ((refine hK' _ _ ?_) <;> clear hK' K') | ((show AC _ _ (D.fn 15 _) _ _); refine acall_p (f := 15) (e := rfl) (hr := rfl) (k := hK' _ _ ?_) (hc := Try.call15) (h := hob); clear hK' K')))); all_goals (refine al_nil ?_; (simp only [go_sem, simprocAttr, he]); refine hK _ ?_; clear hK K))
  refine awp_seq_k fun K hK => ?_
  (refine awp_reg_seq [1, 3, 4, 24] fun K hK => ?_; (repeat' ((refine al_r rfl fun K' hK' => ?_); (repeat (simp only [go_sem, simprocAttr, he])); ((refine hK' _ _ ?_) <;> clear hK' K'))); all_goals (refine al_nil ?_; (simp only [go_sem, simprocAttr, he]); refine hK _ ?_; clear hK K))
  refine awp_if (_) rfl (fun hc => ?_) (fun hc => ?_)
  · (refine awp_reg_seq [2] fun K hK => ?_; (repeat' ((refine al_r rfl fun K' hK' => ?_); (repeat (simp only [go_sem, simprocAttr, he])); ((refine hK' _ _ ?_) <;> clear hK' K'))); all_goals (refine al_nil ?_; (simp only [go_sem, simprocAttr, he]); refine hK _ ?_; clear hK K))
    all_goals (refine awp_ret ?_; (refine hR _ _ (.inl rfl) rfl ?_); (simp only [go_sem, simprocAttr, he, *, Bool.and_true, Bool.and_false, Bool.true_and, Bool.false_and, Bool.or_true, Bool.true_or, Bool.or_false, Bool.false_or, Bool.not_true, Bool.not_false, Bool.false_eq_true]; done))
  · cases hc


theorem checkGood (h : List Int) (old : Int) (late : List Int) (l : List Obj) (hob : ACallP Try.prog 15 [words h] (.tup [objs l, iD 0])) (hlen : h.length ≤ 4000) (hl : l.length ≤ 5000) (hlate : late.length ≤ maxLen)
    (hp : ∀ o, o ∈ l → o.parts.length ≤ 5000) : ACallP Try.prog 35 [agesD h old late] (iD (checkO h.length old late l)) := by
  obtain ⟨V, hV⟩ : ∃ V, V = checkO h.length old late l := ⟨_, rfl⟩
  rw [← hV]
  unfold checkO at hV
  refine acallp_fn [2] Try.func35 rfl rfl Try.ntmps35 (by simp) fun R hR => ?_
  (refine awp_reg_seq [1] fun K hK => ?_; (repeat' ((refine al_r rfl fun K' hK' => ?_); (repeat (simp only [go_sem, simprocAttr, List.length_map, bne_self_eq_false])); ((refine hK' _ _ ?_) <;> clear hK' K'))); all_goals (refine al_nil ?_; (simp only [go_sem, simprocAttr, List.length_map, bne_self_eq_false]); refine hK _ ?_; clear hK K))
  (refine awp_frz [1] [] (by decide) (by (simp; done)) ?_; simp only [go_sem, simprocAttr, List.length_map, bne_self_eq_false])
  (refine awp_reg_seq [1, 3, 4] fun K hK => ?_; (repeat' ((refine al_r rfl fun K' hK' => ?_); (repeat (simp only [go_sem, simprocAttr, List.length_map, bne_self_eq_false])); (first | ((refine hK' _ _ ?_) <;> clear hK' K') | ((show AC _ _ (D.fn 15 _) _ _); refine acall_p (f := 15) (e := rfl) (hr := rfl) (k := hK' _ _ ?_) (hc := Try.call15) (h := hob); clear hK' K')))); all_goals (refine al_nil ?_; (simp only [go_sem, simprocAttr, List.length_map, bne_self_eq_false]); refine hK _ ?_; clear hK K))
  refine awp_seq_k fun K hK => ?_
  (refine awp_reg_seq [1, 3, 4, 24] fun K hK => ?_; (repeat' ((refine al_r rfl fun K' hK' => ?_); (repeat (simp only [go_sem, simprocAttr, List.length_map, bne_self_eq_false])); ((refine hK' _ _ ?_) <;> clear hK' K'))); all_goals (refine al_nil ?_; (simp only [go_sem, simprocAttr, List.length_map, bne_self_eq_false]); refine hK _ ?_; clear hK K))
  refine awp_if (_) rfl (fun hc => ?_) (fun hc => ?_)
  · cases hc
  · refine awp_skip ?_
    refine hK _ ?_; clear hK K
    (refine awp_reg_seq [1, 3, 5] fun K hK => ?_; (repeat' ((first | refine al_r rfl fun K' hK' => ?_ | refine al_d rfl fun K' hK' => ?_); (repeat (simp only [go_sem, simprocAttr, List.length_map, bne_self_eq_false])); ((first | refine hK' _ _ ?_ | refine ⟨?_, hK' _ _ ?_⟩) <;> clear hK' K' <;> (first | (show alist _ _ _ _ _ _; skip) | (intro s hs; cases hs; done))))); all_goals (refine al_nil ?_; (simp only [go_sem, simprocAttr, List.length_map, bne_self_eq_false]); refine hK _ ?_; clear hK K))
    have hs0 := starts_nil (h.length : Int)
    refine awp_seq_k fun K hK => ?_
    (refine awp_reg_seq [1, 3, 5, 31, 32, 33] fun K hK => ?_; (repeat' ((refine al_r rfl fun K' hK' => ?_); (repeat (simp only [go_sem, simprocAttr, List.length_map, bne_self_eq_false])); ((first | refine hK' _ _ ?_ | refine ⟨?_, hK' _ _ ?_⟩) <;> clear hK' K' <;> (first | (show alist _ _ _ _ _ _; skip) | (intro s hs; cases hs; done))))); all_goals (refine al_nil ?_; (simp only [go_sem, simprocAttr, List.length_map, bne_self_eq_false]); refine hK _ ?_; clear hK K))
    refine awp_block ?_
    -- loop 0 head [1, 3, 5, 31, 32, 33]
    refine awp_loop_cut (fun m s => ∃ (i : Nat) (es : List (Value × PV)), i ≤ l.length ∧ m = l.length - i ∧ Starts h.length (l.take i) es ∧ s = ⟨ofL [(1, .rd [.sl (h.map wrow), .lit (.int .i64 old), .sl (late.map irow)] 0), (3, objs l), (5, .mp 0), (31, objs l), (32, iD l.length), (33, iD i)], [.map es], 0⟩) ⟨_, 0, _, Nat.zero_le _, rfl, hs0, rfl⟩ ?_
    rintro m s ⟨i, es, hi, hm, hse, rfl⟩
    (refine awp_reg_seq [1, 3, 5, 31, 32, 33, 34] fun K hK => ?_; (repeat' ((refine al_r rfl fun K' hK' => ?_); (repeat (simp only [go_sem, simprocAttr, List.length_map, bne_self_eq_false])); ((refine hK' _ _ ?_) <;> clear hK' K'))); all_goals (refine al_nil ?_; (simp only [go_sem, simprocAttr, List.length_map, bne_self_eq_false]); refine hK _ ?_; clear hK K))
    refine awp_seq_k fun K hK => ?_
    refine awp_if (decide ((i : Int) < (l.length : Int))) rfl (fun hc => ?_) (fun hc => ?_)
    · refine awp_skip ?_
      refine hK _ ?_; clear hK K
      refine awp_seq_k fun K hK => ?_
      refine awp_block ?_
      have hi2 : i < l.length := by simpa using hc
      obtain ⟨o, hget⟩ := get_of_lt hi2
      have hnn : (0 : Int) ≤ (i : Int) := Int.natCast_nonneg i
      have hnx : IntKind.i64.wrap ((i : Int) + 1) = ((i + 1 : Nat) : Int) := by rw [Go.Ab.wrap_small (by omega) (by omega)]; rfl
      have hkeys := hse.1
      have hse2 := starts_snoc hse o
      have htk : l.take (i + 1) = l.take i ++ [o] := by rw [List.take_add_one, hget]; rfl
      rw [← htk] at hse2

      (refine awp_reg_seq [1, 3, 5, 7, 31, 32, 33] fun K hK => ?_; (repeat' ((first | refine al_r rfl fun K' hK' => ?_ | refine al_d rfl fun K' hK' => ?_); (repeat (first | (simp only [go_sem, simprocAttr, hget, hnn, hi2, hnx, Int.toNat_natCast, List.getElem?_map, Option.map_some, List.length_map, hkeys, Obj.row]) | refine AS.mk ?_)); ((first | refine hK' _ _ ?_ | refine ⟨?_, hK' _ _ ?_⟩) <;> clear hK' K' <;> (first | (show alist _ _ _ _ _ _; skip) | (simp; done))))); all_goals (refine al_nil ?_; (simp only [go_sem, simprocAttr, hget, hnn, hi2, hnx, Int.toNat_natCast, List.getElem?_map, Option.map_some, List.length_map, hkeys, Obj.row]); refine hK _ ?_; clear hK K))
      (refine awp_reg_end [1, 3, 5, 31, 32, 33] fun K hK => ?_; (repeat' ((first | refine al_r rfl fun K' hK' => ?_ | refine al_d rfl fun K' hK' => ?_); (repeat (simp only [go_sem, simprocAttr, hget, hnn, hi2, hnx, Int.toNat_natCast, List.getElem?_map, Option.map_some, List.length_map, hkeys, Obj.row])); ((refine hK' _ _ ?_) <;> clear hK' K'))); all_goals (refine al_nil ?_; (simp only [go_sem, simprocAttr, hget, hnn, hi2, hnx, Int.toNat_natCast, List.getElem?_map, Option.map_some, List.length_map, hkeys, Obj.row]); refine hK _ ?_; clear hK K))
      refine hK _ ?_; clear hK K
      (refine awp_reg_end [1, 3, 5, 31, 32, 33] fun K hK => ?_; (repeat' ((refine al_r rfl fun K' hK' => ?_); (repeat (simp only [go_sem, simprocAttr, hget, hnn, hi2, hnx, Int.toNat_natCast, List.getElem?_map, Option.map_some, List.length_map, hkeys, Obj.row])); ((refine hK' _ _ ?_) <;> clear hK' K'))); all_goals (refine al_nil ?_; (simp only [go_sem, simprocAttr, hget, hnn, hi2, hnx, Int.toNat_natCast, List.getElem?_map, Option.map_some, List.length_map, hkeys, Obj.row]); refine hK _ ?_; clear hK K))
      exact ⟨l.length - (i + 1), by omega, [1, 3, 5, 31, 32, 33], [0], by decide, by intro q hq; exact absurd hq (Nat.not_lt_zero q), i + 1, _, hi2, rfl, hse2, rfl⟩

    · have hie : i = l.length := by simp at hc; omega
      rw [hie, List.take_length] at hse
      clear hs0
      obtain ⟨beg, hbeg⟩ : ∃ beg, beg = begS (h.length : Int) l := ⟨_, rfl⟩
      rw [← hbeg] at hV
      have hmg : ∀ t, mget es t = if beg t then some (.lit (.bool true)) else none := by rw [hbeg]; exact hse.2
      have hkeys := hse.1
      clear hse hbeg
      obtain ⟨A, hA⟩ : ∃ A, decide (old < 0) = A := ⟨_, rfl⟩
      have hmo := hmg old
      obtain ⟨B, hB⟩ : ∃ B, beg old = B := ⟨_, rfl⟩
      rw [hB] at hmo
      rw [hA, hB] at hV

      refine awp_exit ?_
      clear hK
      refine hK _ ?_; clear hK K
      refine awp_seq_k fun K hK => ?_
      refine awp_reg_tov [1, 3, 5, 50] [(50, bD (A || !B))] (h := ?_) (k := ?_)
      · cases A <;> cases B
        all_goals ((repeat' (first | ((first | refine al_r rfl fun K' hK' => ?_ | refine al_t rfl rfl fun K' hK' => ?_); (repeat (simp only [go_sem, simprocAttr, List.length_map, hA, hkeys, hmo])); ((refine hK' _ _ ?_) <;> clear hK' K')) | refine al_e rfl rfl ?_)); all_goals (refine al_nil ?_; (simp only [go_sem, simprocAttr, List.length_map, hA, hkeys, hmo, *, Bool.and_true, Bool.and_false, Bool.true_and, Bool.false_and, Bool.or_true, Bool.true_or, Bool.or_false, Bool.false_or, Bool.not_true, Bool.not_false, Bool.false_eq_true]; done)))
      (intro K hK; (simp only [go_sem, simprocAttr, List.length_map, hA, hkeys, hmo]); refine hK _ ?_; clear hK K)
      refine awp_if (A || !B) rfl (fun hc => ?_) (fun hc => ?_)
      · (refine awp_reg_seq [2] fun K hK => ?_; (repeat' ((refine al_r rfl fun K' hK' => ?_); (repeat (simp only [go_sem, simprocAttr, List.length_map, hA, hkeys, hmo])); ((refine hK' _ _ ?_) <;> clear hK' K'))); all_goals (refine al_nil ?_; (simp only [go_sem, simprocAttr, List.length_map, hA, hkeys, hmo]); refine hK _ ?_; clear hK K))
        refine awp_ret ?_; (refine hR _ _ (.inl rfl) rfl ?_)
        rw [if_pos hc] at hV
        rw [hV]
        simp only [go_sem, simprocAttr, List.length_map, hA, hkeys, hmo]
      · rw [if_neg (by rw [hc]; simp)] at hV
        obtain ⟨X, hX⟩ : ∃ X, X = lateF old beg none late := ⟨_, rfl⟩
        rw [← hX] at hV

        refine awp_skip ?_
        refine hK _ ?_; clear hK K
        refine awp_seq_k fun K hK => ?_
        (refine awp_reg_seq [1, 3, 5, 52, 53, 54] fun K hK => ?_; (repeat' ((refine al_r rfl fun K' hK' => ?_); (repeat (simp only [go_sem, simprocAttr, List.length_map])); ((first | refine hK' _ _ ?_ | refine ⟨?_, hK' _ _ ?_⟩) <;> clear hK' K' <;> (first | (show alist _ _ _ _ _ _; skip) | (intro s hs; cases hs; done))))); all_goals (refine al_nil ?_; (simp only [go_sem, simprocAttr, List.length_map]); refine hK _ ?_; clear hK K))
        refine awp_block ?_
        -- loop 1 head [1, 3, 5, 52, 53, 54]
        refine awp_loop_cut (fun m s => ∃ (i : Nat) (pv : Option Int), i ≤ late.length ∧ m = late.length - i ∧ pv = (if i = 0 then none else late[i - 1]?) ∧ X = lateF old beg pv (late.drop i) ∧ s = ⟨ofL [(1, .rd [.sl (h.map wrow), .lit (.int .i64 old), .sl (late.map irow)] 0), (3, objs l), (5, .mp 0), (52, ints late), (53, iD late.length), (54, iD i)], [.map es], 0⟩) ⟨_, 0, _, Nat.zero_le _, rfl, rfl, hX, rfl⟩ ?_
        clear hX
        rintro m s ⟨i, pv, hi, hm, hpv, hX, rfl⟩
        (refine awp_reg_seq [1, 3, 5, 52, 53, 54, 55] fun K hK => ?_; (repeat' ((refine al_r rfl fun K' hK' => ?_); (repeat (simp only [go_sem, simprocAttr, List.length_map])); ((refine hK' _ _ ?_) <;> clear hK' K'))); all_goals (refine al_nil ?_; (simp only [go_sem, simprocAttr, List.length_map]); refine hK _ ?_; clear hK K))
        refine awp_seq_k fun K hK => ?_
        refine awp_if (decide ((i : Int) < (late.length : Int))) rfl (fun hc => ?_) (fun hc => ?_)
        · refine awp_skip ?_
          refine hK _ ?_; clear hK K
          refine awp_seq_k fun K hK => ?_
          refine awp_block ?_
          have hi2 : i < late.length := by simpa using hc
          obtain ⟨t, hget⟩ := get_of_lt hi2
          have hnn : (0 : Int) ≤ (i : Int) := Int.natCast_nonneg i
          have hnx : IntKind.i64.wrap ((i : Int) + 1) = ((i + 1 : Nat) : Int) := wrap_next hi2 hlate
          rw [drop_of hget] at hX
          have hX2 : X = ((decide (t ≥ old) || !beg t || prevB pv t) || lateF old beg (some t) (late.drop (i + 1))) := hX
          clear hX
          obtain ⟨I, p, hI, hp1, hb1, hb2, hpm⟩ : ∃ (I : Bool) (p : Int), decide ((i : Int) > 0) = I ∧ late[(IntKind.i64.wrap ((i : Int) - 1)).toNat]? = some p ∧ (I = true → 0 ≤ IntKind.i64.wrap ((i : Int) - 1)) ∧ (I = true → IntKind.i64.wrap ((i : Int) - 1) < (late.length : Int)) ∧ prevB pv t = (I && decide (p ≥ t)) := by
            rcases i with _ | k
            · refine ⟨false, t, rfl, ?_, fun h => (by cases h), fun h => (by cases h), (by rw [hpv]; rfl)⟩
              have : IntKind.i64.wrap (((0 : Nat) : Int) - 1) = -1 := by decide
              rw [this]; exact hget
            · obtain ⟨p, hp⟩ := get_of_lt (l := late) (i := k) (by omega)
              have hk : IntKind.i64.wrap (((k + 1 : Nat) : Int) - 1) = (k : Int) := by rw [Go.Ab.wrap_small (by omega) (by simp [maxLen] at hlate; omega)]; simp
              rw [hk]
              refine ⟨true, p, by simp, hp, fun _ => by omega, fun _ => by omega, ?_⟩
              rw [hpv, if_neg (by omega)]
              show prevB late[k]? t = _
              rw [hp]; simp [prevB]
          rw [hpm] at hX2
          clear hpm
          have hmt := hmg t
          obtain ⟨A, hA⟩ : ∃ A, decide (t ≥ old) = A := ⟨_, rfl⟩
          obtain ⟨B, hB⟩ : ∃ B, beg t = B := ⟨_, rfl⟩
          rw [hB] at hmt
          rw [hA, hB] at hX2

          (refine awp_reg_seq [1, 3, 5, 8, 9, 52, 53, 54] fun K hK => ?_; (repeat' ((refine al_r rfl fun K' hK' => ?_); (repeat (simp only [go_sem, simprocAttr, hget, hnn, hi2, hnx, Int.toNat_natCast, List.getElem?_map, Option.map_some, List.length_map, hkeys, hA, hI, hp1, hb1, hb2, hmt])); ((refine hK' _ _ ?_) <;> clear hK' K'))); all_goals (refine al_nil ?_; (simp only [go_sem, simprocAttr, hget, hnn, hi2, hnx, Int.toNat_natCast, List.getElem?_map, Option.map_some, List.length_map, hkeys, hA, hI, hp1, hb1, hb2, hmt]); refine hK _ ?_; clear hK K))
          refine awp_reg_tov [1, 3, 5, 52, 53, 54, 82] [(82, bD (A || !B || (I && decide (p ≥ t))))] (h := ?_) (k := ?_)
          · cases A <;> cases B <;> cases I
            all_goals ((repeat' (first | ((first | refine al_r rfl fun K' hK' => ?_ | refine al_t rfl rfl fun K' hK' => ?_); (repeat (simp only [go_sem, simprocAttr, hget, hnn, hi2, hnx, Int.toNat_natCast, List.getElem?_map, Option.map_some, List.length_map, hkeys, hA, hI, hp1, hb1, hb2, hmt])); ((refine hK' _ _ ?_) <;> clear hK' K')) | refine al_e rfl rfl ?_ | refine al_u rfl rfl ?_)); all_goals (refine al_nil ?_; (simp only [go_sem, simprocAttr, hget, hnn, hi2, hnx, Int.toNat_natCast, List.getElem?_map, Option.map_some, List.length_map, hkeys, hA, hI, hp1, hb1, hb2, hmt, *, Bool.and_true, Bool.and_false, Bool.true_and, Bool.false_and, Bool.or_true, Bool.true_or, Bool.or_false, Bool.false_or, Bool.not_true, Bool.not_false, Bool.false_eq_true]; done)))
          (intro K hK; (simp only [go_sem, simprocAttr, hget, hnn, hi2, hnx, Int.toNat_natCast, List.getElem?_map, Option.map_some, List.length_map, hkeys, hA, hI, hp1, hb1, hb2, hmt]); refine hK _ ?_; clear hK K)
          refine awp_if (A || !B || (I && decide (p ≥ t))) rfl (fun hc => ?_) (fun hc => ?_)
          · (refine awp_reg_seq [2] fun K hK => ?_; (repeat' ((refine al_r rfl fun K' hK' => ?_); (repeat (simp only [go_sem, simprocAttr, hget, hnn, hi2, hnx, Int.toNat_natCast, List.getElem?_map, Option.map_some, List.length_map, hkeys, hA, hI, hp1, hb1, hb2, hmt])); ((refine hK' _ _ ?_) <;> clear hK' K'))); all_goals (refine al_nil ?_; (simp only [go_sem, simprocAttr, hget, hnn, hi2, hnx, Int.toNat_natCast, List.getElem?_map, Option.map_some, List.length_map, hkeys, hA, hI, hp1, hb1, hb2, hmt]); refine hK _ ?_; clear hK K))
            refine awp_ret ?_; (refine hR _ _ (.inl rfl) rfl ?_)
            rw [hX2, hc, Bool.true_or, if_pos rfl] at hV
            rw [hV]
            simp only [go_sem, simprocAttr, hget, hnn, hi2, hnx, Int.toNat_natCast, List.getElem?_map, Option.map_some, List.length_map, hkeys, hA, hI, hp1, hb1, hb2, hmt]
          · rw [hc, Bool.false_or] at hX2
            refine awp_skip ?_
            refine hK _ ?_; clear hK K
            (refine awp_reg_end [1, 3, 5, 52, 53, 54] fun K hK => ?_; (repeat' ((refine al_r rfl fun K' hK' => ?_); (repeat (simp only [go_sem, simprocAttr, hget, hnn, hi2, hnx, Int.toNat_natCast, List.getElem?_map, Option.map_some, List.length_map, hkeys, hA, hI, hp1, hb1, hb2, hmt])); ((refine hK' _ _ ?_) <;> clear hK' K'))); all_goals (refine al_nil ?_; (simp only [go_sem, simprocAttr, hget, hnn, hi2, hnx, Int.toNat_natCast, List.getElem?_map, Option.map_some, List.length_map, hkeys, hA, hI, hp1, hb1, hb2, hmt]); refine hK _ ?_; clear hK K))
            exact ⟨late.length - (i + 1), by omega, [1, 3, 5, 52, 53, 54], [0], by decide, by intro q hq; exact absurd hq (Nat.not_lt_zero q), i + 1, some t, hi2, rfl, by rw [if_neg (by omega)]; exact hget.symm, hX2, rfl⟩

        · have hie : i = late.length := by simp at hc; omega
          rw [hie, List.drop_length] at hX
          have hX0 : X = false := by rw [hX]; cases pv <;> rfl
          rw [hX0, if_neg (by simp)] at hV
          refine awp_exit ?_
          clear hK
          refine hK _ ?_; clear hK K
          refine awp_seq_k fun K hK => ?_
          (refine awp_reg_seq [1, 5, 84, 85, 86] fun K hK => ?_; (repeat' ((refine al_r rfl fun K' hK' => ?_); (repeat (simp only [go_sem, simprocAttr, List.length_map])); ((first | refine hK' _ _ ?_ | refine ⟨?_, hK' _ _ ?_⟩) <;> clear hK' K' <;> (first | (show alist _ _ _ _ _ _; skip) | (intro s hs; cases hs; done))))); all_goals (refine al_nil ?_; (simp only [go_sem, simprocAttr, List.length_map]); refine hK _ ?_; clear hK K))
          refine awp_block ?_
          -- loop 2 head [1, 5, 84, 85, 86]
          refine awp_loop_cut (fun m s => ∃ i : Nat, i ≤ l.length ∧ m = l.length - i ∧ V = firstE (fun o => firstE (partE h.length old beg late o) o.parts) (l.drop i) ∧ s = ⟨ofL [(1, .rd [.sl (h.map wrow), .lit (.int .i64 old), .sl (late.map irow)] 0), (5, .mp 0), (84, objs l), (85, iD l.length), (86, iD i)], [.map es], 0⟩) ⟨_, 0, Nat.zero_le _, rfl, hV, rfl⟩ ?_
          clear hV
          rintro m s ⟨i, hi, hm, hV, rfl⟩
          (refine awp_reg_seq [1, 5, 84, 85, 86, 87] fun K hK => ?_; (repeat' ((refine al_r rfl fun K' hK' => ?_); (repeat (simp only [go_sem, simprocAttr, List.length_map])); ((refine hK' _ _ ?_) <;> clear hK' K'))); all_goals (refine al_nil ?_; (simp only [go_sem, simprocAttr, List.length_map]); refine hK _ ?_; clear hK K))
          refine awp_seq_k fun K hK => ?_
          refine awp_if (decide ((i : Int) < (l.length : Int))) rfl (fun hc => ?_) (fun hc => ?_)
          · refine awp_skip ?_
            refine hK _ ?_; clear hK K
            refine awp_seq_k fun K hK => ?_
            refine awp_block ?_
            have hi2 : i < l.length := by simpa using hc
            obtain ⟨o, hget⟩ := get_of_lt hi2
            have hnn : (0 : Int) ≤ (i : Int) := Int.natCast_nonneg i
            have hnx : IntKind.i64.wrap ((i : Int) + 1) = ((i + 1 : Nat) : Int) := by rw [Go.Ab.wrap_small (by omega) (by omega)]; rfl
            rw [drop_of hget] at hV
            obtain ⟨Y, hY⟩ : ∃ Y, Y = firstE (partE h.length old beg late o) o.parts := ⟨_, rfl⟩
            have hV2 : V = if Y != 0 then Y else firstE (fun o => firstE (partE h.length old beg late o) o.parts) (l.drop (i + 1)) := by rw [hV, hY]; rfl
            clear hV
            have hop := hp o (List.mem_of_getElem? hget)

            (refine awp_reg_seq [1, 5, 11, 84, 85, 86] fun K hK => ?_; (repeat' ((first | refine al_r rfl fun K' hK' => ?_ | refine al_d rfl fun K' hK' => ?_); (repeat (first | (simp only [go_sem, simprocAttr, hget, hnn, hi2, Int.toNat_natCast, List.getElem?_map, Option.map_some, List.length_map, Obj.row]) | refine AS.mk ?_)); ((first | refine hK' _ _ ?_ | refine ⟨?_, hK' _ _ ?_⟩) <;> clear hK' K' <;> (first | (show alist _ _ _ _ _ _; skip) | (simp; done))))); all_goals (refine al_nil ?_; (simp only [go_sem, simprocAttr, hget, hnn, hi2, Int.toNat_natCast, List.getElem?_map, Option.map_some, List.length_map, Obj.row]); refine hK _ ?_; clear hK K))
            (refine awp_frz [1, 5, 11, 84, 85, 86] [0] (by decide) (by (simp; done)) ?_; simp only [go_sem, simprocAttr, hget, hnn, hi2, Int.toNat_natCast, List.getElem?_map, Option.map_some, List.length_map, Obj.row])
            (refine awp_reg_seq [1, 5, 11, 84, 85, 86, 91, 92, 93] fun K hK => ?_; (repeat' ((refine al_r rfl fun K' hK' => ?_); (repeat (simp only [go_sem, simprocAttr, hget, hnn, hi2, Int.toNat_natCast, List.getElem?_map, Option.map_some, List.length_map, Obj.row])); ((first | refine hK' _ _ ?_ | refine ⟨?_, hK' _ _ ?_⟩) <;> clear hK' K' <;> (first | (show alist _ _ _ _ _ _; skip) | (intro s hs; cases hs; done))))); all_goals (refine al_nil ?_; (simp only [go_sem, simprocAttr, hget, hnn, hi2, Int.toNat_natCast, List.getElem?_map, Option.map_some, List.length_map, Obj.row]); refine hK _ ?_; clear hK K))
            refine awp_block ?_
            -- loop 3 head [1, 5, 11, 84, 85, 86, 91, 92, 93]
            refine awp_loop_cut (fun m s => ∃ j : Nat, j ≤ o.parts.length ∧ m = o.parts.length - j ∧ Y = firstE (partE h.length old beg late o) (o.parts.drop j) ∧ s = ⟨ofL [(1, .rd [.sl (h.map wrow), .lit (.int .i64 old), .sl (late.map irow)] 0), (5, .mp 0), (11, .rd [.lit (.int .i64 o.at_), .lit (.int .i64 o.kind), .lit (.int .i64 o.num), .lit (.string o.text), .sl (o.parts.map wrow)] 0), (84, objs l), (85, iD l.length), (86, iD i), (91, words o.parts), (92, iD o.parts.length), (93, iD j)], [.map es], 0⟩) ⟨_, 0, Nat.zero_le _, rfl, hY, rfl⟩ ?_
            clear hY
            rintro m s ⟨j, hj, hmj, hY, rfl⟩
            (refine awp_reg_seq [1, 5, 11, 84, 85, 86, 91, 92, 93, 94] fun K hK => ?_; (repeat' ((refine al_r rfl fun K' hK' => ?_); (repeat (simp only [go_sem, simprocAttr, hget, hnn, hi2, Int.toNat_natCast, List.getElem?_map, Option.map_some, List.length_map, Obj.row])); ((refine hK' _ _ ?_) <;> clear hK' K'))); all_goals (refine al_nil ?_; (simp only [go_sem, simprocAttr, hget, hnn, hi2, Int.toNat_natCast, List.getElem?_map, Option.map_some, List.length_map, Obj.row]); refine hK _ ?_; clear hK K))
            refine awp_seq_k fun K hK => ?_
            refine awp_if (decide ((j : Int) < (o.parts.length : Int))) rfl (fun hc => ?_) (fun hc => ?_)
            · refine awp_skip ?_
              refine hK _ ?_; clear hK K
              refine awp_seq_k fun K hK => ?_
              refine awp_block ?_
              have hj2 : j < o.parts.length := by simpa using hc
              obtain ⟨w, hgetw⟩ := get_of_lt hj2
              have hjn : (0 : Int) ≤ (j : Int) := Int.natCast_nonneg j
              have hjx : IntKind.i64.wrap ((j : Int) + 1) = ((j + 1 : Nat) : Int) := by rw [Go.Ab.wrap_small (by omega) (by omega)]; rfl
              rw [drop_of hgetw] at hY
              have hY2 : Y = if partE h.length old beg late o w != 0 then partE h.length old beg late o w else firstE (partE h.length old beg late o) (o.parts.drop (j + 1)) := hY
              clear hY
              have hpl := placeW w
              obtain ⟨W, hW⟩ : ∃ W, W = partE (h.length : Int) old beg late o w := ⟨_, rfl⟩
              rw [← hW] at hY2
              unfold partE at hW
              have hcon := contains late hlate o.at_
              rw [firstAt_nonneg] at hcon
              rw [show (late.any fun m => o.at_ == m) = hasI late o.at_ from rfl] at hcon
              generalize placeS w = P at hpl hW
              obtain ⟨at2, Is, pe⟩ := P
              simp only at hpl hW
              have hmt := hmg at2
              obtain ⟨E, hE⟩ : ∃ E, (pe != 0) = E := ⟨_, rfl⟩
              obtain ⟨Q, hQ⟩ : ∃ Q, (at2 == (h.length : Int)) = Q := ⟨_, rfl⟩
              obtain ⟨B, hB⟩ : ∃ B, beg at2 = B := ⟨_, rfl⟩
              obtain ⟨X1, hX1⟩ : ∃ X1, decide (o.at_ < old) = X1 := ⟨_, rfl⟩
              obtain ⟨Y1, hY1⟩ : ∃ Y1, decide (at2 ≥ old) = Y1 := ⟨_, rfl⟩
              generalize hasI late o.at_ = Z at hcon hW
              rw [hB] at hmt
              rw [hE, hQ, hB, hX1, hY1] at hW

              (refine awp_reg_seq [1, 5, 11, 13, 84, 85, 86, 91, 92, 93] fun K hK => ?_; (repeat' ((refine al_r rfl fun K' hK' => ?_); (repeat (simp only [go_sem, simprocAttr, hgetw, hjn, hj2, hjx, Int.toNat_natCast, List.getElem?_map, Option.map_some, List.length_map, hkeys, hE, hQ, hmt, hX1, hY1])); ((refine hK' _ _ ?_) <;> clear hK' K'))); all_goals (refine al_nil ?_; (simp only [go_sem, simprocAttr, hgetw, hjn, hj2, hjx, Int.toNat_natCast, List.getElem?_map, Option.map_some, List.length_map, hkeys, hE, hQ, hmt, hX1, hY1]); refine hK _ ?_; clear hK K))
              (refine awp_reg_seq [1, 5, 11, 14, 15, 16, 84, 85, 86, 91, 92, 93] fun K hK => ?_; (repeat' ((refine al_r rfl fun K' hK' => ?_); (repeat (simp only [go_sem, simprocAttr, hgetw, hjn, hj2, hjx, Int.toNat_natCast, List.getElem?_map, Option.map_some, List.length_map, hkeys, hE, hQ, hmt, hX1, hY1])); (first | ((refine hK' _ _ ?_) <;> clear hK' K') | ((show AC _ _ (D.fn 68 _) _ _); refine acall_p (f := 68) (e := rfl) (hr := rfl) (k := hK' _ _ ?_) (hc := Try.call68) (h := hpl); clear hK' K')))); all_goals (refine al_nil ?_; (simp only [go_sem, simprocAttr, hgetw, hjn, hj2, hjx, Int.toNat_natCast, List.getElem?_map, Option.map_some, List.length_map, hkeys, hE, hQ, hmt, hX1, hY1]); refine hK _ ?_; clear hK K))
              refine awp_seq_k fun K hK => ?_
              refine awp_reg_tov [1, 5, 11, 14, 15, 84, 85, 86, 91, 92, 93, 120] [(120, bD (E || (Is && (Q || !B))))] (h := ?_) (k := ?_)
              · cases E <;> cases Is <;> cases Q <;> cases B
                all_goals ((repeat' (first | ((first | refine al_r rfl fun K' hK' => ?_ | refine al_t rfl rfl fun K' hK' => ?_); (repeat (simp only [go_sem, simprocAttr, hgetw, hjn, hj2, hjx, Int.toNat_natCast, List.getElem?_map, Option.map_some, List.length_map, hkeys, hE, hQ, hmt, hX1, hY1])); ((first | refine hK' _ _ ?_ | refine ⟨?_, hK' _ _ ?_⟩) <;> clear hK' K' <;> (first | (show alist _ _ _ _ _ _; skip) | (intro s hs; cases hs; done)))) | refine al_e rfl rfl ?_ | refine al_u rfl rfl ?_)); all_goals (refine al_nil ?_; (simp only [go_sem, simprocAttr, hgetw, hjn, hj2, hjx, Int.toNat_natCast, List.getElem?_map, Option.map_some, List.length_map, hkeys, hE, hQ, hmt, hX1, hY1, *, Bool.and_true, Bool.and_false, Bool.true_and, Bool.false_and, Bool.or_true, Bool.true_or, Bool.or_false, Bool.false_or, Bool.not_true, Bool.not_false, Bool.false_eq_true]; done)))
              (intro K hK; (simp only [go_sem, simprocAttr, hgetw, hjn, hj2, hjx, Int.toNat_natCast, List.getElem?_map, Option.map_some, List.length_map, hkeys, hE, hQ, hmt, hX1, hY1]); refine hK _ ?_; clear hK K)
              refine awp_if (E || (Is && (Q || !B))) rfl (fun hc => ?_) (fun hc => ?_)
              · (refine awp_reg_seq [2] fun K hK => ?_; (repeat' ((refine al_r rfl fun K' hK' => ?_); (repeat (simp only [go_sem, simprocAttr, hgetw, hjn, hj2, hjx, Int.toNat_natCast, List.getElem?_map, Option.map_some, List.length_map, hkeys, hE, hQ, hmt, hX1, hY1])); ((refine hK' _ _ ?_) <;> clear hK' K'))); all_goals (refine al_nil ?_; (simp only [go_sem, simprocAttr, hgetw, hjn, hj2, hjx, Int.toNat_natCast, List.getElem?_map, Option.map_some, List.length_map, hkeys, hE, hQ, hmt, hX1, hY1]); refine hK _ ?_; clear hK K))
                refine awp_ret ?_; (refine hR _ _ (.inl rfl) rfl ?_)
                rw [if_pos hc] at hW
                rw [hW, if_pos (by decide)] at hY2
                rw [hY2, if_pos (by decide)] at hV2
                rw [hV2]
                simp only [go_sem, simprocAttr, hgetw, hjn, hj2, hjx, Int.toNat_natCast, List.getElem?_map, Option.map_some, List.length_map, hkeys, hE, hQ, hmt, hX1, hY1]
              · rw [if_neg (by rw [hc]; simp)] at hW
                refine awp_skip ?_
                refine hK _ ?_; clear hK K
                refine awp_reg_tov [1, 5, 11, 84, 85, 86, 91, 92, 93, 142] [(142, bD (Is && X1 && Y1 && !Z))] (h := ?_) (k := ?_)
                · cases Is <;> cases X1 <;> cases Y1
                  all_goals ((repeat' (first | ((first | refine al_r rfl fun K' hK' => ?_ | refine al_t rfl rfl fun K' hK' => ?_); (repeat (simp only [go_sem, simprocAttr, hgetw, hjn, hj2, hjx, Int.toNat_natCast, List.getElem?_map, Option.map_some, List.length_map, hkeys, hE, hQ, hmt, hX1, hY1])); (first | ((refine hK' _ _ ?_) <;> clear hK' K') | ((show AC _ _ (D.fn 32 _) _ _); refine acall_p (f := 32) (e := rfl) (hr := rfl) (k := hK' _ _ ?_) (hc := Try.call32) (h := hcon); clear hK' K'))) | refine al_e rfl rfl ?_)); all_goals (refine al_nil ?_; (simp only [go_sem, simprocAttr, hgetw, hjn, hj2, hjx, Int.toNat_natCast, List.getElem?_map, Option.map_some, List.length_map, hkeys, hE, hQ, hmt, hX1, hY1, *, Bool.and_true, Bool.and_false, Bool.true_and, Bool.false_and, Bool.or_true, Bool.true_or, Bool.or_false, Bool.false_or, Bool.not_true, Bool.not_false, Bool.false_eq_true]; done)))
                (intro K hK; (simp only [go_sem, simprocAttr, hgetw, hjn, hj2, hjx, Int.toNat_natCast, List.getElem?_map, Option.map_some, List.length_map, hkeys, hE, hQ, hmt, hX1, hY1]); refine hK _ ?_; clear hK K)
                refine awp_if (Is && X1 && Y1 && !Z) rfl (fun hc => ?_) (fun hc => ?_)
                · (refine awp_reg_seq [2] fun K hK => ?_; (repeat' ((refine al_r rfl fun K' hK' => ?_); (repeat (simp only [go_sem, simprocAttr, hgetw, hjn, hj2, hjx, Int.toNat_natCast, List.getElem?_map, Option.map_some, List.length_map, hkeys, hE, hQ, hmt, hX1, hY1])); ((refine hK' _ _ ?_) <;> clear hK' K'))); all_goals (refine al_nil ?_; (simp only [go_sem, simprocAttr, hgetw, hjn, hj2, hjx, Int.toNat_natCast, List.getElem?_map, Option.map_some, List.length_map, hkeys, hE, hQ, hmt, hX1, hY1]); refine hK _ ?_; clear hK K))
                  refine awp_ret ?_; (refine hR _ _ (.inl rfl) rfl ?_)
                  rw [if_pos hc] at hW
                  rw [hW, if_pos (by decide)] at hY2
                  rw [hY2, if_pos (by decide)] at hV2
                  rw [hV2]
                  simp only [go_sem, simprocAttr, hgetw, hjn, hj2, hjx, Int.toNat_natCast, List.getElem?_map, Option.map_some, List.length_map, hkeys, hE, hQ, hmt, hX1, hY1]
                · rw [if_neg (by rw [hc]; simp)] at hW
                  rw [hW, if_neg (by decide)] at hY2
                  refine awp_skip ?_
                  refine hK _ ?_; clear hK K
                  (refine awp_reg_end [1, 5, 11, 84, 85, 86, 91, 92, 93] fun K hK => ?_; (repeat' ((refine al_r rfl fun K' hK' => ?_); (repeat (simp only [go_sem, simprocAttr, hgetw, hjn, hj2, hjx, Int.toNat_natCast, List.getElem?_map, Option.map_some, List.length_map, hkeys, hE, hQ, hmt, hX1, hY1])); ((refine hK' _ _ ?_) <;> clear hK' K'))); all_goals (refine al_nil ?_; (simp only [go_sem, simprocAttr, hgetw, hjn, hj2, hjx, Int.toNat_natCast, List.getElem?_map, Option.map_some, List.length_map, hkeys, hE, hQ, hmt, hX1, hY1]); refine hK _ ?_; clear hK K))
                  exact ⟨o.parts.length - (j + 1), by omega, [1, 5, 11, 84, 85, 86, 91, 92, 93], [0], by decide, by intro q hq; exact absurd hq (Nat.not_lt_zero q), j + 1, hj2, rfl, hY2, rfl⟩

            · have hje : j = o.parts.length := by simp at hc; omega
              rw [hje, List.drop_length] at hY
              have hY0 : Y = 0 := hY
              rw [hY0, if_neg (by decide)] at hV2
              refine awp_exit ?_
              clear hK
              refine hK _ ?_; clear hK K
              (refine awp_reg_end [1, 5, 84, 85, 86] fun K hK => ?_; (repeat' ((refine al_r rfl fun K' hK' => ?_); (repeat (simp only [go_sem, simprocAttr, hnx])); ((refine hK' _ _ ?_) <;> clear hK' K'))); all_goals (refine al_nil ?_; (simp only [go_sem, simprocAttr, hnx]); refine hK _ ?_; clear hK K))
              exact ⟨l.length - (i + 1), by omega, [1, 5, 84, 85, 86], [0], by decide, by intro q hq; exact absurd hq (Nat.not_lt_zero q), i + 1, hi2, rfl, hV2, rfl⟩

          · have hie : i = l.length := by simp at hc; omega
            rw [hie, List.drop_length] at hV
            have hV0 : V = 0 := hV
            refine awp_exit ?_
            clear hK
            refine hK _ ?_; clear hK K
            (refine awp_reg_seq [2] fun K hK => ?_; (repeat' ((refine al_r rfl fun K' hK' => ?_); (repeat (simp only [go_sem, simprocAttr, List.length_map])); ((refine hK' _ _ ?_) <;> clear hK' K'))); all_goals (refine al_nil ?_; (simp only [go_sem, simprocAttr, List.length_map]); refine hK _ ?_; clear hK K))
            refine awp_ret ?_; (refine hR _ _ (.inl rfl) rfl ?_)
            rw [hV0]
            simp only [go_sem, simprocAttr, List.length_map]
end Go.Proofs.Ytagphggcdmjlpaa.P

/- Does an object begin at a place; do words name objects: contracts. -/
namespace Go.Proofs.Ytagphggcdmjlpaa.P
open Go.Ab Go.Proofs.Ytagphggcdmjlpaa.T


theorem indexO (ls : List Obj) (hlen : ls.length ≤ maxLen) (f : FuncId) (caps : List D) (p : Obj → Bool) (obs : List Ob) (ids : List Nat) (hub : ∀ o, o ∈ obs → o ≠ .unborn) (hd : ids.Nodup) (hp : ∀ k, k < obs.length → ids[k]? = some k)
    (hcap : caps.map (D.map (ren1 ids)) = caps) (hob : newObs obs ids = obs) (hm : merge obs ids obs = obs) (hlt : ∀ i, i ∈ ids → i < obs.length) (hl : ids.length ≤ obs.length)
    (hcf : ∀ args w, (callFunc f args).run Try.prog w = .ok (.enter f args) w) (h : ∀ n, n ∈ ls → ACallO Try.prog f (objD n :: caps) obs (bD (p n))) :
    ACallO Try.prog 110 [objs ls, .fn f caps] obs (iD (firstAt p ls)) := by
  refine acallo_fn [4] ids Try.func110 rfl rfl Try.ntmps110 (by simp) hub hd hp fun R hR => ?_
  (refine awp_reg_seq [0, 1] fun K hK => ?_; (repeat' ((refine al_r rfl fun K' hK' => ?_); (repeat (simp only [go_sem, simprocAttr, List.length_map])); ((refine hK' _ _ ?_) <;> clear hK' K'))); all_goals (refine al_nil ?_; (simp only [go_sem, simprocAttr, List.length_map]); refine hK _ ?_; clear hK K))
  refine awp_seq_k fun K hK => ?_
  (refine awp_reg_seq [0, 1, 7, 8] fun K hK => ?_; (repeat' ((refine al_r rfl fun K' hK' => ?_); (repeat (simp only [go_sem, simprocAttr, List.length_map])); ((first | refine hK' _ _ ?_ | refine ⟨?_, hK' _ _ ?_⟩) <;> clear hK' K' <;> (first | (show alist _ _ _ _ _ _; skip) | (intro s hs; cases hs; done))))); all_goals (refine al_nil ?_; (simp only [go_sem, simprocAttr, List.length_map]); refine hK _ ?_; clear hK K))
  refine awp_block ?_
  refine awp_loop (fun m s => ∃ i : Nat, i ≤ ls.length ∧ m = ls.length - i ∧ (∀ j, j < i → ∀ y, ls[j]? = some y → p y = false) ∧ s = ⟨ofL [(0, objs ls), (1, .fn f caps), (7, iD ls.length), (8, iD i)], obs, obs.length⟩) ⟨_, 0, Nat.zero_le _, rfl, fun j hj => absurd hj (by omega), rfl⟩ ?_
  rintro m s ⟨i, hi, rfl, hbefore, rfl⟩
  (refine awp_reg_seq [0, 1, 7, 8, 9] fun K hK => ?_; (repeat' ((refine al_r rfl fun K' hK' => ?_); (repeat (simp only [go_sem, simprocAttr, List.length_map])); ((refine hK' _ _ ?_) <;> clear hK' K'))); all_goals (refine al_nil ?_; (simp only [go_sem, simprocAttr, List.length_map]); refine hK _ ?_; clear hK K))
  refine awp_seq_k fun K hK => ?_
  refine awp_if (decide ((i : Int) < ls.length)) rfl (fun hc => ?_) (fun hc => ?_)
  · refine awp_skip ?_
    refine hK _ ?_; clear hK K
    have hi2 : i < ls.length := by simpa using hc
    obtain ⟨n, hget⟩ : ∃ n, ls[i]? = some n := ⟨_, List.getElem?_eq_getElem hi2⟩
    have hnn : (0 : Int) ≤ (i : Int) := Int.natCast_nonneg i

    refine awp_seq_k fun K hK => ?_
    refine awp_block ?_
    (refine awp_reg_seq [0, 1, 5, 7, 8] fun K hK => ?_; (repeat' ((refine al_r rfl fun K' hK' => ?_); (repeat (simp only [go_sem, simprocAttr, hget, hnn, List.getElem?_map, Int.toNat_natCast, Option.map_some, Obj.row])); ((refine hK' _ _ ?_) <;> clear hK' K'))); all_goals (refine al_nil ?_; (simp only [go_sem, simprocAttr, hget, hnn, List.getElem?_map, Int.toNat_natCast, Option.map_some, Obj.row]); refine hK _ ?_; clear hK K))
    refine awp_reg_seq [0, 1, 5, 7, 8, 16] fun K hK => ?_
    repeat' ((refine al_r rfl fun K' hK' => ?_); (repeat (simp only [go_sem, simprocAttr, hget, hnn, List.getElem?_map, Int.toNat_natCast, Option.map_some, Obj.row])); ((refine hK' _ _ ?_) <;> clear hK' K'))
    · refine al_run rfl rfl (by decide) fun K' hK' => ?_
      simp only [go_sem, simprocAttr, hget, hnn, List.getElem?_map, Int.toNat_natCast, Option.map_some, Obj.row]
      refine acall_o ids hcf (h n (List.mem_of_getElem? hget)) (by simpa [D.map, D.mapL, ren1] using hcap) hob hm hd hlt hl rfl (hK' _ _ ?_)
      clear hK' K'
      (refine al_nil ?_; (simp only [go_sem, simprocAttr, hget, hnn, List.getElem?_map, Int.toNat_natCast, Option.map_some, Obj.row]); refine hK _ ?_; clear hK K)
      refine awp_if (p n) rfl (fun hc => ?_) (fun hc => ?_)
      · (refine awp_reg_seq [4] fun K hK => ?_; (repeat' ((refine al_r rfl fun K' hK' => ?_); (repeat (simp only [go_sem, simprocAttr, hget, hnn, List.getElem?_map, Int.toNat_natCast, Option.map_some, Obj.row])); ((refine hK' _ _ ?_) <;> clear hK' K'))); all_goals (refine al_nil ?_; (simp only [go_sem, simprocAttr, hget, hnn, List.getElem?_map, Int.toNat_natCast, Option.map_some, Obj.row]); refine hK _ ?_; clear hK K))
        refine awp_ret ?_; (refine hR _ _ (.inl rfl) rfl ?_ ?_)
        · simp only [go_sem, simprocAttr, hget, hnn, List.getElem?_map, Int.toNat_natCast, Option.map_some, Obj.row]
          rw [firstAt_at hbefore hget hc]
        · exact hob
      · have hpn := hc
        refine awp_skip ?_
        refine hK _ ?_; clear hK K
        (refine awp_reg_end [0, 1, 7, 8] fun K hK => ?_; (repeat' ((refine al_r rfl fun K' hK' => ?_); (repeat (simp only [go_sem, simprocAttr, hget, hnn, List.getElem?_map, Int.toNat_natCast, Option.map_some, Obj.row])); ((refine hK' _ _ ?_) <;> clear hK' K'))); all_goals (refine al_nil ?_; (simp only [go_sem, simprocAttr, hget, hnn, List.getElem?_map, Int.toNat_natCast, Option.map_some, Obj.row]); refine hK _ ?_; clear hK K))
        refine ⟨_, ?_, i + 1, hi2, rfl, ?_, ?_⟩
        · omega
        · intro j hj y hy
          by_cases e : j = i
          · subst e; rw [hget] at hy; cases hy; exact hpn
          · exact hbefore j (by omega) y hy
        · rw [wrap_next hi2 hlen]

  · refine awp_exit ?_
    clear hK
    refine hK _ ?_; clear hK K
    have hi2 : i = ls.length := by simp at hc; omega
    (refine awp_reg_seq [4] fun K hK => ?_; (repeat' ((refine al_r rfl fun K' hK' => ?_); (repeat (simp only [go_sem, simprocAttr, List.length_map])); ((refine hK' _ _ ?_) <;> clear hK' K'))); all_goals (refine al_nil ?_; (simp only [go_sem, simprocAttr, List.length_map]); refine hK _ ?_; clear hK K))
    refine awp_ret ?_; (refine hR _ _ (.inl rfl) rfl ?_ ?_)
    · simp only [go_sem, simprocAttr, List.length_map]
      rw [firstAt_none fun j y hy => hbefore j (by
        rcases Nat.lt_or_ge j ls.length with h' | h'
        · omega
        · simp [List.getElem?_eq_none h'] at hy) y hy]
    · exact hob





theorem begClo (o : Obj) (a : Int) : ACallP Try.prog 92 [objD o, .rd [.lit (.int .i64 a)] 0] (bD (o.at_ == a)) := by
  refine acallp_fn [3] Try.func92 rfl rfl Try.ntmps92 (by simp) fun R hR => ?_
  (refine awp_reg_seq [1, 2] fun K hK => ?_; (repeat' ((refine al_r rfl fun K' hK' => ?_); (repeat (simp only [go_sem, simprocAttr])); ((refine hK' _ _ ?_) <;> clear hK' K'))); all_goals (refine al_nil ?_; (simp only [go_sem, simprocAttr]); refine hK _ ?_; clear hK K))
  (refine awp_frz [1, 2] [] (by decide) (by (simp; done)) ?_; simp only [go_sem, simprocAttr])
  (refine awp_reg_seq [3] fun K hK => ?_; (repeat' ((refine al_r rfl fun K' hK' => ?_); (repeat (simp only [go_sem, simprocAttr])); ((refine hK' _ _ ?_) <;> clear hK' K'))); all_goals (refine al_nil ?_; (simp only [go_sem, simprocAttr]); refine hK _ ?_; clear hK K))
  all_goals (refine awp_ret ?_; (refine hR _ _ (.inl rfl) rfl ?_); (simp only [go_sem, simprocAttr, *, Bool.and_true, Bool.and_false, Bool.true_and, Bool.false_and, Bool.or_true, Bool.true_or, Bool.or_false, Bool.false_or, Bool.not_true, Bool.not_false, Bool.false_eq_true]; done))


theorem begAny (l : List Obj) (hlen : l.length ≤ maxLen) (a : Int) : ACallP Try.prog 91 [objs l, .fn 92 [.rd [.lit (.int .i64 a)] 0]] (bD (l.any fun o => o.at_ == a)) := by
  have hix := (indexO l hlen 92 [.rd [.lit (.int .i64 a)] 0] (fun o => o.at_ == a) [] [] (by simp) (by simp) (by simp) rfl rfl rfl (by simp) (by simp) Try.call92 fun o _ => (begClo o a).o).p
  have hn := firstAt_nonneg (p := fun o : Obj => o.at_ == a) (l := l)
  rw [← hn]
  refine acallp_fn [4] Try.func91 rfl rfl Try.ntmps91 (by simp) fun R hR => ?_
  (refine awp_reg_seq [0, 1] fun K hK => ?_; (repeat' ((refine al_r rfl fun K' hK' => ?_); (repeat (simp only [go_sem, simprocAttr])); ((refine hK' _ _ ?_) <;> clear hK' K'))); all_goals (refine al_nil ?_; (simp only [go_sem, simprocAttr]); refine hK _ ?_; clear hK K))
  (refine awp_reg_seq [4] fun K hK => ?_; (repeat' ((refine al_r rfl fun K' hK' => ?_); (repeat (simp only [go_sem, simprocAttr])); (first | ((refine hK' _ _ ?_) <;> clear hK' K') | ((show AC _ _ (D.fn 110 _) _ _); refine acall_p (f := 110) (e := rfl) (hr := rfl) (k := hK' _ _ ?_) (hc := Try.call110) (h := hix); clear hK' K')))); all_goals (refine al_nil ?_; (simp only [go_sem, simprocAttr]); refine hK _ ?_; clear hK K))
  all_goals (refine awp_ret ?_; (refine hR _ _ (.inl rfl) rfl ?_); (simp only [go_sem, simprocAttr, *, Bool.and_true, Bool.and_false, Bool.true_and, Bool.false_and, Bool.or_true, Bool.true_or, Bool.or_false, Bool.false_or, Bool.not_true, Bool.not_false, Bool.false_eq_true]; done))


theorem begins (h : List Int) (l : List Obj) (e a : Int) (hob : ACallP Try.prog 15 [words h] (.tup [objs l, iD e])) (hl : l.length ≤ maxLen) : ACallP Try.prog 67 [words h, iD a] (bD (l.any fun o => o.at_ == a)) := by
  have hba := begAny l hl a
  refine acallp_fn [4] Try.func67 rfl rfl Try.ntmps67 (by simp) fun R hR => ?_
  (refine awp_reg_seq [0, 3] fun K hK => ?_; (repeat' ((refine al_r rfl fun K' hK' => ?_); (repeat (simp only [go_sem, simprocAttr])); ((refine hK' _ _ ?_) <;> clear hK' K'))); all_goals (refine al_nil ?_; (simp only [go_sem, simprocAttr]); refine hK _ ?_; clear hK K))
  (refine awp_reg_seq [3, 5] fun K hK => ?_; (repeat' ((refine al_r rfl fun K' hK' => ?_); (repeat (simp only [go_sem, simprocAttr])); (first | ((refine hK' _ _ ?_) <;> clear hK' K') | ((show AC _ _ (D.fn 15 _) _ _); refine acall_p (f := 15) (e := rfl) (hr := rfl) (k := hK' _ _ ?_) (hc := Try.call15) (h := hob); clear hK' K')))); all_goals (refine al_nil ?_; (simp only [go_sem, simprocAttr]); refine hK _ ?_; clear hK K))
  (refine awp_frz [3, 5] [] (by decide) (by (simp; done)) ?_; simp only [go_sem, simprocAttr])
  (refine awp_reg_seq [4] fun K hK => ?_; (repeat' ((refine al_r rfl fun K' hK' => ?_); (repeat (simp only [go_sem, simprocAttr])); (first | ((refine hK' _ _ ?_) <;> clear hK' K') | ((show AC _ _ (D.fn 91 _) _ _); refine acall_p (f := 91) (e := rfl) (hr := rfl) (k := hK' _ _ ?_) (hc := Try.call91) (h := hba); clear hK' K')))); all_goals (refine al_nil ?_; (simp only [go_sem, simprocAttr]); refine hK _ ?_; clear hK K))
  all_goals (refine awp_ret ?_; (refine hR _ _ (.inl rfl) rfl ?_); (simp only [go_sem, simprocAttr, *, Bool.and_true, Bool.and_false, Bool.true_and, Bool.false_and, Bool.or_true, Bool.true_or, Bool.or_false, Bool.false_or, Bool.not_true, Bool.not_false, Bool.false_eq_true]; done))

/-- What named finds of one word. -/
def nameE (h : List Int) (l : List Obj) (w : Int) : Int :=
  if (placeS w).2.2 != 0 then (placeS w).2.2 else if ((placeS w).2.1 && (atS h (placeS w).1).2 != 0) || ((placeS w).2.1 && !(l.any fun o => o.at_ == (placeS w).1)) then 4 else 0


theorem namedBad (h : List Int) (old e : Int) (late ws : List Int) (he : (e != 0) = true) (hck : ACallP Try.prog 35 [agesD h old late] (iD e)) : ACallP Try.prog 66 [agesD h old late, words ws] (iD e) := by
  refine acallp_fn [4] Try.func66 rfl rfl Try.ntmps66 (by simp) fun R hR => ?_
  (refine awp_reg_seq [1, 2] fun K hK => ?_; (repeat' ((refine al_r rfl fun K' hK' => ?_); (repeat (simp only [go_sem, simprocAttr, he])); ((refine hK' _ _ ?_) <;> clear hK' K'))); all_goals (refine al_nil ?_; (simp only [go_sem, simprocAttr, he]); refine hK _ ?_; clear hK K))
  (refine awp_frz [1, 2] [] (by decide) (by (simp; done)) ?_; simp only [go_sem, simprocAttr, he])
  refine awp_seq_k fun K hK => ?_
  (refine awp_reg_seq [1, 2, 5] fun K hK => ?_; (repeat' ((refine al_r rfl fun K' hK' => ?_); (repeat (simp only [go_sem, simprocAttr, he])); (first | ((refine hK' _ _ ?_) <;> clear hK' K') | ((show AC _ _ (D.fn 35 _) _ _); refine acall_p (f := 35) (e := rfl) (hr := rfl) (k := hK' _ _ ?_) (hc := Try.call35) (h := hck); clear hK' K')))); all_goals (refine al_nil ?_; (simp only [go_sem, simprocAttr, he]); refine hK _ ?_; clear hK K))
  (refine awp_reg_seq [1, 2, 5, 16] fun K hK => ?_; (repeat' ((refine al_r rfl fun K' hK' => ?_); (repeat (simp only [go_sem, simprocAttr, he])); ((refine hK' _ _ ?_) <;> clear hK' K'))); all_goals (refine al_nil ?_; (simp only [go_sem, simprocAttr, he]); refine hK _ ?_; clear hK K))
  refine awp_if (_) rfl (fun hc => ?_) (fun hc => ?_)
  · (refine awp_reg_seq [4] fun K hK => ?_; (repeat' ((refine al_r rfl fun K' hK' => ?_); (repeat (simp only [go_sem, simprocAttr, he])); ((refine hK' _ _ ?_) <;> clear hK' K'))); all_goals (refine al_nil ?_; (simp only [go_sem, simprocAttr, he]); refine hK _ ?_; clear hK K))
    all_goals (refine awp_ret ?_; (refine hR _ _ (.inl rfl) rfl ?_); (simp only [go_sem, simprocAttr, he, *, Bool.and_true, Bool.and_false, Bool.true_and, Bool.false_and, Bool.or_true, Bool.true_or, Bool.or_false, Bool.false_or, Bool.not_true, Bool.not_false, Bool.false_eq_true]; done))
  · cases hc


theorem namedGood (h : List Int) (old e : Int) (late ws : List Int) (l : List Obj) (hck : ACallP Try.prog 35 [agesD h old late] (iD 0)) (hob : ACallP Try.prog 15 [words h] (.tup [objs l, iD e])) (hl : l.length ≤ maxLen)
    (hlen : h.length ≤ maxLen) (hok : ∀ w, w ∈ h → WordOk w) (hws : ws.length ≤ maxLen) : ACallP Try.prog 66 [agesD h old late, words ws] (iD (firstE (nameE h l) ws)) := by
  obtain ⟨V, hV⟩ : ∃ V, V = firstE (nameE h l) ws := ⟨_, rfl⟩
  rw [← hV]
  refine acallp_fn [4] Try.func66 rfl rfl Try.ntmps66 (by simp) fun R hR => ?_
  (refine awp_reg_seq [1, 2] fun K hK => ?_; (repeat' ((refine al_r rfl fun K' hK' => ?_); (repeat (simp only [go_sem, simprocAttr, List.length_map, bne_self_eq_false])); ((refine hK' _ _ ?_) <;> clear hK' K'))); all_goals (refine al_nil ?_; (simp only [go_sem, simprocAttr, List.length_map, bne_self_eq_false]); refine hK _ ?_; clear hK K))
  (refine awp_frz [1, 2] [] (by decide) (by (simp; done)) ?_; simp only [go_sem, simprocAttr, List.length_map, bne_self_eq_false])
  refine awp_seq_k fun K hK => ?_
  (refine awp_reg_seq [1, 2, 5] fun K hK => ?_; (repeat' ((refine al_r rfl fun K' hK' => ?_); (repeat (simp only [go_sem, simprocAttr, List.length_map, bne_self_eq_false])); (first | ((refine hK' _ _ ?_) <;> clear hK' K') | ((show AC _ _ (D.fn 35 _) _ _); refine acall_p (f := 35) (e := rfl) (hr := rfl) (k := hK' _ _ ?_) (hc := Try.call35) (h := hck); clear hK' K')))); all_goals (refine al_nil ?_; (simp only [go_sem, simprocAttr, List.length_map, bne_self_eq_false]); refine hK _ ?_; clear hK K))
  (refine awp_reg_seq [1, 2, 5, 16] fun K hK => ?_; (repeat' ((refine al_r rfl fun K' hK' => ?_); (repeat (simp only [go_sem, simprocAttr, List.length_map, bne_self_eq_false])); ((refine hK' _ _ ?_) <;> clear hK' K'))); all_goals (refine al_nil ?_; (simp only [go_sem, simprocAttr, List.length_map, bne_self_eq_false]); refine hK _ ?_; clear hK K))
  refine awp_if (_) rfl (fun hc => ?_) (fun hc => ?_)
  · cases hc
  · refine awp_skip ?_
    refine hK _ ?_; clear hK K
    refine awp_seq_k fun K hK => ?_
    (refine awp_reg_seq [2, 18, 19, 20] fun K hK => ?_; (repeat' ((refine al_r rfl fun K' hK' => ?_); (repeat (simp only [go_sem, simprocAttr, List.length_map, bne_self_eq_false])); ((first | refine hK' _ _ ?_ | refine ⟨?_, hK' _ _ ?_⟩) <;> clear hK' K' <;> (first | (show alist _ _ _ _ _ _; skip) | (intro s hs; cases hs; done))))); all_goals (refine al_nil ?_; (simp only [go_sem, simprocAttr, List.length_map, bne_self_eq_false]); refine hK _ ?_; clear hK K))
    refine awp_block ?_
    -- loop 0 head [2, 18, 19, 20]
    refine awp_loop_cut (fun m s => ∃ i : Nat, i ≤ ws.length ∧ m = ws.length - i ∧ V = firstE (nameE h l) (ws.drop i) ∧ s = ⟨ofL [(2, .rd [.sl (h.map wrow), .lit (.int .i64 old), .sl (late.map irow)] 0), (18, words ws), (19, iD ws.length), (20, iD i)], [], 0⟩) ⟨_, 0, Nat.zero_le _, rfl, hV, rfl⟩ ?_
    clear hV
    rintro m s ⟨i, hi, hm, hV, rfl⟩
    (refine awp_reg_seq [2, 18, 19, 20, 21] fun K hK => ?_; (repeat' ((refine al_r rfl fun K' hK' => ?_); (repeat (simp only [go_sem, simprocAttr, List.length_map, bne_self_eq_false])); ((refine hK' _ _ ?_) <;> clear hK' K'))); all_goals (refine al_nil ?_; (simp only [go_sem, simprocAttr, List.length_map, bne_self_eq_false]); refine hK _ ?_; clear hK K))
    refine awp_seq_k fun K hK => ?_
    refine awp_if (decide ((i : Int) < (ws.length : Int))) rfl (fun hc => ?_) (fun hc => ?_)
    · refine awp_skip ?_
      refine hK _ ?_; clear hK K
      refine awp_seq_k fun K hK => ?_
      refine awp_block ?_
      have hi2 : i < ws.length := by simpa using hc
      obtain ⟨w, hget⟩ := get_of_lt hi2
      have hnn : (0 : Int) ≤ (i : Int) := Int.natCast_nonneg i
      have hnx : IntKind.i64.wrap ((i : Int) + 1) = ((i + 1 : Nat) : Int) := wrap_next hi2 hws
      rw [drop_of hget] at hV
      obtain ⟨W, hW⟩ : ∃ W, W = nameE h l w := ⟨_, rfl⟩
      have hV2 : V = if W != 0 then W else firstE (nameE h l) (ws.drop (i + 1)) := by rw [hV, hW]; rfl
      clear hV
      unfold nameE at hW
      have hpl := placeW w
      generalize placeS w = P at hpl hW
      obtain ⟨at2, Is, pe⟩ := P
      simp only at hpl hW
      have hat := at_ h at2 hlen hok
      have hbe := begins h l e at2 hob hl
      generalize (l.any fun o => o.at_ == at2) = B at hbe hW
      generalize atS h at2 = Q at hat hW
      obtain ⟨o, ae⟩ := Q
      simp only at hat hW
      obtain ⟨E, hE⟩ : ∃ E, (ae != 0) = E := ⟨_, rfl⟩
      rw [hE] at hW

      (refine awp_reg_seq [2, 7, 18, 19, 20] fun K hK => ?_; (repeat' ((refine al_r rfl fun K' hK' => ?_); (repeat (simp only [go_sem, simprocAttr, hget, hnn, hi2, hnx, Int.toNat_natCast, List.getElem?_map, Option.map_some, List.length_map, hE])); ((refine hK' _ _ ?_) <;> clear hK' K'))); all_goals (refine al_nil ?_; (simp only [go_sem, simprocAttr, hget, hnn, hi2, hnx, Int.toNat_natCast, List.getElem?_map, Option.map_some, List.length_map, hE]); refine hK _ ?_; clear hK K))
      (refine awp_reg_seq [2, 8, 9, 10, 18, 19, 20] fun K hK => ?_; (repeat' ((refine al_r rfl fun K' hK' => ?_); (repeat (simp only [go_sem, simprocAttr, hget, hnn, hi2, hnx, Int.toNat_natCast, List.getElem?_map, Option.map_some, List.length_map, hE])); (first | ((refine hK' _ _ ?_) <;> clear hK' K') | ((show AC _ _ (D.fn 68 _) _ _); refine acall_p (f := 68) (e := rfl) (hr := rfl) (k := hK' _ _ ?_) (hc := Try.call68) (h := hpl); clear hK' K')))); all_goals (refine al_nil ?_; (simp only [go_sem, simprocAttr, hget, hnn, hi2, hnx, Int.toNat_natCast, List.getElem?_map, Option.map_some, List.length_map, hE]); refine hK _ ?_; clear hK K))
      refine awp_seq_k fun K hK => ?_
      (refine awp_reg_seq [2, 8, 9, 10, 18, 19, 20, 31] fun K hK => ?_; (repeat' ((refine al_r rfl fun K' hK' => ?_); (repeat (simp only [go_sem, simprocAttr, hget, hnn, hi2, hnx, Int.toNat_natCast, List.getElem?_map, Option.map_some, List.length_map, hE])); ((refine hK' _ _ ?_) <;> clear hK' K'))); all_goals (refine al_nil ?_; (simp only [go_sem, simprocAttr, hget, hnn, hi2, hnx, Int.toNat_natCast, List.getElem?_map, Option.map_some, List.length_map, hE]); refine hK _ ?_; clear hK K))
      refine awp_if (pe != 0) rfl (fun hc => ?_) (fun hc => ?_)
      · (refine awp_reg_seq [4] fun K hK => ?_; (repeat' ((refine al_r rfl fun K' hK' => ?_); (repeat (simp only [go_sem, simprocAttr, hget, hnn, hi2, hnx, Int.toNat_natCast, List.getElem?_map, Option.map_some, List.length_map, hE])); ((refine hK' _ _ ?_) <;> clear hK' K'))); all_goals (refine al_nil ?_; (simp only [go_sem, simprocAttr, hget, hnn, hi2, hnx, Int.toNat_natCast, List.getElem?_map, Option.map_some, List.length_map, hE]); refine hK _ ?_; clear hK K))
        refine awp_ret ?_; (refine hR _ _ (.inl rfl) rfl ?_)
        rw [if_pos hc] at hW
        rw [hW, if_pos hc] at hV2
        rw [hV2]
        simp only [go_sem, simprocAttr, hget, hnn, hi2, hnx, Int.toNat_natCast, List.getElem?_map, Option.map_some, List.length_map, hE]
      · rw [if_neg (by rw [hc]; simp)] at hW
        refine awp_skip ?_
        refine hK _ ?_; clear hK K
        (refine awp_reg_seq [2, 8, 9, 12, 18, 19, 20] fun K hK => ?_; (repeat' ((first | refine al_r rfl fun K' hK' => ?_ | refine al_d rfl fun K' hK' => ?_); (repeat (first | (simp only [go_sem, simprocAttr, hget, hnn, hi2, hnx, Int.toNat_natCast, List.getElem?_map, Option.map_some, List.length_map, hE]) | refine AS.mk ?_)); (first | ((first | refine hK' _ _ ?_ | refine ⟨?_, hK' _ _ ?_⟩) <;> clear hK' K' <;> (first | (show alist _ _ _ _ _ _; skip) | (simp; done))) | ((show AC _ _ (D.fn 19 _) _ _); refine acall_p (f := 19) (e := rfl) (hr := rfl) (k := hK' _ _ ?_) (hc := Try.call19) (h := hat); clear hK' K')))); all_goals (refine al_nil ?_; (simp only [go_sem, simprocAttr, hget, hnn, hi2, hnx, Int.toNat_natCast, List.getElem?_map, Option.map_some, List.length_map, hE]); refine hK _ ?_; clear hK K))
        (refine awp_frz [2, 8, 9, 12, 18, 19, 20] [] (by decide) (by (simp; done)) ?_; simp only [go_sem, simprocAttr, hget, hnn, hi2, hnx, Int.toNat_natCast, List.getElem?_map, Option.map_some, List.length_map, hE])
        refine awp_reg_tov [2, 18, 19, 20, 54] [(54, bD ((Is && E) || (Is && !B)))] (h := ?_) (k := ?_)
        · cases Is <;> cases E <;> cases B
          all_goals ((repeat' (first | ((first | refine al_r rfl fun K' hK' => ?_ | refine al_t rfl rfl fun K' hK' => ?_); (repeat (simp only [go_sem, simprocAttr, hget, hnn, hi2, hnx, Int.toNat_natCast, List.getElem?_map, Option.map_some, List.length_map, hE])); (first | ((refine hK' _ _ ?_) <;> clear hK' K') | ((show AC _ _ (D.fn 67 _) _ _); refine acall_p (f := 67) (e := rfl) (hr := rfl) (k := hK' _ _ ?_) (hc := Try.call67) (h := hbe); clear hK' K'))) | refine al_e rfl rfl ?_ | refine al_u rfl rfl ?_)); all_goals (refine al_nil ?_; (simp only [go_sem, simprocAttr, hget, hnn, hi2, hnx, Int.toNat_natCast, List.getElem?_map, Option.map_some, List.length_map, hE, *, Bool.and_true, Bool.and_false, Bool.true_and, Bool.false_and, Bool.or_true, Bool.true_or, Bool.or_false, Bool.false_or, Bool.not_true, Bool.not_false, Bool.false_eq_true]; done)))
        (intro K hK; (simp only [go_sem, simprocAttr, hget, hnn, hi2, hnx, Int.toNat_natCast, List.getElem?_map, Option.map_some, List.length_map, hE]); refine hK _ ?_; clear hK K)
        refine awp_if ((Is && E) || (Is && !B)) rfl (fun hc => ?_) (fun hc => ?_)
        · (refine awp_reg_seq [4] fun K hK => ?_; (repeat' ((refine al_r rfl fun K' hK' => ?_); (repeat (simp only [go_sem, simprocAttr, hget, hnn, hi2, hnx, Int.toNat_natCast, List.getElem?_map, Option.map_some, List.length_map, hE])); ((refine hK' _ _ ?_) <;> clear hK' K'))); all_goals (refine al_nil ?_; (simp only [go_sem, simprocAttr, hget, hnn, hi2, hnx, Int.toNat_natCast, List.getElem?_map, Option.map_some, List.length_map, hE]); refine hK _ ?_; clear hK K))
          refine awp_ret ?_; (refine hR _ _ (.inl rfl) rfl ?_)
          rw [if_pos hc] at hW
          rw [hW, if_pos (by decide)] at hV2
          rw [hV2]
          simp only [go_sem, simprocAttr, hget, hnn, hi2, hnx, Int.toNat_natCast, List.getElem?_map, Option.map_some, List.length_map, hE]
        · rw [if_neg (by rw [hc]; simp)] at hW
          rw [hW, if_neg (by decide)] at hV2
          refine awp_skip ?_
          refine hK _ ?_; clear hK K
          (refine awp_reg_end [2, 18, 19, 20] fun K hK => ?_; (repeat' ((refine al_r rfl fun K' hK' => ?_); (repeat (simp only [go_sem, simprocAttr, hget, hnn, hi2, hnx, Int.toNat_natCast, List.getElem?_map, Option.map_some, List.length_map, hE])); ((refine hK' _ _ ?_) <;> clear hK' K'))); all_goals (refine al_nil ?_; (simp only [go_sem, simprocAttr, hget, hnn, hi2, hnx, Int.toNat_natCast, List.getElem?_map, Option.map_some, List.length_map, hE]); refine hK _ ?_; clear hK K))
          exact ⟨ws.length - (i + 1), by omega, [2, 18, 19, 20], [], by decide, by intro q hq; exact absurd hq (Nat.not_lt_zero q), i + 1, hi2, rfl, hV2, rfl⟩

    · have hie : i = ws.length := by simp at hc; omega
      rw [hie, List.drop_length] at hV
      have hV0 : V = 0 := hV
      refine awp_exit ?_
      clear hK
      refine hK _ ?_; clear hK K
      (refine awp_reg_seq [4] fun K hK => ?_; (repeat' ((refine al_r rfl fun K' hK' => ?_); (repeat (simp only [go_sem, simprocAttr, List.length_map])); ((refine hK' _ _ ?_) <;> clear hK' K'))); all_goals (refine al_nil ?_; (simp only [go_sem, simprocAttr, List.length_map]); refine hK _ ?_; clear hK K))
      refine awp_ret ?_; (refine hR _ _ (.inl rfl) rfl ?_)
      rw [hV0]
      simp only [go_sem, simprocAttr, List.length_map]
end Go.Proofs.Ytagphggcdmjlpaa.P

/- Ages that are right, in plain words: facts about objects at their places. -/
namespace Go.Proofs.Ytagphggcdmjlpaa.P
open Go.Ab Go.Proofs.Ytagphggcdmjlpaa.T

theorem place_append : ∀ (l m : List Obj) (a : Nat), place a (l ++ m) = place a l ++ place (a + (flat l).length) m
  | [], m, a => rfl
  | o :: l, m, a => by
    show o.to a :: place _ (l ++ m) = o.to a :: (place _ l ++ _)
    rw [place_append l m]
    have : (flat (o :: l)).length = (encW o).length + (flat l).length := by show (encW o ++ flat l).length = _; rw [List.length_append]
    rw [this, Nat.add_assoc]

theorem chain_place {h : List Int} : ∀ {l : List Obj} {a : Nat}, Chain h a l → place a l = l
  | [], _, _ => rfl
  | o :: l, a, ⟨h1, _, _, _, h5⟩ => by
    show o.to a :: place _ l = _
    rw [chain_place h5]
    have : o.to a = o := by cases o; simp only at h1; subst h1; rfl
    rw [this]

theorem parts_flat {l : List Obj} {o : Obj} (ho : o ∈ l) {w : Int} (hw : w ∈ o.parts) : w ∈ flat l := by
  induction l with
  | nil => cases ho
  | cons x l ih =>
    show w ∈ encW x ++ flat l
    rcases List.mem_cons.1 ho with rfl | ho
    · refine List.mem_append_left _ ?_
      unfold encW
      exact List.mem_cons_of_mem _ (List.mem_append_right _ (List.mem_append_right _ hw))
    · exact List.mem_append_right _ (ih ho)

/-- A list of objects at their places. -/
def Placed (l : List Obj) : Prop := place 0 l = l ∧ ∀ o, o ∈ l → ObjOk o

theorem heap_flat {h : List Int} (hlen : h.length ≤ maxLen) (hok : ∀ w, w ∈ h → WordOk w) (he : (objsS h).2 = 0) : h.length ≤ 4000 ∧ h = flat (objsS h).1 ∧ Placed (objsS h).1 := by
  have hv : objsS h = if decide ((h.length : Int) > 4000) then ([], 2) else objF h (h.length + 1) 0 [] := rfl
  by_cases h4 : h.length ≤ 4000
  · rw [if_neg (by simp; omega)] at hv
    rw [hv] at he ⊢
    obtain ⟨l', hl, hc⟩ := objF_chain hlen hok (h.length + 1) 0 [] (objF h (h.length + 1) 0 []).1 (by omega) (Nat.zero_le _) (by rw [← he])
    rw [List.nil_append] at hl
    rw [← hl] at hc
    have hnums := objF_nums (h := h) (h.length + 1) 0 [] (fun x hx => by cases hx)
    generalize (objF h (h.length + 1) 0 []).1 = l at *
    have hri := chain_right hc
    have hfl := chain_flat hc
    rw [List.drop_zero] at hfl
    exact ⟨h4, hfl, chain_place hc, fun o ho => ⟨hri o ho, hnums o ho, fun w hw => hok w (by rw [hfl]; exact parts_flat ho hw)⟩⟩
  · rw [if_pos (by simp; omega)] at hv
    rw [hv] at he
    cases he

theorem place_mem : ∀ {L : List Obj} {a : Nat} {x : Obj}, x ∈ place a L → ∃ P o Q, L = P ++ o :: Q ∧ x = o.to (a + (flat P).length)
  | [], _, _, h => by cases h
  | o :: L, a, x, h => by
    rcases List.mem_cons.1 h with rfl | h
    · exact ⟨[], o, L, rfl, by simp [flat]⟩
    · obtain ⟨P, o2, Q, rfl, rfl⟩ := place_mem h
      refine ⟨o :: P, o2, Q, rfl, ?_⟩
      have : (flat (o :: P)).length = (encW o).length + (flat P).length := by show (encW o ++ flat P).length = _; rw [List.length_append]
      rw [this, Nat.add_assoc]

theorem placed_split {L : List Obj} (hL : Placed L) {o : Obj} (ho : o ∈ L) : ∃ P Q, L = P ++ o :: Q ∧ o.at_ = (flat P).length := by
  rw [← hL.1] at ho
  obtain ⟨P, o2, Q, hl, rfl⟩ := place_mem ho
  refine ⟨P, Q, ?_, by show ((0 + (flat P).length : Nat) : Int) = _; rw [Nat.zero_add]⟩
  have h1 := hL.1
  rw [hl, place_append] at h1
  obtain ⟨e1, e2⟩ := List.append_inj h1 (place_len _ _)
  have e3 : o2.to (0 + (flat P).length) = o2 := (List.cons.inj e2).1
  rw [e3]; exact hl

/-- The object at its place is read. -/
theorem at_placed {L : List Obj} (hL : Placed L) {o : Obj} (ho : o ∈ L) : atS (flat L) o.at_ = (o, 0) := by
  obtain ⟨P, Q, hl, ha⟩ := placed_split hL ho
  have hk := hL.2 o ho
  rw [hl, flat_append, ha]
  have h := at_enc (flat P) (flat Q) o hk.1 hk.2.1
  rw [show flat (o :: Q) = encW o ++ flat Q from rfl, h]
  have : o.to (flat P).length = o := by cases o; simp only at ha; subst ha; rfl
  rw [this]

theorem placed_inj {L : List Obj} (hL : Placed L) {x y : Obj} (hx : x ∈ L) (hy : y ∈ L) (h : x.at_ = y.at_) : x = y := by
  have h1 := at_placed hL hx
  have h2 := at_placed hL hy
  rw [h] at h1
  rw [h1] at h2
  exact (Prod.mk.inj h2).1

theorem placed_objs {L : List Obj} (hL : Placed L) (h4 : (flat L).length ≤ 4000) : objsS (flat L) = (L, 0) := by
  have h := objs_flat (fun o ho => ⟨(hL.2 o ho).1, (hL.2 o ho).2.1⟩) h4
  rw [hL.1] at h
  exact h

theorem placed_ok {L : List Obj} (hL : Placed L) : ∀ w, w ∈ flat L → WordOk w := flat_ok fun o ho => (hL.2 o ho).2.2

theorem placed_len {L : List Obj} (hL : Placed L) {o : Obj} (ho : o ∈ L) : ∃ n : Nat, o.at_ = n ∧ n + (encW o).length ≤ (flat L).length := by
  obtain ⟨P, Q, hl, ha⟩ := placed_split hL ho
  refine ⟨_, ha, ?_⟩
  rw [hl, flat_append, show flat (o :: Q) = encW o ++ flat Q from rfl, List.length_append, List.length_append]
  omega

theorem count_len {L : List Obj} : L.length ≤ (flat L).length := by
  induction L with
  | nil => exact Nat.zero_le _
  | cons o L ih =>
    rw [show flat (o :: L) = encW o ++ flat L from rfl, List.length_append, List.length_cons]
    have : 1 ≤ (encW o).length := by simp [encW]
    omega

theorem parts_len {L : List Obj} {o : Obj} (ho : o ∈ L) : o.parts.length ≤ (flat L).length := by
  induction L with
  | nil => cases ho
  | cons x L ih =>
    rw [show flat (x :: L) = encW x ++ flat L from rfl, List.length_append]
    rcases List.mem_cons.1 ho with rfl | ho
    · have : o.parts.length ≤ (encW o).length := by unfold encW; simp; omega
      omega
    · have := ih ho; omega

/-- Check, in plain words. -/
theorem firstE_zero {α : Type} {f : α → Int} : ∀ {l : List α}, firstE f l = 0 ↔ ∀ x, x ∈ l → f x = 0
  | [] => ⟨fun _ x hx => (by cases hx), fun _ => rfl⟩
  | y :: l => by
    unfold firstE
    by_cases h : f y = 0
    · rw [if_neg (by simp [h]), firstE_zero]
      exact ⟨fun hh x hx => by rcases List.mem_cons.1 hx with rfl | hx; exact h; exact hh x hx, fun hh x hx => hh x (List.mem_cons_of_mem _ hx)⟩
    · rw [if_pos (by simpa using h)]
      exact ⟨fun hh => absurd hh h, fun hh => hh y List.mem_cons_self⟩

theorem lateF_iff {old : Int} {beg : Int → Bool} : ∀ {late : List Int} {pv : Option Int}, lateF old beg pv late = false ↔ (∀ t, t ∈ late → t < old ∧ beg t = true) ∧ late.Pairwise (· < ·) ∧ ∀ p, pv = some p → ∀ t, t ∈ late → p < t
  | [], pv => ⟨fun _ => ⟨fun t ht => (by cases ht), .nil, fun p _ t ht => (by cases ht)⟩, fun _ => rfl⟩
  | t :: r, pv => by
    unfold lateF
    rw [Bool.or_eq_false_iff, Bool.or_eq_false_iff, Bool.or_eq_false_iff, lateF_iff (late := r)]
    constructor
    · rintro ⟨⟨⟨h1, h2⟩, h3⟩, h4, h5, h6⟩
      have h1 : t < old := by simpa using h1
      have h2 : beg t = true := by simpa using h2
      refine ⟨fun x hx => ?_, List.pairwise_cons.2 ⟨fun x hx => h6 t rfl x hx, h5⟩, fun p hp x hx => ?_⟩
      · rcases List.mem_cons.1 hx with rfl | hx
        · exact ⟨h1, h2⟩
        · exact h4 x hx
      · subst hp
        have h3 : p < t := by simpa [prevB] using h3
        rcases List.mem_cons.1 hx with rfl | hx
        · exact h3
        · have := h6 t rfl x hx; omega
    · rintro ⟨h1, h2, h3⟩
      obtain ⟨h4, h5⟩ := List.pairwise_cons.1 h2
      obtain ⟨a1, a2⟩ := h1 t List.mem_cons_self
      refine ⟨⟨⟨by simpa using a1, by simp [a2]⟩, ?_⟩, fun x hx => h1 x (List.mem_cons_of_mem _ hx), h5, fun p hp x hx => by cases hp; exact h4 x hx⟩
      cases pv with
      | none => rfl
      | some p => have := h3 p rfl t List.mem_cons_self; simpa [prevB] using this

/-- Ages that are right. -/
def GoodA (n old : Int) (late : List Int) (l : List Obj) : Prop :=
  0 ≤ old ∧ begS n l old = true ∧ (∀ t, t ∈ late → t < old ∧ begS n l t = true) ∧ late.Pairwise (· < ·) ∧ ∀ o, o ∈ l → ∀ w, w ∈ o.parts → partE n old (begS n l) late o w = 0

theorem checkO_iff {n old : Int} {late : List Int} {l : List Obj} : checkO n old late l = 0 ↔ GoodA n old late l := by
  unfold checkO GoodA
  by_cases h1 : (decide (old < 0) || !begS n l old) = true
  · rw [if_pos h1]
    refine ⟨fun h => (by cases h), fun ⟨a, b, _⟩ => ?_⟩
    simp [b] at h1
    omega
  · rw [if_neg h1]
    simp only [Bool.or_eq_true, not_or, decide_eq_true_eq, Bool.not_eq_true', Bool.not_eq_false] at h1
    obtain ⟨g1, g2⟩ := h1
    by_cases h2 : lateF old (begS n l) none late = true
    · rw [if_pos h2]
      refine ⟨fun h => (by cases h), fun ⟨_, _, a, b, _⟩ => ?_⟩
      have := (lateF_iff (pv := none)).2 ⟨a, b, fun p hp => by cases hp⟩
      rw [this] at h2; cases h2
    · rw [if_neg h2]
      have h2 : lateF old (begS n l) none late = false := by simpa using h2
      obtain ⟨a, b, _⟩ := lateF_iff.1 h2
      rw [firstE_zero]
      constructor
      · exact fun h => ⟨by omega, g2, a, b, fun o ho => firstE_zero.1 (h o ho)⟩
      · exact fun ⟨_, _, _, _, h⟩ o ho => firstE_zero.2 (h o ho)

theorem hasI_iff {l : List Int} {t : Int} : hasI l t = true ↔ t ∈ l := by
  unfold hasI
  rw [List.any_eq_true]
  exact ⟨fun ⟨x, hx, h⟩ => by have : t = x := by simpa using h
                              rw [this]; exact hx, fun h => ⟨t, h, by simp⟩⟩

theorem begS_iff {n : Int} {l : List Obj} {t : Int} : begS n l t = true ↔ t = n ∨ ∃ o, o ∈ l ∧ o.at_ = t := by
  unfold begS
  rw [Bool.or_eq_true, List.any_eq_true]
  constructor
  · rintro (h | ⟨o, ho, h⟩)
    · exact .inl (by simpa using h)
    · exact .inr ⟨o, ho, by have : t = o.at_ := by simpa using h
                            exact this.symm⟩
  · rintro (h | ⟨o, ho, h⟩)
    · exact .inl (by simpa using h)
    · exact .inr ⟨o, ho, by simp [h]⟩
end Go.Proofs.Ytagphggcdmjlpaa.P

/- Objects that are put behind, and parts that are set: plain facts for the copier. -/
namespace Go.Proofs.Ytagphggcdmjlpaa.P
open Go.Ab Go.Proofs.Ytagphggcdmjlpaa.T

/-- An object with one part set. -/
def setPart (x : Obj) (i : Nat) (w : Int) : Obj := { x with parts := x.parts.set i w }

theorem head_len {x : Obj} {ps : List Int} (h : ps.length = x.parts.length) : headS { x with parts := ps } = headS x := by
  unfold headS
  simp only [h]

theorem right_len {x : Obj} {ps : List Int} (h : ps.length = x.parts.length) : rightS { x with parts := ps } = rightS x := by
  unfold rightS
  simp only [h]

theorem enc_setPart (x : Obj) (i : Nat) (w : Int) : encW (setPart x i w) = (encW x).set ((encW x).length - x.parts.length + i) w ∧ (encW (setPart x i w)).length = (encW x).length := by
  have hl : (x.parts.set i w).length = x.parts.length := List.length_set
  have h1 : encW (setPart x i w) = headS x :: (numW x ++ (textW x.text ++ x.parts.set i w)) := by
    unfold encW setPart
    rw [head_len hl]
    rfl
  constructor
  · rw [h1]
    unfold encW
    have e : ((headS x :: (numW x ++ (textW x.text ++ x.parts))).length - x.parts.length + i) = ((numW x).length + (textW x.text).length + i) + 1 := by simp; omega
    rw [e, List.set_cons_succ, List.set_append_right _ _ (by omega), List.set_append_right _ _ (by omega)]
    have : (numW x).length + (textW x.text).length + i - (numW x).length - (textW x.text).length = i := by omega
    rw [this]
  · rw [h1]; unfold encW; simp

theorem place_ge : ∀ {L : List Obj} {a : Nat} {x : Obj}, x ∈ place a L → (a : Int) ≤ x.at_
  | [], _, _, h => by cases h
  | o :: L, a, x, h => by
    rcases List.mem_cons.1 h with rfl | h
    · exact Int.le_refl _
    · have := place_ge h; omega

/-- What lies ahead of an object, and what behind it. -/
theorem placed_parts {P Q : List Obj} {o : Obj} (hL : Placed (P ++ o :: Q)) : o.at_ = (flat P).length ∧ Placed P ∧ (∀ x, x ∈ Q → o.at_ + (encW o).length ≤ x.at_) ∧ place ((flat P).length + (encW o).length) Q = Q := by
  have h1 := hL.1
  rw [place_append] at h1
  obtain ⟨h2, h3⟩ := List.append_inj h1 (place_len _ _)
  have h4 : o.to (0 + (flat P).length) :: place (0 + (flat P).length + (encW o).length) Q = o :: Q := h3
  obtain ⟨h5, h6⟩ := List.cons.inj h4
  have ha : o.at_ = (flat P).length := by rw [← h5]; show ((0 + (flat P).length : Nat) : Int) = _; rw [Nat.zero_add]
  rw [Nat.zero_add] at h6
  refine ⟨ha, ⟨h2, fun x hx => hL.2 x (List.mem_append_left _ hx)⟩, fun x hx => ?_, h6⟩
  rw [← h6] at hx
  have := place_ge hx
  omega

theorem placed_setPart {P Q : List Obj} {x : Obj} {i : Nat} {w : Int} (hL : Placed (P ++ x :: Q)) (hw : WordOk w) (hi : i < x.parts.length) :
    Placed (P ++ setPart x i w :: Q) ∧ flat (P ++ setPart x i w :: Q) = (flat (P ++ x :: Q)).set ((flat P).length + (encW x).length - x.parts.length + i) w := by
  obtain ⟨ha, hP, hQ, hq⟩ := placed_parts hL
  obtain ⟨e1, e2⟩ := enc_setPart x i w
  have hk := hL.2 x (by simp)
  have hpl : x.parts.length ≤ (encW x).length := by unfold encW; simp; omega
  refine ⟨⟨?_, fun y hy => ?_⟩, ?_⟩
  · rw [place_append, hP.1]
    show P ++ (setPart x i w).to (0 + (flat P).length) :: place (0 + (flat P).length + (encW (setPart x i w)).length) Q = _
    rw [e2, Nat.zero_add, hq]
    have : (setPart x i w).to (flat P).length = setPart x i w := by
      unfold Obj.to setPart; simp only [← ha]
    rw [this]
  · rcases List.mem_append.1 hy with hy | hy
    · exact hL.2 y (List.mem_append_left _ hy)
    · rcases List.mem_cons.1 hy with rfl | hy
      · refine ⟨by unfold setPart; rw [right_len List.length_set]; exact hk.1, hk.2.1, fun v hv => ?_⟩
        rcases List.mem_or_eq_of_mem_set hv with h | rfl
        · exact hk.2.2 v h
        · exact hw
      · exact hL.2 y (List.mem_append_right _ (List.mem_cons_of_mem _ hy))
  · rw [flat_append, flat_append]
    show flat P ++ (encW (setPart x i w) ++ flat Q) = (flat P ++ (encW x ++ flat Q)).set _ w
    rw [e1, List.set_append_right _ _ (by omega)]
    have e3 : (flat P).length + (encW x).length - x.parts.length + i - (flat P).length = (encW x).length - x.parts.length + i := by omega
    rw [e3]
    rw [List.set_append_left _ _ (by omega)]

theorem placed_snoc {T : List Obj} {o : Obj} (hT : Placed T) (ho : ObjOk o) : Placed (T ++ [o.to (flat T).length]) ∧ flat (T ++ [o.to (flat T).length]) = flat T ++ encW o := by
  refine ⟨⟨?_, fun x hx => ?_⟩, ?_⟩
  · rw [place_append, hT.1, Nat.zero_add]; rfl
  · rcases List.mem_append.1 hx with hx | hx
    · exact hT.2 x hx
    · rcases List.mem_singleton.1 hx with rfl; exact ho
  · rw [flat_append]
    show flat T ++ (encW o ++ []) = _
    rw [List.append_nil]

/-- How many words are left to be copied. -/
def restN (f : Obj → Bool) : List Obj → Nat
  | [] => 0
  | o :: l => (if f o then (encW o).length else 0) + restN f l

theorem rest_append (f : Obj → Bool) : ∀ (l m : List Obj), restN f (l ++ m) = restN f l + restN f m
  | [], m => by simp [restN]
  | o :: l, m => by show _ + restN f (l ++ m) = _ + _ + _; rw [rest_append f l m]; omega

theorem rest_congr {f g : Obj → Bool} : ∀ {l : List Obj}, (∀ o, o ∈ l → f o = g o) → restN f l = restN g l
  | [], _ => rfl
  | o :: l, h => by
    show _ + restN f l = _ + restN g l
    rw [h o List.mem_cons_self, rest_congr fun x hx => h x (List.mem_cons_of_mem _ hx)]

theorem rest_one {L : List Obj} {o : Obj} {f g : Obj → Bool} (hL : Placed L) (ho : o ∈ L) (h1 : f o = true) (h2 : g o = false) (h3 : ∀ x, x ∈ L → x.at_ ≠ o.at_ → f x = g x) : restN f L = restN g L + (encW o).length := by
  obtain ⟨P, Q, rfl, ha⟩ := placed_split hL ho
  obtain ⟨_, hP, hQ, _⟩ := placed_parts hL
  have hpos : 1 ≤ (encW o).length := by simp [encW]
  have a1 : restN f P = restN g P := rest_congr fun x hx => h3 x (List.mem_append_left _ hx) (by
    obtain ⟨n, e1, e2⟩ := placed_len hP hx
    have : 1 ≤ (encW x).length := by simp [encW]
    omega)
  have a2 : restN f Q = restN g Q := rest_congr fun x hx => h3 x (List.mem_append_right _ (List.mem_cons_of_mem _ hx)) (by
    have := hQ x hx; omega)
  rw [rest_append, rest_append, a1]
  show _ + ((if f o then _ else _) + restN f Q) = _ + ((if g o then _ else _) + restN g Q) + _
  rw [h1, h2, a2]
  simp; omega

theorem rest_all : ∀ (L : List Obj), restN (fun _ => true) L = (flat L).length
  | [] => rfl
  | o :: l => by
    show (encW o).length + restN _ l = (encW o ++ flat l).length
    rw [rest_all l, List.length_append]
end Go.Proofs.Ytagphggcdmjlpaa.P

/- What slices.Insert's steps do to the cells of rows whose elements have several cells. No program is named here. -/
namespace Go.Ab
open Go.Proofs Go.Shelf Go.RowKit Go.Lib

theorem run_copy_k {P : Program} (w : World) (dT sT ty elem : TypeId) (k b o dLen dCap : Nat) (a : Addr) (sLen sCap : Nat) (cs : List Value)
    (hu : P.underlying dT = some (.slice elem)) (hs : (P.info? elem).map (·.size) = some k) (hn : cs.length = Nat.min sLen dLen * k)
    (hsrc : ∀ j v, cs[j]? = some v → w.cell? (a.add j) = some v) (hc : ∀ j, j < cs.length → (w.cell? ⟨b, o + j, none⟩).isSome = true) (hf : ∀ j, j < cs.length → w.frozen? ⟨b, o + j, none⟩ = false) (h1 : ∀ v ∈ cs, v.oneCell' = true) :
    (Builtin.copy_ #[dT, sT] ty #[.slice (some ⟨b, o, none⟩) dLen dCap, .slice (some a) sLen sCap]).run P w = .ok (goInt (Nat.min sLen dLen)) (w.setCells b o cs) := by
  have hl := run_loadCells_list (P := P) w a cs hsrc
  have hst := run_storeCells_cells (P := P) b o cs 0 w (by simpa using hc) (by simpa using hf) h1
  cases hq : P.info? elem with
  | none => simp [hq] at hs
  | some i =>
    have hi : i.size = k := by simpa [hq] using hs
    simp [Builtin.copy_, run_underlying hu, Builtin.lenOf, Builtin.firstCells, sizeOf, typeInfo, hq, hi, ← hn, hl, hst]
end Go.Ab

/- slices.Insert of one element into a row of one's own, as a call over objects: out of what it does to the cells. No program is named here. -/
namespace Go.Ab
open Go.Proofs Go.Shelf Go.RowKit Go.Lib

/-- A call's begin, as a relation. -/
theorem entry_rel {H : HV} {loc : Nat → Loc} {obs : List Ob} {w : World} (hsr : Sr H loc obs w) (hub : ∀ o, o ∈ obs → o ≠ .unborn) :
    Rel ⟨fun b => ∃ (i : Nat) (o : Ob), obs[i]? = some o ∧ o.live = true ∧ (loc i).r = true ∧ (loc i).b = b, obs, loc⟩ H w 0 H loc w ⟨fun _ => .none, obs, obs.length⟩ ⟨#[], []⟩ where
  sr := hsr
  tm := fun _ => .none _
  sz := rfl
  df := rfl
  gr := .refl _ _ _
  own := fun i o ho hl hr => .inl ⟨i, o, ho, hl, hr, rfl⟩
  n0 := rfl
  ent := fun k o ho => .inr ⟨o, ho, Ob.sameShape_refl o (hub o (List.mem_of_getElem? ho)), rfl⟩

/-- Blocks more. -/
theorem Rel.wider {M : En} {H0 : HV} {w0 : World} {nt : Nat} {H : HV} {loc : Nat → Loc} {w w' : World} {st : St} {a : Act} (r : Rel M H0 w0 nt H loc w st a) (hw : ∀ b, b < w.heap.size → w'.heap[b]? = w.heap[b]?) (hsz : w.heap.size ≤ w'.heap.size)
    (hos : w'.os = w.os) (htp : w'.tape = w.tape) (hout : w'.output = w.output) : Rel M H0 w0 nt H loc w' st a where
  sr := ⟨fun b c hb => by rw [hw b (r.sr.H_lt hb)]; exact r.sr.heap b c hb, fun i o ho => by
    cases hl : o.live with
    | false => cases o <;> first | trivial | cases hl
    | true => exact Ob.holds_turn (.refl H) (Turns.refl _ _) (fun hr => hw _ (r.sr.live_lt ho hl hr)) (r.sr.obj i o ho), r.sr.apart, r.sr.inj⟩
  tm := r.tm
  sz := r.sz
  df := r.df
  gr := ⟨hos.trans r.gr.os, htp.trans r.gr.tape, hout.trans r.gr.output, Nat.le_trans r.gr.size hsz, fun b hb hm => (hw b (Nat.lt_of_lt_of_le hb r.gr.size)).trans (r.gr.kept b hb hm), r.gr.more, r.gr.new⟩
  own := r.own
  n0 := r.n0
  ent := r.ent

/-- A row's cells. -/
theorem row_cells {H : HV} {loc : Nat → Loc} {obs : List Ob} {w : World} (hsr : Sr H loc obs w) {id s : Nat} {xs : List (List PV)} (ho : obs[id]? = some (.row s xs)) (hr : (loc id).r = true) :
    ∃ (c : Array Value) (e : TypeId) (cs : List Value), w.heap[(loc id).b]? = some (.cells c e (0, 0)) ∧ c.size = (loc id).n ∧ (loc id).o + xs.length * s ≤ (loc id).n ∧ (∀ x, x ∈ xs → x.length = s) ∧ cs.length = xs.length * s ∧
      (∀ (j : Nat) v, cs[j]? = some v → c[(loc id).o + j]? = some v) ∧ (∀ v, v ∈ cs → v.oneCell' = true) ∧
      ∀ (i : Nat) x, xs[i]? = some x → ∀ (j : Nat) y, x[j]? = some y → ∃ u, cs[i * s + j]? = some u ∧ u.oneCell' = true ∧ PVr H u y := by
  rcases hsr.obj id _ ho with ⟨hx, _⟩ | ⟨_, c, e, h1, h2, h3, h4, h5⟩
  · rw [hr] at hx; cases hx
  have hlen : ((c.toList.drop (loc id).o).take (xs.length * s)).length = xs.length * s := by
    have hcl : c.toList.length = c.size := Array.length_toList
    rw [List.length_take, List.length_drop, hcl]; exact Nat.min_eq_left (by omega)
  have hget : ∀ (j : Nat), j < xs.length * s → ((c.toList.drop (loc id).o).take (xs.length * s))[j]? = c[(loc id).o + j]? := fun j hj => by
    rw [List.getElem?_take, if_pos hj, List.getElem?_drop, Array.getElem?_toList]
  have hlt : ∀ {i : Nat} {x : List PV}, xs[i]? = some x → ∀ {j : Nat} {y : PV}, x[j]? = some y → i * s + j < xs.length * s := fun {i x} hi {j y} hj => by
    have h1 := lt_of_get hi
    have h2 := lt_of_get hj
    rw [h4 x (List.mem_of_getElem? hi)] at h2
    have : (i + 1) * s ≤ xs.length * s := Nat.mul_le_mul_right s h1
    rw [Nat.succ_mul] at this; omega
  refine ⟨c, e, _, h1, h2, h3, h4, hlen, fun j v hj => ?_, fun v hv => ?_, fun i x hi j y hj => ?_⟩
  · have := lt_of_get hj
    rw [hlen] at this
    rw [hget j this] at hj; exact hj
  · obtain ⟨j, hj⟩ := List.getElem?_of_mem hv
    have hjl := lt_of_get hj
    rw [hlen] at hjl
    rw [hget j hjl] at hj
    have hs : 0 < s := by
      rcases Nat.eq_zero_or_pos s with h | h
      · rw [h, Nat.mul_zero] at hjl; omega
      · exact h
    have hdiv : j / s < xs.length := Nat.div_lt_of_lt_mul (by rw [Nat.mul_comm]; exact hjl)
    obtain ⟨x, hx⟩ := get_of_lt hdiv
    have hxl := h4 x (List.mem_of_getElem? hx)
    obtain ⟨y, hy⟩ := get_of_lt (l := x) (i := j % s) (by rw [hxl]; exact Nat.mod_lt _ hs)
    obtain ⟨u, a1, a2, _⟩ := h5 (j / s) x hx (j % s) y hy
    have e1 : (loc id).o + j / s * s + j % s = (loc id).o + j := by
      have := Nat.div_add_mod j s
      rw [Nat.mul_comm] at this; omega
    rw [e1, hj] at a1
    cases a1; exact a2
  · obtain ⟨u, a1, a2, a3⟩ := h5 i x hi j y hj
    exact ⟨u, by rw [hget _ (hlt hi hj), ← Nat.add_assoc]; exact a1, a2, a3⟩

/-- What is in the row then. -/
def insR (xs : List (List PV)) (i : Nat) (v : List PV) : List (List PV) := xs.take i ++ (v :: xs.drop i)

theorem insR_length {xs : List (List PV)} {i : Nat} {v : List PV} (h : i ≤ xs.length) : (insR xs i v).length = xs.length + 1 := by
  simp [insR]; omega

theorem insR_rows {H : HV} {s : Nat} {xs : List (List PV)} {i : Nat} {v : List PV} {cs vs : List Value} (hi : i ≤ xs.length) (hx : ∀ x, x ∈ xs → x.length = s) (hv : v.length = s) (hc : cs.length = xs.length * s) (hvl : vs.length = s)
    (h1 : ∀ (i : Nat) x, xs[i]? = some x → ∀ (j : Nat) y, x[j]? = some y → ∃ u, cs[i * s + j]? = some u ∧ u.oneCell' = true ∧ PVr H u y)
    (h2 : ∀ (j : Nat) y, v[j]? = some y → ∃ u, vs[j]? = some u ∧ u.oneCell' = true ∧ PVr H u y) :
    ∀ (k : Nat) x, (insR xs i v)[k]? = some x → ∀ (j : Nat) y, x[j]? = some y → ∃ u, (cs.take (i * s) ++ (vs ++ cs.drop (i * s)))[k * s + j]? = some u ∧ u.oneCell' = true ∧ PVr H u y := by
  have hm : i * s ≤ xs.length * s := Nat.mul_le_mul_right s hi
  have tail : ∀ (k : Nat) x, (v :: xs.drop i)[k]? = some x → ∀ (j : Nat) y, x[j]? = some y → ∃ u, (vs ++ cs.drop (i * s))[k * s + j]? = some u ∧ u.oneCell' = true ∧ PVr H u y := fun k x hk j y hy => by
    cases k with
    | zero =>
      simp at hk; subst hk
      obtain ⟨u, a1, a2⟩ := h2 j y hy
      exact ⟨u, by rw [Nat.zero_mul, Nat.zero_add, List.getElem?_append_left (lt_of_get a1)]; exact a1, a2⟩
    | succ k =>
      rw [List.getElem?_cons_succ, List.getElem?_drop] at hk
      obtain ⟨u, a1, a2⟩ := h1 _ x hk j y hy
      refine ⟨u, ?_, a2⟩
      have e1 : (k + 1) * s + j = s + (k * s + j) := by rw [Nat.succ_mul]; omega
      rw [e1, List.getElem?_append_right (by omega), hvl, Nat.add_sub_cancel_left, List.getElem?_drop, ← a1]
      congr 1
      rw [Nat.add_mul]; omega
  intro k x hk j y hy
  have := row_join (H := H) (s := s) (xs := xs.take i) (ys := v :: xs.drop i) (olds := cs.take (i * s)) (news := vs ++ cs.drop (i * s)) (rest := [])
    (fun x hx' => hx x (List.mem_of_mem_take hx')) (by rw [List.length_take, List.length_take, Nat.min_eq_left (by omega), Nat.min_eq_left hi])
    (fun a z ha b q hq => by
      rw [List.getElem?_take] at ha
      split at ha
      · rename_i hlt
        obtain ⟨u, a1, a2⟩ := h1 a z ha b q hq
        refine ⟨u, ?_, a2⟩
        have hb : b < s := by rw [← hx z (List.mem_of_getElem? ha)]; exact lt_of_get hq
        have : (a + 1) * s ≤ i * s := Nat.mul_le_mul_right s hlt
        rw [Nat.succ_mul] at this
        rw [List.getElem?_take, if_pos (by omega)]; exact a1
      · cases ha)
    (by
      rw [List.length_append, hvl, List.length_drop, hc, List.length_cons, List.length_drop, Nat.succ_mul, Nat.sub_mul]; omega)
    (fun z hz => by
      rcases List.mem_cons.1 hz with rfl | hz
      · exact hv
      · exact hx z (List.mem_of_mem_drop hz))
    tail k x hk j y hy
  rw [List.append_nil] at this
  exact this

/-- Two stores behind one another. -/
theorem two_puts {l tail vs : List Value} {p1 p2 k : Nat} (h1 : p1 + tail.length ≤ l.length) (h2 : p2 + vs.length ≤ l.length) :
    (putAt (putAt l p1 tail) p2 vs)[k]? = if p2 ≤ k ∧ k < p2 + vs.length then vs[k - p2]? else if p1 ≤ k ∧ k < p1 + tail.length then tail[k - p1]? else l[k]? := by
  rw [putAt_get (by rw [putAt_length h1]; exact h2), putAt_get h1]

theorem insert_calls {P : Program} {f : FuncId} {s nb : Nat} {e : TypeId} (hs : 0 < s) (hnb : nb ≤ 1000) (zc : Array Value) (hzc : zc.size = s)
    (hshift : ∀ (b off n c i vb voff vc : Nat) (cs vs : List Value) (w : World), i < n → n + 1 ≤ c → n ≤ 1000000 → vb ≠ b → cs.length = n * s → vs.length = s →
      (∀ j v, cs[j]? = some v → w.cell? ⟨b, off + j, none⟩ = some v) → (∀ j, j < (n + 1) * s → (w.cell? ⟨b, off + j, none⟩).isSome = true) → (∀ j, j < (n + 1) * s → w.frozen? ⟨b, off + j, none⟩ = false) →
      (∀ j v, vs[j]? = some v → w.cell? ⟨vb, voff + j, none⟩ = some v) → (∀ v ∈ cs, v.oneCell' = true) → (∀ v ∈ vs, v.oneCell' = true) →
      ∀ (tA tB : TypeId) (kA kB : Nat), w.shape? vb = some (tA, kA) → w.shape? b = some (tB, kB) → kB ≠ 0 → w.frozen? ⟨vb, voff, none⟩ = false → w.frozen? ⟨vb, kA, none⟩ = false →
      Calls P f #[.slice (some ⟨b, off, none⟩) n c, .int .i64 i, .slice (some ⟨vb, voff, none⟩) 1 vc] w fun e w' =>
        e = .returned (.slice (some ⟨b, off, none⟩) (n + 1) c) ∧ w' = (w.drew.setCells b (off + (i + 1) * s) (cs.drop (i * s))).setCells b (off + i * s) vs)
    (hgrow : ∀ (b off n c i vb voff vc : Nat) (cs vs : List Value) (w : World), i < n → n ≤ c → c < n + 1 → (n + 1) * nb ≤ 140737488355328 → cs.length = n * s → vs.length = s →
      (∀ j v, cs[j]? = some v → w.cell? ⟨b, off + j, none⟩ = some v) → (∀ j v, vs[j]? = some v → w.cell? ⟨vb, voff + j, none⟩ = some v) → (∀ v ∈ cs, v.oneCell' = true) → (∀ v ∈ vs, v.oneCell' = true) →
      Calls P f #[.slice (some ⟨b, off, none⟩) n c, .int .i64 i, .slice (some ⟨vb, voff, none⟩) 1 vc] w fun e' w' =>
        e' = .returned (.slice (some ⟨w.heap.size, 0, none⟩) (n + 1) (grownCap w (n + 1) c e)) ∧
        w' = (((w.alloc (.cells ((cs.take (i * s)).toArray ++ Builtin.zeroCells zc (n + 1 - i) ++ Builtin.zeroCells zc (grownCap w (n + 1) c e - (n + 1))) e)).drew.setCells w.heap.size (i * s) vs).drew).setCells w.heap.size ((i + 1) * s) (cs.drop (i * s)))
    (xs : List (List PV)) (v : List PV) (hv : v.length = s) (i : Nat) (hi : i < xs.length) (hlen : xs.length ≤ 1000000) :
    ACalls P f [.ref 0 0 xs.length, .p (.lit (.int .i64 i)), .ref 1 0 1] [.row s xs, .row s [v]] (fun r obs' => r = .ref 2 0 (xs.length + 1) ∧ obs' = [.dead, .row s [v], .row s (insR xs i v)]) := by
  intro H loc w vals hsr hsz hvals
  obtain ⟨v0, v1, v2, rfl⟩ : ∃ v0 v1 v2, vals = #[v0, v1, v2] := by
    obtain ⟨l⟩ := vals
    match l, hsz with
    | [a, b, c], _ => exact ⟨a, b, c, rfl⟩
  have hv0 := hvals 0 v0 _ rfl rfl
  have hv1 := (hvals 1 v1 _ rfl rfl).lit_inv
  have hv2 := hvals 2 v2 _ rfl rfl
  subst hv1
  generalize hd0 : D.ref 0 0 xs.length = d0 at hv0
  cases hv0 <;> try (cases hd0; done)
  case refGone ho =>
    cases hd0
    simp at ho
  case ref0 =>
    injection hd0 with _ _ e3
    omega
  case ref id off len c s' xs' ho hl hc hx hr hn =>
    injection hd0 with e1 e2 e3
    subst e1 e2 e3
    have ho' := Ob.row.inj (Option.some.inj ho)
    obtain ⟨rfl, rfl⟩ := ho'
    generalize hd2 : D.ref 1 0 1 = d2 at hv2
    cases hv2 <;> try (cases hd2; done)
    case refGone ho =>
      cases hd2
      simp at ho
    case ref id off len vc s2 ys ho2 hl2 hc2 hx2 hr2 hn2 =>
      injection hd2 with e1 e2 e3
      subst e1 e2 e3
      have ho2' := Ob.row.inj (Option.some.inj ho2)
      obtain ⟨rfl, rfl⟩ := ho2'
      obtain ⟨ca, ea, cs, b1, b2, b3, b4, b5, b6, b7, b8⟩ := row_cells hsr (id := 0) rfl hr
      obtain ⟨cv, ev, vs, d1, d2, d3, d4, d5, d6, d7, d8⟩ := row_cells hsr (id := 1) rfl hr2
      simp only [List.length_cons, List.length_nil, Nat.zero_add, Nat.one_mul] at d3 d5
      have r0 := entry_rel hsr (fun o ho => by simp at ho; rcases ho with rfl | rfl <;> simp)
      have hne : (loc 1).b ≠ (loc 0).b := fun e => by
        have := hsr.inj 1 0 _ _ rfl rfl rfl rfl hr2 hr e
        cases this
      have cellA : ∀ j u, cs[j]? = some u → w.cell? ⟨(loc 0).b, (loc 0).o + 0 * s + j, none⟩ = some u := fun j u hj => by
        rw [Nat.zero_mul, Nat.add_zero]
        simp [World.cell?, b1, b6 j u hj]
      have cellB : ∀ j u, vs[j]? = some u → w.cell? ⟨(loc 1).b, (loc 1).o + 0 * s + j, none⟩ = some u := fun j u hj => by
        rw [Nat.zero_mul, Nat.add_zero]
        simp [World.cell?, d1, d6 j u hj]
      have hdrop : (cs.drop (i * s)).length = (xs.length - i) * s := by rw [List.length_drop, b5, Nat.sub_mul]
      have hmi : (i + 1) * s ≤ xs.length * s := Nat.mul_le_mul_right s hi
      have hmi2 : (i + 1) * s = i * s + s := Nat.succ_mul i s
      have hsub : (xs.length - i) * s = xs.length * s - i * s := Nat.sub_mul _ _ _
      have hn1 : (xs.length + 1) * s = xs.length * s + s := Nat.succ_mul _ _
      have hRl := insR_length (v := v) (Nat.le_of_lt hi)
      have hRs : ∀ x, x ∈ insR xs i v → x.length = s := fun x hx' => by
        unfold insR at hx'
        rcases List.mem_append.1 hx' with hx' | hx'
        · exact b4 x (List.mem_of_mem_take hx')
        · rcases List.mem_cons.1 hx' with rfl | hx'
          · exact hv
          · exact b4 x (List.mem_of_mem_drop hx')
      have hRows := insR_rows (H := H) (Nat.le_of_lt hi) b4 hv b5 d5 b8 (fun j y hy => by
        have := d8 0 v rfl j y hy
        rwa [Nat.zero_mul, Nat.zero_add] at this)
      have hLget : ∀ k, k < (xs.length + 1) * s → (cs.take (i * s) ++ (vs ++ cs.drop (i * s)))[k]? = if k < i * s then cs[k]? else if k < (i + 1) * s then vs[k - i * s]? else (cs.drop (i * s))[k - (i + 1) * s]? := fun k hk => by
        have htl : (cs.take (i * s)).length = i * s := by rw [List.length_take, b5]; omega
        by_cases g1 : k < i * s
        · rw [if_pos g1, List.getElem?_append_left (by omega), List.getElem?_take, if_pos g1]
        · rw [if_neg g1, List.getElem?_append_right (by omega), htl]
          by_cases g2 : k < (i + 1) * s
          · rw [if_pos g2, List.getElem?_append_left (by omega)]
          · rw [if_neg g2, List.getElem?_append_right (by omega), d5]
            congr 1; omega
      -- what remains, once the row lies somewhere
      have fin : ∀ (w' : World) (st : St) (l : Loc) (c2 : Array Value) (e2 : TypeId) (cap : Nat), st.ob = [.dead, .row s [v]] →
          Rel ⟨fun b => ∃ (i : Nat) (o : Ob), [Ob.row s xs, Ob.row s [v]][i]? = some o ∧ o.live = true ∧ (loc i).r = true ∧ (loc i).b = b, [.row s xs, .row s [v]], loc⟩ H w 0 H loc w' st ⟨#[], []⟩ →
          l.r = true → H l.b = none → (loc 1).b ≠ l.b → ((∃ (i : Nat) (o : Ob), [Ob.row s xs, Ob.row s [v]][i]? = some o ∧ o.live = true ∧ (loc i).r = true ∧ (loc i).b = l.b) ∨ w.heap.size ≤ l.b) →
          w'.heap[l.b]? = some (.cells c2 e2 (0, 0)) → c2.size = l.n → l.o + (0 + cap) * s ≤ l.n → xs.length + 1 ≤ cap → (∀ k, k < (xs.length + 1) * s → c2[l.o + k]? = (cs.take (i * s) ++ (vs ++ cs.drop (i * s)))[k]?) →
          ∃ v' H' loc' r obs', (r = D.ref 2 0 (xs.length + 1) ∧ obs' = [Ob.dead, .row s [v], .row s (insR xs i v)]) ∧ Ending.returned (.slice (some ⟨l.b, l.o + 0 * s, none⟩) (xs.length + 1) cap) = .returned v' ∧ V H' loc' obs' v' r ∧ Sr H' loc' obs' w' ∧
            Grows (fun b => ∃ (i : Nat) (o : Ob), [Ob.row s xs, Ob.row s [v]][i]? = some o ∧ o.live = true ∧ (loc i).r = true ∧ (loc i).b = b) H H' w w' ∧
            (∀ (i : Nat) o, obs'[i]? = some o → o.live = true → (loc' i).r = true → (∃ (k : Nat) (o' : Ob), [Ob.row s xs, Ob.row s [v]][k]? = some o' ∧ o'.live = true ∧ (loc k).r = true ∧ (loc k).b = (loc' i).b) ∨ w.heap.size ≤ (loc' i).b) ∧
            stays [.row s xs, .row s [v]] obs' loc loc' := by
        intro w' st l c2 e2 cap hst r1 hlr hlH hl1 hown hw' hc2 hfit hcap hcells
        obtain ⟨tm, ob, n0⟩ := st
        dsimp only at hst
        subst hst
        have hfit2 : (xs.length + 1) * s ≤ (0 + cap) * s := Nat.mul_le_mul_right s (by omega)
        have ra := r1.adopt (.row s (insR xs i v)) l (fun _ => hlH) (fun _ k y hk hly hrk hb => by
            match k, hk with
            | 0, hk => simp at hk; subst hk; cases hly
            | 1, hk => exact hl1 hb
            | k + 2, hk => simp at hk) (fun _ => hown)
          (.inr ⟨hlr, c2, e2, hw', hc2, by rw [hRl]; omega, hRs, fun k x hk j y hj => by
            obtain ⟨u, a1, a2⟩ := hRows k x hk j y hj
            have hkj : k * s + j < (xs.length + 1) * s := by
              have g1 := lt_of_get hk
              have g2 := lt_of_get hj
              rw [hRl] at g1
              rw [hRs x (List.mem_of_getElem? hk)] at g2
              have : (k + 1) * s ≤ (xs.length + 1) * s := Nat.mul_le_mul_right s g1
              rw [Nat.succ_mul] at this; omega
            exact ⟨u, by rw [Nat.add_assoc, hcells _ hkj]; exact a1, a2⟩⟩)
        refine ⟨_, H, _, _, _, ⟨rfl, rfl⟩, rfl, ?_, ra.sr, ra.gr, ra.own, ra.ent⟩
        have hloc : locPush loc [Ob.dead, Ob.row s [v]].length l 2 = l := if_pos rfl
        have := V.ref (H := H) (loc := locPush loc [Ob.dead, Ob.row s [v]].length l) (obs := [.dead, .row s [v]] ++ [.row s (insR xs i v)]) 2 0 (xs.length + 1) cap s (insR xs i v) rfl (by rw [hRl]; omega) hcap (by rw [hRl]; omega) (by rw [hloc]; exact hlr) (by rw [hloc]; exact hfit)
        rw [hloc] at this
        exact this
      have hcap63 : (xs.length + 1) * nb ≤ 140737488355328 := by
        have : (xs.length + 1) * nb ≤ 1000001 * 1000 := Nat.mul_le_mul (by omega) hnb
        omega
      have fz : ∀ (k : Nat) (b : Nat) (cc : Array Value) (ee : TypeId), w.heap[b]? = some (.cells cc ee (0, 0)) → w.frozen? ⟨b, k, none⟩ = false := fun k b cc ee h => by simp [World.frozen?, h]
      by_cases hroom : xs.length + 1 ≤ c
      · -- there is room
        have hcs : (xs.length + 1) * s ≤ (0 + c) * s := Nat.mul_le_mul_right s (by omega)
        have hszc : (xs.length + 1) * s ≤ ca.size - (loc 0).o ∧ (loc 0).o ≤ ca.size := by omega
        refine (hshift (loc 0).b ((loc 0).o + 0 * s) xs.length c i (loc 1).b ((loc 1).o + 0 * s) vc cs vs w hi hroom hlen hne b5 d5 cellA
          (fun j hj => by
            rw [Nat.zero_mul, Nat.add_zero]
            simp only [World.cell?, b1, Option.isSome_none, Bool.false_eq_true, if_false]
            rw [Array.getElem?_eq_getElem (by omega)]; rfl)
          (fun j _ => fz _ _ _ _ b1) cellB b7 d7 ev ea cv.size ca.size (by simp [World.shape?, d1]) (by simp [World.shape?, b1]) (by omega) (fz _ _ _ _ d1) (fz _ _ _ _ d1)).mono fun e' w' ⟨he, hw'⟩ => ?_
        subst he
        have p1 : (loc 0).o + 0 * s + (i + 1) * s + (cs.drop (i * s)).length ≤ ca.size := by rw [hdrop]; omega
        obtain ⟨q1, q2, q3, q4, q5, q6⟩ := setCells_heap (loc 0).b (cs.drop (i * s)) ((loc 0).o + 0 * s + (i + 1) * s) w.drew ca ea b1 p1
        have p2 : (loc 0).o + 0 * s + i * s + vs.length ≤ (putAt ca.toList ((loc 0).o + 0 * s + (i + 1) * s) (cs.drop (i * s))).toArray.size := by
          have hcaL : ca.toList.length = ca.size := Array.length_toList
          rw [List.size_toArray, putAt_length (by rw [hcaL]; exact p1), hcaL, d5]; omega
        obtain ⟨t1, t2, t3, t4, t5, t6⟩ := setCells_heap (loc 0).b vs ((loc 0).o + 0 * s + i * s) _ _ ea q1 p2
        rw [← hw'] at t1 t2 t3 t4 t5 t6
        have rk := r0.setOb (id := 0) (o := .row s xs) (o' := .dead) rfl rfl hr (by simp [Ob.sameShape]) (w' := w') (fun b hb => (t2 b hb).trans (q2 b hb)) (t3.trans q3) (t4.trans q4) (t5.trans q5) (t6.trans q6) trivial
        refine fin w' _ ⟨(loc 0).b, (loc 0).o, (loc 0).n, true⟩ _ ea c rfl rk rfl (hsr.apart 0 _ rfl rfl hr) hne (.inl ⟨0, _, rfl, rfl, hr, rfl⟩) t1 (by
          have hcaL : ca.toList.length = ca.size := Array.length_toList
          rw [List.size_toArray, putAt_length (by simpa using p2), putAt_length (by rw [hcaL]; exact p1), hcaL, b2]) hn hroom (fun k hk => ?_)
        show ((putAt (putAt ca.toList ((loc 0).o + 0 * s + (i + 1) * s) (cs.drop (i * s))).toArray.toList ((loc 0).o + 0 * s + i * s) vs).toArray)[(loc 0).o + k]? = _
        have hcaL : ca.toList.length = ca.size := Array.length_toList
        rw [List.getElem?_toArray, two_puts (by rw [hcaL]; exact p1) (by rw [d5, hcaL]; omega), hLget k hk, hdrop, d5]
        by_cases g1 : k < i * s
        · rw [if_neg (by omega), if_neg (by omega), if_pos g1, Array.getElem?_toList]
          obtain ⟨u, hu⟩ := get_of_lt (l := cs) (i := k) (by omega)
          rw [hu, b6 k u hu]
        · by_cases g2 : k < (i + 1) * s
          · rw [if_pos (by omega), if_neg g1, if_pos g2]
            congr 1; omega
          · rw [if_neg (by omega), if_pos (by omega), if_neg g1, if_neg g2]
            congr 1; omega
      · -- there is none
        have hRf := grownCap_ge w (xs.length + 1) c e
        refine (hgrow (loc 0).b ((loc 0).o + 0 * s) xs.length c i (loc 1).b ((loc 1).o + 0 * s) vc cs vs w hi hc (by omega) hcap63 b5 d5 cellA cellB b7 d7).mono fun e' w' ⟨he, hw'⟩ => ?_
        subst he
        generalize grownCap w (xs.length + 1) c e = G at hRf hw' ⊢
        have hG : G * s = (xs.length + 1) * s + (G - (xs.length + 1)) * s := by rw [← Nat.add_mul]; congr 1; omega
        have hni : (xs.length + 1 - i) * s = (xs.length + 1) * s - i * s := Nat.sub_mul _ _ _
        obtain ⟨ROW, hROW⟩ : ∃ ROW : Array Value, ROW = (cs.take (i * s)).toArray ++ Builtin.zeroCells zc (xs.length + 1 - i) ++ Builtin.zeroCells zc (G - (xs.length + 1)) := ⟨_, rfl⟩
        rw [← hROW] at hw'
        have htl : (cs.take (i * s)).length = i * s := by rw [List.length_take, b5]; omega
        have hRsz : ROW.size = G * s := by
          rw [hROW, Array.size_append, Array.size_append, zeroCells_size, zeroCells_size, hzc, List.size_toArray, htl, hni]; omega
        have hROL : ROW.toList.length = ROW.size := Array.length_toList
        have hnew : ((w.alloc (.cells ROW e)).drew).heap[w.heap.size]? = some (.cells ROW e (0, 0)) := heap_alloc_new w _
        have p1 : i * s + vs.length ≤ ROW.size := by rw [hRsz, d5]; omega
        obtain ⟨q1, q2, q3, q4, q5, q6⟩ := setCells_heap w.heap.size vs (i * s) (w.alloc (.cells ROW e)).drew ROW e hnew p1
        have p2 : (i + 1) * s + (cs.drop (i * s)).length ≤ (putAt ROW.toList (i * s) vs).toArray.size := by
          rw [List.size_toArray, putAt_length (by rw [hROL]; exact p1), hROL, hRsz, hdrop]; omega
        obtain ⟨t1, t2, t3, t4, t5, t6⟩ := setCells_heap w.heap.size (cs.drop (i * s)) ((i + 1) * s) (((w.alloc (.cells ROW e)).drew.setCells w.heap.size (i * s) vs).drew) _ e q1 p2
        rw [← hw'] at t1 t2 t3 t4 t5 t6
        have hasz : (w.alloc (.cells ROW e)).drew.heap.size = w.heap.size + 1 := by simp
        have hold : ∀ b, b < w.heap.size → w'.heap[b]? = w.heap[b]? := fun b hb => by
          rw [t2 b (by omega)]
          show ((w.alloc (.cells ROW e)).drew.setCells w.heap.size (i * s) vs).heap[b]? = _
          rw [q2 b (by omega)]
          exact heap_alloc_old w _ hb
        have hwsz : w'.heap.size = w.heap.size + 1 := by
          rw [t3]
          show ((w.alloc (.cells ROW e)).drew.setCells w.heap.size (i * s) vs).heap.size = _
          rw [q3, hasz]
        have rk := (r0.kill (id := 0) (o := .row s xs) rfl).resolve_right (by simp)
        have rw1 := rk.wider hold (by omega) (t4.trans q4) (t5.trans q5) (t6.trans q6)
        have hHn : H w.heap.size = none := by
          cases hx' : H w.heap.size with
          | none => rfl
          | some c' => exact absurd (hsr.H_lt hx') (by omega)
        have hb1 : (loc 1).b < w.heap.size := hsr.live_lt (i := 1) rfl rfl hr2
        have := fin w' _ ⟨w.heap.size, 0, G * s, true⟩ _ e G rfl rw1 rfl hHn (by show (loc 1).b ≠ w.heap.size; omega) (.inr (Nat.le_refl _)) t1 (by
          rw [List.size_toArray, putAt_length (by simpa using p2), putAt_length (by rw [hROL]; exact p1), hROL, hRsz]) (by show 0 + (0 + G) * s ≤ G * s; rw [Nat.zero_add, Nat.zero_add]; exact Nat.le_refl _) hRf (fun k hk => by
          show ((putAt (putAt ROW.toList (i * s) vs).toArray.toList ((i + 1) * s) (cs.drop (i * s))).toArray)[0 + k]? = _
          rw [List.getElem?_toArray, two_puts (by rw [hROL]; exact p1) (by rw [hdrop, hROL, hRsz]; omega), hLget k hk, hdrop, d5, Nat.zero_add]
          by_cases g1 : k < i * s
          · rw [if_neg (by omega), if_neg (by omega), if_pos g1, hROW, Array.append_assoc, Array.toList_append, List.toList_toArray, List.getElem?_append_left (by omega), List.getElem?_take, if_pos g1]
          · by_cases g2 : k < (i + 1) * s
            · rw [if_neg (by omega), if_pos (by omega), if_neg g1, if_pos g2]
            · rw [if_pos (by omega), if_neg g1, if_neg g2])
        simpa using this
end Go.Ab

/- slices.Insert at a number: a contract. -/
namespace Go.Proofs.Ytagphggcdmjlpaa.P
open Go.Ab Go.Proofs Go.Shelf Go.RowKit Go.Lib
set_option maxHeartbeats 4000000 in
set_option maxRecDepth 100000 in
theorem insShift70 (b off n c i vb voff vc : Nat) (cs vs : List Value) (w : World) (hi : i < n) (hroom : n + 1 ≤ c) (hn6 : n ≤ 1000000) (hvb : vb ≠ b)
    (hcl : cs.length = n) (hvl : vs.length = 1)
    (hcs : ∀ j v, cs[j]? = some v → w.cell? ⟨b, off + j, none⟩ = some v) (hsp : ∀ j, j < (n + 1) → (w.cell? ⟨b, off + j, none⟩).isSome = true) (hfz : ∀ j, j < (n + 1) → w.frozen? ⟨b, off + j, none⟩ = false)
    (hvs : ∀ j v, vs[j]? = some v → w.cell? ⟨vb, voff + j, none⟩ = some v) (h1c : ∀ v ∈ cs, v.oneCell' = true) (h1v : ∀ v ∈ vs, v.oneCell' = true)
    (tA tB : TypeId) (kA kB : Nat) (hsa : w.shape? vb = some (tA, kA)) (hsb : w.shape? b = some (tB, kB)) (hkB : kB ≠ 0) (hfa : w.frozen? ⟨vb, voff, none⟩ = false) (hfe : w.frozen? ⟨vb, kA, none⟩ = false) :
    Calls Try.prog 70 #[.slice (some ⟨b, off, none⟩) n c, .int .i64 i, .slice (some ⟨vb, voff, none⟩) 1 vc] w fun e w' =>
      e = .returned (.slice (some ⟨b, off, none⟩) (n + 1) c) ∧ w' = (w.drew.setCells b (off + (i + 1)) (cs.drop (i))).setCells b (off + i) vs := by
  have t0 := Try.underlying0; have a0 := Try.isAgg0; have z0 := Try.sizeOf0; have v0 := Try.zeroValue0; have t3 := Try.underlying3; have a3 := Try.isAgg3; have z3 := Try.sizeOf3; have v3 := Try.zeroValue3; have t4 := Try.underlying4; have a4 := Try.isAgg4; have z4 := Try.sizeOf4; have v4 := Try.zeroValue4; have t22 := Try.underlying58; have a22 := Try.isAgg58; have z22 := Try.sizeOf58; have v22 := Try.zeroValue58; have z61 := Try.sizeOf3
  have u0 := run_underlying Try.underlying0; have u3 := run_underlying Try.underlying3; have u4 := run_underlying Try.underlying4; have u22 := run_underlying Try.underlying58
  have hz2 : ¬ ((i : Int) = (n : Int)) := by omega
  have hsz : (Try.prog.info? 3).map (·.size) = some 1 := by kernel_rfl
  have hov : ∀ lb cb, (callFunc 95 #[.slice (some ⟨vb, voff, none⟩) 1 vc, .slice (some ⟨b, off + (i + 1), none⟩) lb cb]).run Try.prog w = .ok (.value (.bool false)) w := fun lb cb => by
    rw [run_callFunc_extern Try.func95 (by kernel_rfl) (by kernel_rfl) (by kernel_rfl) (e := Extern.SlicesOverlaps.overlaps #[58, 58] #[4]) (by kernel_rfl),
      Lib.run_overlaps_apart w 58 4 3 Try.underlying58 1 Try.sizeOf3 ⟨vb, voff, none⟩ ⟨b, off + (i + 1), none⟩ 1 vc lb cb hvb tA tB kA kB hsa hsb hkB hfa hfe]
    rfl
  have hdl : (cs.drop (i)).length = (n - i) := by rw [List.length_drop, hcl]
  have mixed : Try.prog.follows .mixedOrders = true := by kernel_rfl
  have hw1 : IntKind.i64.wrap ((i : Int) + 1) = (i : Int) + 1 := by rw [IntKind.wrap_i64]; omega
  have hw2 : IntKind.i64.wrap ((n : Int) + 1) = (n : Int) + 1 := by rw [IntKind.wrap_i64]; omega
  have hb1 : (0 : Int) ≤ (i : Int) + 1 := by omega
  have hin : i ≤ n := by omega
  have htn : ((i : Int) + 1).toNat = i + 1 := by omega
  have hb2 : ¬ (c = i + 1) := by omega
  have hb3 : (i : Int) ≤ (n : Int) + 1 := by omega
  have hb4 : ¬ (c = i) := by omega
  have hcp1 : ∀ ty dc sc, (Builtin.copy_ #[58, 58] ty #[.slice (some ⟨b, off + (i + 1), none⟩) (n - i) dc, .slice (some ⟨b, off + i, none⟩) (n + 1 - i) sc]).run Try.prog w.drew = .ok (goInt (Nat.min (n + 1 - i) (n - i))) (w.drew.setCells b (off + (i + 1)) (cs.drop (i))) := fun ty dc sc =>
    run_copy_k w.drew _ _ ty 3 1 b (off + (i + 1)) (n - i) dc ⟨b, off + i, none⟩ (n + 1 - i) sc (cs.drop (i)) Try.underlying58 hsz (by rw [hdl]; simp only [Nat.min_def]; split <;> omega)
      (fun j v hj => by rw [Addr.add_lit, Nat.add_assoc]; exact hcs (i + j) v (by rwa [List.getElem?_drop] at hj))
      (fun j hj => by rw [Nat.add_assoc]; exact hsp _ (by omega)) (fun j hj => by rw [Nat.add_assoc]; exact hfz _ (by omega)) (fun v hv => h1c v (List.mem_of_mem_drop hv))
  obtain ⟨W1, hW1⟩ : ∃ W1, W1 = w.drew.setCells b (off + (i + 1)) (cs.drop (i)) := ⟨_, rfl⟩
  have hsp1 : ∀ k, k < (n + 1) → (W1.cell? ⟨b, off + k, none⟩).isSome = true := fun k hk => by
    rw [hW1]
    exact isSome_setCells b _ _ _ (fun j hj => by rw [Nat.add_assoc]; exact hsp _ (by omega)) _ (hsp k hk)
  have hcp2 : ∀ (W : World), (∀ x, W.cell? x = W1.cell? x) → (∀ x, W.frozen? x = W1.frozen? x) → ∀ ty dc, (Builtin.copy_ #[58, 58] ty #[.slice (some ⟨b, off + i, none⟩) (n + 1 - i) dc, .slice (some ⟨vb, voff, none⟩) 1 vc]).run Try.prog W = .ok (goInt (Nat.min 1 (n + 1 - i))) (W.setCells b (off + i) vs) := fun W hWc hWf ty dc =>
    run_copy_k W _ _ ty 3 1 b (off + i) (n + 1 - i) dc ⟨vb, voff, none⟩ 1 vc vs Try.underlying58 hsz (by rw [hvl]; simp only [Nat.min_def]; split <;> omega)
      (fun j v hj => by
        rw [Addr.add_lit, hWc, hW1, World.cell?_setCells_out b _ _ _ _ (fun h _ => absurd h hvb)]
        exact hvs j v hj)
      (fun j hj => by rw [hWc, Nat.add_assoc]; exact hsp1 _ (by omega)) (fun j hj => by rw [hWf, hW1, World.frozen?_setCells, Nat.add_assoc]; exact hfz _ (by omega)) h1v
  rw [← hW1] at hcp1
  go_enter Try.func70, Try.ntmps70
  go_wp2_with (simp only [hov])
  go_region_law_o (refine step_copy_runI rfl _ _ 58 58 rfl _ _ (by simp [Act.eval, Act.put]) (by simp [Act.eval, Act.put]) (hcp1 _ _ _) ?_)
  go_wp2_with (at_builtin; refine wpList_copy_runI _ rfl _ _ 58 58 rfl _ _ rfl rfl (hcp2 _ (fun _ => rfl) (fun _ => rfl) _ _) ?_)
  go_ret
  (exact ⟨rfl, rfl⟩)

set_option maxHeartbeats 4000000 in
set_option maxRecDepth 100000 in
theorem insGrow70 (hzs : (Value.int .i64 0).cells.size = 1) (hinfo : (Try.prog.info? 3).map (fun i => (i.zero, i.size, i.bytes)) = some (some (.int .i64 0), 1, 8))
    (b off n c i vb voff vc : Nat) (cs vs : List Value) (w : World) (hi : i < n) (hnc : n ≤ c) (hroom : c < n + 1) (hbig : (n + 1) * 8 ≤ 140737488355328)
    (hcl : cs.length = n) (hvl : vs.length = 1)
    (hcs : ∀ j v, cs[j]? = some v → w.cell? ⟨b, off + j, none⟩ = some v)
    (hvs : ∀ j v, vs[j]? = some v → w.cell? ⟨vb, voff + j, none⟩ = some v) (h1c : ∀ v ∈ cs, v.oneCell' = true) (h1v : ∀ v ∈ vs, v.oneCell' = true) :
    Calls Try.prog 70 #[.slice (some ⟨b, off, none⟩) n c, .int .i64 i, .slice (some ⟨vb, voff, none⟩) 1 vc] w fun e w' =>
      e = .returned (.slice (some ⟨w.heap.size, 0, none⟩) (n + 1) (grownCap w (n + 1) c 3)) ∧
      w' = (((w.alloc (.cells ((cs.take (i)).toArray ++ Builtin.zeroCells (Value.int .i64 0).cells (n + 1 - i) ++ Builtin.zeroCells (Value.int .i64 0).cells (grownCap w (n + 1) c 3 - (n + 1))) 3)).drew.setCells w.heap.size (i) vs).drew).setCells w.heap.size ((i + 1)) (cs.drop (i)) := by
  have t0 := Try.underlying0; have a0 := Try.isAgg0; have z0 := Try.sizeOf0; have v0 := Try.zeroValue0; have t3 := Try.underlying3; have a3 := Try.isAgg3; have z3 := Try.sizeOf3; have v3 := Try.zeroValue3; have t4 := Try.underlying4; have a4 := Try.isAgg4; have z4 := Try.sizeOf4; have v4 := Try.zeroValue4; have t22 := Try.underlying58; have a22 := Try.isAgg58; have z22 := Try.sizeOf58; have v22 := Try.zeroValue58; have z61 := Try.sizeOf3
  have u0 := run_underlying Try.underlying0; have u3 := run_underlying Try.underlying3; have u4 := run_underlying Try.underlying4; have u22 := run_underlying Try.underlying58
  have mixed : Try.prog.follows .mixedOrders = true := by kernel_rfl
  obtain ⟨i0, hi0, hz0, hzs0, hzb⟩ := info_parts hinfo
  have hz2 : ¬ ((i : Int) = (n : Int)) := by omega
  have hz3 : (c : Int) < (n : Int) + 1 := by omega
  have hsz : (Try.prog.info? 3).map (·.size) = some 1 := by rw [hi0]; simp [hzs0]
  have hbw : b < w.heap.size := block_lt_of_cell (hcs 0 _ (List.getElem?_eq_getElem (by omega)))
  have hvw : vb < w.heap.size := block_lt_of_cell (hvs 0 _ (List.getElem?_eq_getElem (by omega)))
  have hkk : (n : Int) + 1 - (i : Int) = ((n + 1 - i : Nat) : Int) := by omega
  have hik : i + (n + 1 - i) = n + 1 := by omega
  have hold : (Builtin.firstCells i0.size i (.slice (some ⟨b, off, none⟩) i c)).run Try.prog w.drew = .ok (cs.take (i)).toArray w.drew := by
    rw [hzs0]
    exact run_firstCells_some w.drew 1 i ⟨b, off, none⟩ i c (cs.take (i)) (by rw [List.length_take]; omega) (fun j v hj => by
      rw [Addr.add_lit]
      rw [List.getElem?_take] at hj
      split at hj
      · exact hcs j v hj
      · cases hj)
  have hrz : ∀ ty, (Builtin.append_ #[58, 3] ty #[.slice (some ⟨b, off, none⟩) i c, .int .i64 ((n : Int) + 1 - (i : Int))]).run Try.prog w =
      .ok (.slice (some ⟨w.heap.size, 0, none⟩) (n + 1) (grownCap w (n + 1) c 3)) (w.drew.alloc (.cells ((cs.take (i)).toArray ++ Builtin.zeroCells (Value.int .i64 0).cells (n + 1 - i) ++ Builtin.zeroCells (Value.int .i64 0).cells (grownCap w (n + 1) c 3 - (n + 1))) 3)) := fun ty => by
    have h := Lib.run_append_grow_zeros w 58 3 ty 3 i0 _ .i64 .i64 Try.underlying58 Try.underlying3 hi0 hz0 (some ⟨b, off, none⟩) i c (cs.take (i)) hold (n + 1 - i) (by omega) (by omega) (by omega) (by omega) (by rw [hzb]; omega) (by rw [hzb, hik]; exact growslice_fits hroom hbig)
    rw [hik] at h
    rw [hkk]
    exact h
  obtain ⟨G, hG⟩ : ∃ G, G = grownCap w (n + 1) c 3 := ⟨_, rfl⟩
  obtain ⟨ROW, hROW⟩ : ∃ ROW : Array Value, ROW = (cs.take (i)).toArray ++ Builtin.zeroCells (Value.int .i64 0).cells (n + 1 - i) ++ Builtin.zeroCells (Value.int .i64 0).cells (G - (n + 1)) := ⟨_, rfl⟩
  rw [← hG] at hrz ⊢
  rw [← hROW] at hrz ⊢
  have hRl : (n + 1) ≤ ROW.size := by
    rw [hROW, Array.size_append, Array.size_append, Ab.zeroCells_size, Ab.zeroCells_size, hzs]
    simp
    omega
  obtain ⟨W1, hW1⟩ : ∃ W1, W1 = w.drew.alloc (.cells ROW 3) := ⟨_, rfl⟩
  rw [← hW1] at hrz
  have hN : ∀ j, j < (n + 1) → (W1.cell? ⟨w.heap.size, j, none⟩).isSome = true := fun j hj => by
    rw [hW1, World.cell?_alloc_at (w := w.drew) ROW _ w.heap.size j rfl, Array.getElem?_eq_getElem (by omega)]; rfl
  have hNf : ∀ j, W1.frozen? ⟨w.heap.size, j, none⟩ = false := fun j => by rw [hW1]; exact World.frozen?_alloc_at (w := w.drew) ROW _ w.heap.size j rfl
  have hOb : ∀ j v, w.cell? ⟨b, j, none⟩ = some v → W1.cell? ⟨b, j, none⟩ = some v := fun j v h => by rw [hW1, World.cell?_alloc_past (w := w.drew) _ b j hbw]; exact h
  have hOv : ∀ j v, w.cell? ⟨vb, j, none⟩ = some v → W1.cell? ⟨vb, j, none⟩ = some v := fun j v h => by rw [hW1, World.cell?_alloc_past (w := w.drew) _ vb j hvw]; exact h
  have hcpA : ∀ (W : World), (∀ x, W.cell? x = W1.cell? x) → (∀ x, W.frozen? x = W1.frozen? x) → ∀ ty dc, (Builtin.copy_ #[58, 58] ty #[.slice (some ⟨w.heap.size, i, none⟩) (n + 1 - i) dc, .slice (some ⟨vb, voff, none⟩) 1 vc]).run Try.prog W = .ok (goInt (Nat.min 1 (n + 1 - i))) (W.setCells w.heap.size (i) vs) := fun W hWc hWf ty dc =>
    run_copy_k W _ _ ty 3 1 w.heap.size (i) (n + 1 - i) dc ⟨vb, voff, none⟩ 1 vc vs Try.underlying58 hsz (by rw [hvl]; simp only [Nat.min_def]; split <;> omega)
      (fun j v hj => by rw [Addr.add_lit, hWc]; exact hOv _ v (hvs j v hj))
      (fun j hj => by rw [hWc]; exact hN _ (by omega)) (fun j hj => by rw [hWf]; exact hNf _) h1v
  have hGn : n + 1 ≤ G := by rw [hG]; exact grownCap_ge w _ _ _
  have hG63 : G ≤ 9223372036854775807 := by
    have := grownCap_le_maxLen w (n + 1) c 3 (by unfold maxLen; omega)
    rw [← hG] at this
    unfold maxLen at this
    omega
  have hGi : ¬ (G = i) := by omega
  have hGim : ¬ (G = i + 1) := by omega
  have hci : ¬ (c = i) := by omega
  have hbN : b ≠ w.heap.size := by omega
  have hdl : (cs.drop (i)).length = (n - i) := by rw [List.length_drop, hcl]
  have hcpB : ∀ (W : World), (∀ x, W.cell? x = (W1.setCells w.heap.size (i) vs).cell? x) → (∀ x, W.frozen? x = (W1.setCells w.heap.size (i) vs).frozen? x) → ∀ ty dc sc, (Builtin.copy_ #[58, 58] ty #[.slice (some ⟨w.heap.size, (i + 1), none⟩) (n - i) dc, .slice (some ⟨b, off + i, none⟩) (n - i) sc]).run Try.prog W = .ok (goInt (Nat.min (n - i) (n - i))) (W.setCells w.heap.size ((i + 1)) (cs.drop (i))) := fun W hWc hWf ty dc sc =>
    run_copy_k W _ _ ty 3 1 w.heap.size ((i + 1)) (n - i) dc ⟨b, off + i, none⟩ (n - i) sc (cs.drop (i)) Try.underlying58 hsz (by rw [hdl]; simp only [Nat.min_def]; split <;> omega)
      (fun j v hj => by
        rw [Addr.add_lit, hWc, World.cell?_setCells_out _ _ _ _ _ (fun h _ => absurd h hbN), Nat.add_assoc]
        exact hOb _ v (hcs (i + j) v (by rwa [List.getElem?_drop] at hj)))
      (fun j hj => by rw [hWc]; exact isSome_setCells _ _ _ _ (fun t ht => hN _ (by omega)) _ (hN _ (by omega)))
      (fun j hj => by rw [hWf, World.frozen?_setCells]; exact hNf _) (fun v hv => h1c v (List.mem_of_mem_drop hv))
  subst hW1
  have hE1 : ∀ x, ((w.alloc (.cells ROW 3)).drew).cell? x = (w.drew.alloc (.cells ROW 3)).cell? x := fun x => rfl
  have hE2 : ∀ x, ((w.alloc (.cells ROW 3)).drew).frozen? x = (w.drew.alloc (.cells ROW 3)).frozen? x := fun x => rfl
  have hF1 : ∀ x, (((w.alloc (.cells ROW 3)).drew.setCells w.heap.size (i) vs).drew).cell? x = ((w.drew.alloc (.cells ROW 3)).setCells w.heap.size (i) vs).cell? x := fun x => rfl
  have hF2 : ∀ x, (((w.alloc (.cells ROW 3)).drew.setCells w.heap.size (i) vs).drew).frozen? x = ((w.drew.alloc (.cells ROW 3)).setCells w.heap.size (i) vs).frozen? x := fun x => rfl
  have hw1 : IntKind.i64.wrap ((i : Int) + 1) = (i : Int) + 1 := by rw [IntKind.wrap_i64]; omega
  have hw2 : IntKind.i64.wrap ((n : Int) + 1) = (n : Int) + 1 := by rw [IntKind.wrap_i64]; omega
  have hw3 : IntKind.i64.wrap ((n : Int) + 1 - (i : Int)) = (n : Int) + 1 - (i : Int) := by rw [IntKind.wrap_i64]; omega
  have hb1 : (0 : Int) ≤ (i : Int) + 1 := by omega
  have hin : i ≤ n := by omega
  have htn : ((i : Int) + 1).toNat = i + 1 := by omega
  have hb3 : (i : Int) ≤ (n : Int) := by omega
  clear hkk hik hold hROW hG hRl
  go_enter Try.func70, Try.ntmps70
  go_wp2_with (first
    | (at_builtin; refine Lib.wpList_append_run _ rfl _ _ _ _ rfl _ _ rfl rfl _ _ (hrz _) ?_)
    | (at_builtin; refine wpList_copy_runI _ rfl _ _ 58 58 rfl _ _ rfl rfl (hcpA _ hE1 hE2 _ _) ?_)
    | (at_builtin; refine wpList_copy_runI _ rfl _ _ 58 58 rfl _ _ rfl rfl (hcpB _ (fun _ => rfl) (fun _ => rfl) _ _ _) ?_))
  go_region_law_o (refine step_copy_runI rfl _ _ 58 58 rfl (.slice (some ⟨w.heap.size, (i + 1), none⟩) (n - i) (G - (i + 1))) (.slice (some ⟨b, off + i, none⟩) (n - i) (c - i)) (by simp [Act.eval, Act.put]) (by simp [Act.eval, Act.put]) (hcpB _ hF1 hF2 3 (G - (i + 1)) (c - i)) ?_)
  go_wp2
  go_ret
  exact ⟨rfl, rfl⟩

theorem insertI (xs : List (List PV)) (v : List PV) (hv : v.length = 1) (i : Nat) (hi : i < xs.length) (hlen : xs.length ≤ 1000000) :
    ACalls Try.prog 70 [.ref 0 0 xs.length, iD i, .ref 1 0 1] [.row 1 xs, .row 1 [v]] (fun r obs' => r = .ref 2 0 (xs.length + 1) ∧ obs' = [.dead, .row 1 [v], .row 1 (insR xs i v)]) :=
  insert_calls (nb := 8) (by decide) (by decide) (Value.int .i64 0).cells (by kernel_rfl) (by simpa only [Nat.mul_one] using insShift70) (by simpa only [Nat.mul_one] using insGrow70 (by kernel_rfl) (by kernel_rfl)) xs v hv i hi hlen

end Go.Proofs.Ytagphggcdmjlpaa.P

/- Clone, BinarySearch and Insert at numbers; Clone at words: contracts. -/
namespace Go.Proofs.Ytagphggcdmjlpaa.P
open Go.Ab Go.Proofs.Ytagphggcdmjlpaa.T


theorem cloneI (xs : List (List PV)) (hx : ∀ x, x ∈ xs → x.length = 1) (hn : xs.length ≤ 1000000) :
    ACalls Try.prog 45 [.p (.sl xs)] [] (fun r obs => r = .ref 0 0 xs.length ∧ obs = [.row 1 xs]) := by
  refine acalln_fn [2] Try.func45 rfl rfl Try.ntmps45 (by simp) fun R hR => ?_
  (refine awp_reg_seq [0] fun K hK => ?_; (repeat' ((refine al_r rfl fun K' hK' => ?_); (repeat (simp only [go_sem, simprocAttr])); ((refine hK' _ _ ?_) <;> clear hK' K'))); all_goals (refine al_nil ?_; (simp only [go_sem, simprocAttr]); refine hK _ ?_; clear hK K))
  refine awp_seq_k fun K hK => ?_
  refine awp_reg_seq [0, 4] fun K hK => ?_
  repeat' ((refine al_r rfl fun K' hK' => ?_); (repeat (simp only [go_sem, simprocAttr])); ((refine hK' _ _ ?_) <;> clear hK' K'))
  refine al_run rfl rfl (by decide) fun K' hK' => ?_
  simp only [go_sem, simprocAttr]
  refine ⟨⟨_, rfl⟩, ?_⟩
  intro b hb
  refine hK' _ _ ?_
  clear hK' K'
  (refine al_nil ?_; (simp only [go_sem, simprocAttr]); refine hK _ ?_; clear hK K)
  refine awp_if (b) rfl (fun hc => ?_) (fun hc => ?_)
  · have hx0 : xs = [] := by
      cases xs with
      | nil => rfl
      | cons y l => have := hb (by simp); rw [this] at hc; cases hc
    subst hx0
    (refine awp_reg_seq [2] fun K hK => ?_; (repeat' ((refine al_r rfl fun K' hK' => ?_); (repeat (simp only [go_sem, simprocAttr])); ((refine hK' _ _ ?_) <;> clear hK' K'))); all_goals (refine al_nil ?_; (simp only [go_sem, simprocAttr]); refine hK _ ?_; clear hK K))
    refine awp_born 2 1 rfl ?_
    refine awp_ret (hR _ _ [0] (.inl rfl) rfl (by simp) ?_)
    refine ⟨?_, ?_⟩ <;> simp only [go_sem, simprocAttr]
  · refine awp_skip ?_
    refine hK _ ?_; clear hK K
    refine awp_reg_seq [2] fun K hK => ?_
    repeat' ((refine al_r rfl fun K' hK' => ?_); (repeat (first | (simp only [go_sem, simprocAttr]) | refine AAp.grow ?_)); ((first | refine hK' _ _ ?_ | refine ⟨?_, ?_, hK' _ _ ?_⟩) <;> clear hK' K' <;> (first | (show alist _ _ _ _ _ _; skip) | assumption | omega)))
    (refine al_nil ?_; (simp only [go_sem, simprocAttr]); refine hK _ ?_; clear hK K)
    refine awp_ret (hR _ _ [1] (.inl rfl) rfl (by simp) ?_)
    refine ⟨?_, ?_⟩ <;> simp only [go_sem, simprocAttr]



theorem nan94 (n : Int) : ACallP Try.prog 94 [iD n] (bD false) := by
  refine acallp_fn [2] Try.func94 rfl rfl Try.ntmps94 (by simp) fun R hR => ?_
  (refine awp_reg_seq [0] fun K hK => ?_; (repeat' ((refine al_r rfl fun K' hK' => ?_); (repeat (simp only [go_sem, simprocAttr, bne_self_eq_false])); ((refine hK' _ _ ?_) <;> clear hK' K'))); all_goals (refine al_nil ?_; (simp only [go_sem, simprocAttr, bne_self_eq_false]); refine hK _ ?_; clear hK K))
  (refine awp_reg_seq [2] fun K hK => ?_; (repeat' ((refine al_r rfl fun K' hK' => ?_); (repeat (simp only [go_sem, simprocAttr, bne_self_eq_false])); ((refine hK' _ _ ?_) <;> clear hK' K'))); all_goals (refine al_nil ?_; (simp only [go_sem, simprocAttr, bne_self_eq_false]); refine hK _ ?_; clear hK K))
  all_goals (refine awp_ret ?_; (refine hR _ _ (.inl rfl) rfl ?_); (simp only [go_sem, simprocAttr, bne_self_eq_false, *, Bool.and_true, Bool.and_false, Bool.true_and, Bool.false_and, Bool.or_true, Bool.true_or, Bool.or_false, Bool.false_or, Bool.not_true, Bool.not_false, Bool.false_eq_true]; done))
theorem nan111 (n : Int) : ACallP Try.prog 111 [iD n] (bD false) := by
  refine acallp_fn [2] Try.func111 rfl rfl Try.ntmps111 (by simp) fun R hR => ?_
  (refine awp_reg_seq [0] fun K hK => ?_; (repeat' ((refine al_r rfl fun K' hK' => ?_); (repeat (simp only [go_sem, simprocAttr, bne_self_eq_false])); ((refine hK' _ _ ?_) <;> clear hK' K'))); all_goals (refine al_nil ?_; (simp only [go_sem, simprocAttr, bne_self_eq_false]); refine hK _ ?_; clear hK K))
  (refine awp_reg_seq [2] fun K hK => ?_; (repeat' ((refine al_r rfl fun K' hK' => ?_); (repeat (simp only [go_sem, simprocAttr, bne_self_eq_false])); ((refine hK' _ _ ?_) <;> clear hK' K'))); all_goals (refine al_nil ?_; (simp only [go_sem, simprocAttr, bne_self_eq_false]); refine hK _ ?_; clear hK K))
  all_goals (refine awp_ret ?_; (refine hR _ _ (.inl rfl) rfl ?_); (simp only [go_sem, simprocAttr, bne_self_eq_false, *, Bool.and_true, Bool.and_false, Bool.true_and, Bool.false_and, Bool.or_true, Bool.true_or, Bool.or_false, Bool.false_or, Bool.not_true, Bool.not_false, Bool.false_eq_true]; done))


theorem less93 (a b : Int) : ACallP Try.prog 93 [iD a, iD b] (bD (decide (a < b))) := by
  refine acallp_fn [4] Try.func93 rfl rfl Try.ntmps93 (by simp) fun R hR => ?_
  (refine awp_reg_seq [0, 1] fun K hK => ?_; (repeat' ((refine al_r rfl fun K' hK' => ?_); (repeat (simp only [go_sem, simprocAttr])); ((refine hK' _ _ ?_) <;> clear hK' K'))); all_goals (refine al_nil ?_; (simp only [go_sem, simprocAttr]); refine hK _ ?_; clear hK K))
  (refine awp_reg_seq [4] fun K hK => ?_; (repeat' (first | ((first | refine al_r rfl fun K' hK' => ?_ | refine al_t rfl rfl fun K' hK' => ?_); (repeat (simp only [go_sem, simprocAttr])); (first | ((refine hK' _ _ ?_) <;> clear hK' K') | ((show AC _ _ (D.fn 111 _) _ _); refine acall_p (f := 111) (e := rfl) (hr := rfl) (k := hK' _ _ ?_) (hc := Try.call111) (h := (nan111 _)); clear hK' K'))) | refine al_e rfl rfl ?_)); all_goals (refine al_nil ?_; (simp only [go_sem, simprocAttr]); refine hK _ ?_; clear hK K))
  all_goals (refine awp_ret ?_; (refine hR _ _ (.inl rfl) rfl ?_); (simp only [go_sem, simprocAttr, *, Bool.and_true, Bool.and_false, Bool.true_and, Bool.false_and, Bool.or_true, Bool.true_or, Bool.or_false, Bool.false_or, Bool.not_true, Bool.not_false, Bool.false_eq_true]; done))


theorem searchI (ls : List Int) (hlen : ls.length ≤ maxLen) (tv : Int) (hr : Rising (fun x : Int => x - tv) ls) : ACallP Try.prog 69 [ints ls, iD tv] (.tup [iD (posOf (fun x : Int => x - tv) ls), bD (isAt (fun x : Int => x - tv) ls)]) := by
  refine acallp_fn [4, 5] Try.func69 rfl rfl Try.ntmps69 (by simp) fun R hR => ?_
  (refine awp_reg_seq [0, 1] fun K hK => ?_; (repeat' ((refine al_r rfl fun K' hK' => ?_); (repeat (simp only [go_sem, simprocAttr, List.length_map])); ((refine hK' _ _ ?_) <;> clear hK' K'))); all_goals (refine al_nil ?_; (simp only [go_sem, simprocAttr, List.length_map]); refine hK _ ?_; clear hK K))
  (refine awp_reg_seq [0, 1, 6] fun K hK => ?_; (repeat' ((refine al_r rfl fun K' hK' => ?_); (repeat (simp only [go_sem, simprocAttr, List.length_map])); ((first | refine hK' _ _ ?_ | refine ⟨?_, hK' _ _ ?_⟩) <;> clear hK' K' <;> (first | (show alist _ _ _ _ _ _; skip) | (intro s hs; cases hs; done))))); all_goals (refine al_nil ?_; (simp only [go_sem, simprocAttr, List.length_map]); refine hK _ ?_; clear hK K))
  (refine awp_reg_seq [0, 1, 6, 7, 8] fun K hK => ?_; (repeat' ((refine al_r rfl fun K' hK' => ?_); (repeat (simp only [go_sem, simprocAttr, List.length_map])); ((refine hK' _ _ ?_) <;> clear hK' K'))); all_goals (refine al_nil ?_; (simp only [go_sem, simprocAttr, List.length_map]); refine hK _ ?_; clear hK K))
  refine awp_seq_k fun K hK => ?_
  refine awp_block ?_
  -- loop 0 head [0, 1, 6, 7, 8]
  refine awp_loop (fun m s => ∃ i j : Nat, i ≤ j ∧ j ≤ ls.length ∧ m = j - i ∧ (∀ (k : Nat) x, k < i → ls[k]? = some x → x - tv < 0) ∧ (∀ (k : Nat) x, j ≤ k → ls[k]? = some x → 0 ≤ x - tv) ∧ s = ⟨ofL [(0, ints ls), (1, iD tv), (6, iD ls.length), (7, iD i), (8, iD j)], [], 0⟩) ⟨_, 0, ls.length, Nat.zero_le _, Nat.le_refl _, rfl, fun k x hk => absurd hk (by omega), fun k x hk hx => absurd (lt_of_get hx) (by omega), rfl⟩ ?_
  rintro m s ⟨i, j, hij, hj, rfl, hlo, hhi, rfl⟩
  refine awp_seq_k fun K hK => ?_
  (refine awp_reg_seq [0, 1, 6, 7, 8, 15] fun K hK => ?_; (repeat' ((refine al_r rfl fun K' hK' => ?_); (repeat (simp only [go_sem, simprocAttr, List.length_map])); ((refine hK' _ _ ?_) <;> clear hK' K'))); all_goals (refine al_nil ?_; (simp only [go_sem, simprocAttr, List.length_map]); refine hK _ ?_; clear hK K))
  refine awp_if (_) rfl (fun hc => ?_) (fun hc => ?_)
  · refine awp_skip ?_
    refine hK _ ?_; clear hK K
    refine awp_block ?_
    have hij2 : i < j := by simpa using hc
    have hmid := mid_eq (i := i) (j := j) (by simp [maxLen] at hlen; omega)
    (refine awp_reg_seq [0, 1, 6, 7, 8, 9] fun K hK => ?_; (repeat' ((refine al_r rfl fun K' hK' => ?_); (repeat (simp only [go_sem, simprocAttr, List.length_map])); ((refine hK' _ _ ?_) <;> clear hK' K'))); all_goals (refine al_nil ?_; (simp only [go_sem, simprocAttr, List.length_map]); refine hK _ ?_; clear hK K))
    rw [hmid]
    obtain ⟨k, hk⟩ : ∃ k, k = (i + j) / 2 := ⟨_, rfl⟩
    rw [← hk]
    have hkl : k < ls.length := by omega
    obtain ⟨x, hx⟩ := get_of_lt hkl
    have hkn : (0 : Int) ≤ (k : Int) := Int.natCast_nonneg k
    have hkl2 : (k : Int) < (ls.length : Int) := by omega

    (refine awp_reg_seq [0, 1, 6, 7, 8, 9, 27] fun K hK => ?_; (repeat' ((refine al_r rfl fun K' hK' => ?_); (repeat (simp only [go_sem, simprocAttr, hx, hkn, hkl2, Int.toNat_natCast, List.getElem?_map, Option.map_some, List.length_map])); (first | ((refine hK' _ _ ?_) <;> clear hK' K') | ((show AC _ _ (D.fn 93 _) _ _); refine acall_p (f := 93) (e := rfl) (hr := rfl) (k := hK' _ _ ?_) (hc := Try.call93) (h := (less93 _ _)); clear hK' K')))); all_goals (refine al_nil ?_; (simp only [go_sem, simprocAttr, hx, hkn, hkl2, Int.toNat_natCast, List.getElem?_map, Option.map_some, List.length_map]); refine hK _ ?_; clear hK K))
    refine awp_if (_) rfl (fun hc => ?_) (fun hc => ?_)
    · (refine awp_reg_end [0, 1, 6, 7, 8] fun K hK => ?_; (repeat' ((refine al_r rfl fun K' hK' => ?_); (repeat (simp only [go_sem, simprocAttr, hx, hkn, hkl2, Int.toNat_natCast, List.getElem?_map, Option.map_some, List.length_map])); ((refine hK' _ _ ?_) <;> clear hK' K'))); all_goals (refine al_nil ?_; (simp only [go_sem, simprocAttr, hx, hkn, hkl2, Int.toNat_natCast, List.getElem?_map, Option.map_some, List.length_map]); refine hK _ ?_; clear hK K))
      refine ⟨_, ?_, k + 1, j, by omega, hj, rfl, ?_, hhi, ?_⟩
      · omega
      · intro a y ha hy
        have hneg : x - tv < 0 := by simp at hc; omega
        by_cases e : a = k
        · subst e; rw [hx] at hy; cases hy; exact hneg
        · exact hr a k y x (by omega) hy hx hneg
      · rw [wrap_next hkl hlen]
    · (refine awp_reg_end [0, 1, 6, 7, 8] fun K hK => ?_; (repeat' ((refine al_r rfl fun K' hK' => ?_); (repeat (simp only [go_sem, simprocAttr, hx, hkn, hkl2, Int.toNat_natCast, List.getElem?_map, Option.map_some, List.length_map])); ((refine hK' _ _ ?_) <;> clear hK' K'))); all_goals (refine al_nil ?_; (simp only [go_sem, simprocAttr, hx, hkn, hkl2, Int.toNat_natCast, List.getElem?_map, Option.map_some, List.length_map]); refine hK _ ?_; clear hK K))
      refine ⟨_, ?_, i, k, by omega, by omega, rfl, hlo, ?_, rfl⟩
      · omega
      · intro a y ha hy
        have hneg : ¬ x - tv < 0 := by simp at hc; omega
        by_cases e : a = k
        · subst e; rw [hx] at hy; cases hy; omega
        · rcases Int.lt_or_le (y - tv) 0 with h' | h'
          · exact absurd (hr k a x y (by omega) hx hy h') hneg
          · exact h'
  · refine awp_exit ?_
    have hij2 : i = j := by simp at hc; omega
    subst hij2
    have hpos : posOf (fun x : Int => x - tv) ls = i := posOf_eq hj hlo hhi
    rw [hpos] at hR

    clear hK
    refine hK _ ?_; clear hK K
    refine awp_reg_tov [4, 5] [(4, iD i), (5, bD (isAt (fun x : Int => x - tv) ls))] (h := ?_) (k := ?_)
    · rcases Nat.lt_or_ge i ls.length with hil | hil
      · obtain ⟨x, hx⟩ := get_of_lt hil
        have hat : isAt (fun x : Int => x - tv) ls = (x == tv) := by
          unfold isAt
          rw [hpos, hx]
          show (x - tv == 0) = (x == tv)
          by_cases e : x = tv
          · subst e; simp
          · rw [beq_eq_false_iff_ne.2 e, beq_eq_false_iff_ne]; omega
        have hkn : (0 : Int) ≤ (i : Int) := Int.natCast_nonneg i
        have hkl2 : (i : Int) < (ls.length : Int) := by omega

        ((repeat' (first | ((first | refine al_r rfl fun K' hK' => ?_ | refine al_t rfl rfl fun K' hK' => ?_); (repeat (simp only [go_sem, simprocAttr, hx, hkn, hkl2, Int.toNat_natCast, List.getElem?_map, Option.map_some, List.length_map, hat, decide_true])); (first | ((refine hK' _ _ ?_) <;> clear hK' K') | ((show AC _ _ (D.fn 94 _) _ _); refine acall_p (f := 94) (e := rfl) (hr := rfl) (k := hK' _ _ ?_) (hc := Try.call94) (h := (nan94 _)); clear hK' K'))) | refine al_e rfl rfl ?_ | refine al_u rfl rfl ?_ | ((fail_if_success (refine al_t rfl rfl fun K' hK' => ?_)); refine al_s _ rfl rfl rfl (fun hb => ?_) (fun hb => ?_)))); all_goals (refine al_nil ?_; (simp only [go_sem, simprocAttr, hx, hkn, hkl2, Int.toNat_natCast, List.getElem?_map, Option.map_some, List.length_map, hat, decide_true, *, Bool.and_true, Bool.and_false, Bool.true_and, Bool.false_and, Bool.or_true, Bool.true_or, Bool.or_false, Bool.false_or, Bool.not_true, Bool.not_false, Bool.false_eq_true]; done)))
      · have hat : isAt (fun x : Int => x - tv) ls = false := by unfold isAt; rw [hpos, List.getElem?_eq_none hil]
        have hkl3 : decide ((i : Int) < (ls.length : Int)) = false := by simp; omega

        ((repeat' (first | ((refine al_r rfl fun K' hK' => ?_); (repeat (simp only [go_sem, simprocAttr, List.length_map, hat, hkl3])); ((refine hK' _ _ ?_) <;> clear hK' K')) | refine al_e rfl rfl ?_ | refine al_u rfl rfl ?_)); all_goals (refine al_nil ?_; (simp only [go_sem, simprocAttr, List.length_map, hat, hkl3, *, Bool.and_true, Bool.and_false, Bool.true_and, Bool.false_and, Bool.or_true, Bool.true_or, Bool.or_false, Bool.false_or, Bool.not_true, Bool.not_false, Bool.false_eq_true]; done)))

    (intro K hK; (simp only [go_sem, simprocAttr, List.length_map]); refine hK _ ?_; clear hK K)
    all_goals (refine awp_ret ?_; (refine hR _ _ (.inl rfl) rfl ?_); (simp only [go_sem, simprocAttr, List.length_map, *, Bool.and_true, Bool.and_false, Bool.true_and, Bool.false_and, Bool.or_true, Bool.true_or, Bool.or_false, Bool.false_or, Bool.not_true, Bool.not_false, Bool.false_eq_true]; done))




theorem insNil (a : Int) : ACalls Try.prog 70 [.nil, iD 0, .ref 0 0 1] [.row 1 [[.lit (.int .i64 a)]]] (fun r obs' => r = .ref 1 0 1 ∧ obs' = [.row 1 [[.lit (.int .i64 a)]], .row 1 [[.lit (.int .i64 a)]]]) := by
  refine acallm_fn [6] Try.func70 rfl rfl Try.ntmps70 (by simp) (by simp) fun R hR => ?_
  (refine awp_reg_seq [0, 1, 2] fun K hK => ?_; (repeat' ((refine al_r rfl fun K' hK' => ?_); (repeat (simp only [go_sem, simprocAttr, beq_self_eq_true])); ((refine hK' _ _ ?_) <;> clear hK' K'))); all_goals (refine al_nil ?_; (simp only [go_sem, simprocAttr, beq_self_eq_true]); refine hK _ ?_; clear hK K))
  (refine awp_reg_seq [0, 1, 2] fun K hK => ?_; (repeat' ((refine al_r rfl fun K' hK' => ?_); (repeat (simp only [go_sem, simprocAttr, beq_self_eq_true])); ((refine hK' _ _ ?_) <;> clear hK' K'))); all_goals (refine al_nil ?_; (simp only [go_sem, simprocAttr, beq_self_eq_true]); refine hK _ ?_; clear hK K))
  (refine awp_reg_seq [0, 1, 2, 7] fun K hK => ?_; (repeat' ((refine al_r rfl fun K' hK' => ?_); (repeat (simp only [go_sem, simprocAttr, beq_self_eq_true])); ((first | refine hK' _ _ ?_ | refine ⟨?_, hK' _ _ ?_⟩) <;> clear hK' K' <;> (first | (show alist _ _ _ _ _ _; skip) | (intro s hs; cases hs; done))))); all_goals (refine al_nil ?_; (simp only [go_sem, simprocAttr, beq_self_eq_true]); refine hK _ ?_; clear hK K))
  refine awp_seq_k fun K hK => ?_
  (refine awp_reg_seq [0, 1, 2, 7, 16] fun K hK => ?_; (repeat' ((refine al_r rfl fun K' hK' => ?_); (repeat (simp only [go_sem, simprocAttr, beq_self_eq_true])); ((refine hK' _ _ ?_) <;> clear hK' K'))); all_goals (refine al_nil ?_; (simp only [go_sem, simprocAttr, beq_self_eq_true]); refine hK _ ?_; clear hK K))
  refine awp_if (_) rfl (fun hc => ?_) (fun hc => ?_)
  · cases hc
  · refine awp_skip ?_
    refine hK _ ?_; clear hK K
    (refine awp_reg_seq [0, 1, 2, 7, 8] fun K hK => ?_; (repeat' ((refine al_r rfl fun K' hK' => ?_); (repeat (simp only [go_sem, simprocAttr, beq_self_eq_true])); ((first | refine hK' _ _ ?_ | refine ⟨?_, hK' _ _ ?_⟩) <;> clear hK' K' <;> (first | (show alist _ _ _ _ _ _; skip) | (intro s hs; cases hs; done))))); all_goals (refine al_nil ?_; (simp only [go_sem, simprocAttr, beq_self_eq_true]); refine hK _ ?_; clear hK K))
    refine awp_seq_k fun K hK => ?_
    (refine awp_reg_seq [0, 1, 2, 7, 8, 22] fun K hK => ?_; (repeat' ((refine al_r rfl fun K' hK' => ?_); (repeat (simp only [go_sem, simprocAttr, beq_self_eq_true])); ((refine hK' _ _ ?_) <;> clear hK' K'))); all_goals (refine al_nil ?_; (simp only [go_sem, simprocAttr, beq_self_eq_true]); refine hK _ ?_; clear hK K))
    refine awp_if (_) rfl (fun hc => ?_) (fun hc => ?_)
    · (refine awp_reg_seq [6] fun K hK => ?_; (repeat' ((refine al_r rfl fun K' hK' => ?_); (repeat (first | (simp only [go_sem, simprocAttr, beq_self_eq_true]) | refine AAp.grow ?_)); ((first | refine hK' _ _ ?_ | refine ⟨?_, hK' _ _ ?_⟩) <;> clear hK' K' <;> (first | (show alist _ _ _ _ _ _; skip) | (simp; done))))); all_goals (refine al_nil ?_; (simp only [go_sem, simprocAttr, beq_self_eq_true]); refine hK _ ?_; clear hK K))
      refine awp_ret (hR _ _ [0, 1] (.inl rfl) rfl (by decide) (by simp only [List.length_cons, List.length_nil]; decide) ?_)
      all_goals (refine ⟨?_, ?_⟩ <;> simp only [go_sem, simprocAttr, beq_self_eq_true])
    · cases hc


theorem insEnd (xs : List (List PV)) (hx : ∀ x, x ∈ xs → x.length = 1) (hlen : xs.length ≤ 1000000) (a : Int) : ACalls Try.prog 70 [.ref 0 0 xs.length, iD xs.length, .ref 1 0 1] [.row 1 xs, .row 1 [[.lit (.int .i64 a)]]] (fun r obs' => r = .ref 2 0 (xs.length + 1) ∧ obs' = [.dead, .row 1 [[.lit (.int .i64 a)]], .row 1 (xs ++ [[.lit (.int .i64 a)]])]) := by
  refine acallm_fn [6] Try.func70 rfl rfl Try.ntmps70 (by simp) (by simp) fun R hR => ?_
  have hn0 : (0 : Int) ≤ (xs.length : Int) := Int.natCast_nonneg _
  have hn1 : (xs.length : Int) ≤ (xs.length : Int) := Int.le_refl _

  (refine awp_reg_seq [0, 1, 2] fun K hK => ?_; (repeat' ((refine al_r rfl fun K' hK' => ?_); (repeat (simp only [go_sem, simprocAttr, beq_self_eq_true, hn0, hn1, Int.toNat_natCast, List.take_length])); ((refine hK' _ _ ?_) <;> clear hK' K'))); all_goals (refine al_nil ?_; (simp only [go_sem, simprocAttr, beq_self_eq_true, hn0, hn1, Int.toNat_natCast, List.take_length]); refine hK _ ?_; clear hK K))
  refine awp_reg_seq [0, 1, 2] fun K hK => ?_
  iterate 3 ((refine al_r rfl fun K' hK' => ?_); (repeat (simp only [go_sem, simprocAttr, beq_self_eq_true, hn0, hn1, Int.toNat_natCast, List.take_length])); ((first | refine hK' _ _ ?_ | refine ⟨?_, ?_, hK' _ _ ?_⟩) <;> clear hK' K' <;> (first | (show alist _ _ _ _ _ _; skip) | (simp; done))))
  (refine al_nil ?_; (simp only [go_sem, simprocAttr, beq_self_eq_true, hn0, hn1, Int.toNat_natCast, List.take_length]); refine hK _ ?_; clear hK K)
  (refine awp_reg_seq [0, 1, 2, 7] fun K hK => ?_; (repeat' ((refine al_r rfl fun K' hK' => ?_); (repeat (simp only [go_sem, simprocAttr, beq_self_eq_true, hn0, hn1, Int.toNat_natCast, List.take_length])); ((first | refine hK' _ _ ?_ | refine ⟨?_, hK' _ _ ?_⟩) <;> clear hK' K' <;> (first | (show alist _ _ _ _ _ _; skip) | (intro s hs; cases hs; done))))); all_goals (refine al_nil ?_; (simp only [go_sem, simprocAttr, beq_self_eq_true, hn0, hn1, Int.toNat_natCast, List.take_length]); refine hK _ ?_; clear hK K))
  refine awp_seq_k fun K hK => ?_
  (refine awp_reg_seq [0, 1, 2, 7, 16] fun K hK => ?_; (repeat' ((refine al_r rfl fun K' hK' => ?_); (repeat (simp only [go_sem, simprocAttr, beq_self_eq_true, hn0, hn1, Int.toNat_natCast, List.take_length])); ((refine hK' _ _ ?_) <;> clear hK' K'))); all_goals (refine al_nil ?_; (simp only [go_sem, simprocAttr, beq_self_eq_true, hn0, hn1, Int.toNat_natCast, List.take_length]); refine hK _ ?_; clear hK K))
  refine awp_if (_) rfl (fun hc => ?_) (fun hc => ?_)
  · cases hc
  · refine awp_skip ?_
    refine hK _ ?_; clear hK K
    (refine awp_reg_seq [0, 1, 2, 7, 8] fun K hK => ?_; (repeat' ((refine al_r rfl fun K' hK' => ?_); (repeat (simp only [go_sem, simprocAttr, beq_self_eq_true, hn0, hn1, Int.toNat_natCast, List.take_length])); ((first | refine hK' _ _ ?_ | refine ⟨?_, hK' _ _ ?_⟩) <;> clear hK' K' <;> (first | (show alist _ _ _ _ _ _; skip) | (intro s hs; cases hs; done))))); all_goals (refine al_nil ?_; (simp only [go_sem, simprocAttr, beq_self_eq_true, hn0, hn1, Int.toNat_natCast, List.take_length]); refine hK _ ?_; clear hK K))
    refine awp_seq_k fun K hK => ?_
    (refine awp_reg_seq [0, 1, 2, 7, 8, 22] fun K hK => ?_; (repeat' ((refine al_r rfl fun K' hK' => ?_); (repeat (simp only [go_sem, simprocAttr, beq_self_eq_true, hn0, hn1, Int.toNat_natCast, List.take_length])); ((refine hK' _ _ ?_) <;> clear hK' K'))); all_goals (refine al_nil ?_; (simp only [go_sem, simprocAttr, beq_self_eq_true, hn0, hn1, Int.toNat_natCast, List.take_length]); refine hK _ ?_; clear hK K))
    refine awp_if (_) rfl (fun hc => ?_) (fun hc => ?_)
    · (refine awp_reg_seq [6] fun K hK => ?_; (repeat' ((refine al_r rfl fun K' hK' => ?_); (repeat (first | (simp only [go_sem, simprocAttr, beq_self_eq_true, hn0, hn1, Int.toNat_natCast, List.take_length]) | refine AAp.grow ?_)); ((first | refine hK' _ _ ?_ | refine ⟨?_, ?_, ?_, hK' _ _ ?_⟩) <;> clear hK' K' <;> (first | (show alist _ _ _ _ _ _; skip) | (simp; done) | omega)))); all_goals (refine al_nil ?_; (simp only [go_sem, simprocAttr, beq_self_eq_true, hn0, hn1, Int.toNat_natCast, List.take_length]); refine hK _ ?_; clear hK K))
      refine awp_ret (hR _ _ [0, 1, 2] (.inl rfl) rfl (by decide) (by simp only [List.length_cons, List.length_nil]; decide) ?_)
      all_goals (refine ⟨?_, ?_⟩ <;> simp only [go_sem, simprocAttr, beq_self_eq_true, hn0, hn1, Int.toNat_natCast, List.take_length])
    · cases hc

def insL (ls : List Int) (i : Nat) (d : Int) : List Int := ls.take i ++ d :: ls.drop i

theorem irow1 (ls : List Int) : ∀ x, x ∈ ls.map irow → x.length = 1 := fun x hx => by
  obtain ⟨y, _, rfl⟩ := List.mem_map.1 hx
  rfl

theorem insAny (ls : List Int) (i : Nat) (hi : i ≤ ls.length) (hlen : ls.length ≤ 1000000) (a : Int) :
    ACalls Try.prog 70 [.ref 0 0 ls.length, iD i, .ref 1 0 1] [.row 1 (ls.map irow), .row 1 [[.lit (.int .i64 a)]]] (fun r obs' => r = .ref 2 0 (ls.length + 1) ∧ obs' = [.dead, .row 1 [[.lit (.int .i64 a)]], .row 1 ((insL ls i a).map irow)]) := by
  have hm : (insL ls i a).map irow = insR (ls.map irow) i [.lit (.int .i64 a)] := by
    simp [insL, insR, List.map_take, List.map_drop]
  rw [hm]
  by_cases h : i < ls.length
  · have := insertI (ls.map irow) [.lit (.int .i64 a)] rfl i (by simpa using h) (by simpa using hlen)
    rwa [List.length_map] at this
  · have e : i = (ls.map irow).length := by simp; omega
    have := insEnd (ls.map irow) (irow1 ls) (by simpa using hlen) a
    rw [show insR (ls.map irow) i [.lit (.int .i64 a)] = ls.map irow ++ [[.lit (.int .i64 a)]] by rw [e]; unfold insR; rw [List.take_length, List.drop_length]]
    rw [List.length_map] at this e
    rw [e]
    exact this
end Go.Proofs.Ytagphggcdmjlpaa.P

/- A cell is not set: contracts. -/
namespace Go.Proofs.Ytagphggcdmjlpaa.P
open Go.Ab Go.Proofs.Ytagphggcdmjlpaa.T

abbrev zagesD : D := .agg [.p (.sl []), iD 0, .p (.sl [])]


theorem setBad (h : List Int) (old a w e : Int) (late : List Int) (he : (e != 0) = true) (hnm : ACallP Try.prog 66 [agesD h old late, words [w]] (iD e)) : ACallP Try.prog 33 [agesD h old late, iD a, wD w] (.tup [zagesD, iD e]) := by
  refine acallp_fnv [.cell 6 64, .tmp 7] Try.func33 rfl rfl Try.ntmps33 (by simp) fun R hR => ?_
  (refine awp_reg_seq [1, 2, 3, 6] fun K hK => ?_; (repeat' ((refine al_r rfl fun K' hK' => ?_); (repeat (simp only [go_sem, simprocAttr, he])); ((refine hK' _ _ ?_) <;> clear hK' K'))); all_goals (refine al_nil ?_; (simp only [go_sem, simprocAttr, he]); refine hK _ ?_; clear hK K))
  (refine awp_frz [1, 2, 3, 6] [1] (by decide) (by (simp; done)) ?_; simp only [go_sem, simprocAttr, he])
  refine awp_seq_k fun K hK => ?_
  (refine awp_reg_seq [1, 2, 3, 6, 8] fun K hK => ?_; (repeat' ((refine al_r rfl fun K' hK' => ?_); (repeat (simp only [go_sem, simprocAttr, he])); (first | ((refine hK' _ _ ?_) <;> clear hK' K') | ((show AC _ _ (D.fn 66 _) _ _); refine acall_g (f := 66) (e := rfl) (hr := rfl) (hf := by simp [D.all, D.allL, flatL, flatPV]) (k := hK' _ _ ?_) (hc := Try.call66) (h := hnm); clear hK' K')))); all_goals (refine al_nil ?_; (simp only [go_sem, simprocAttr, he]); refine hK _ ?_; clear hK K))
  (refine awp_reg_seq [1, 2, 3, 6, 8, 22] fun K hK => ?_; (repeat' ((refine al_r rfl fun K' hK' => ?_); (repeat (simp only [go_sem, simprocAttr, he])); ((refine hK' _ _ ?_) <;> clear hK' K'))); all_goals (refine al_nil ?_; (simp only [go_sem, simprocAttr, he]); refine hK _ ?_; clear hK K))
  refine awp_if (_) rfl (fun hc => ?_) (fun hc => ?_)
  · (refine awp_reg_seq [6, 7] fun K hK => ?_; (repeat' ((first | refine al_r rfl fun K' hK' => ?_ | refine al_d rfl fun K' hK' => ?_); (repeat (first | (simp only [go_sem, simprocAttr, he]) | refine AS.mk ?_)); ((first | refine hK' _ _ ?_ | refine ⟨?_, hK' _ _ ?_⟩) <;> clear hK' K' <;> (first | (show alist _ _ _ _ _ _; skip) | (simp; done))))); all_goals (refine al_nil ?_; (simp only [go_sem, simprocAttr, he]); refine hK _ ?_; clear hK K))
    refine awp_ret ?_; refine hR _ _ (.inl rfl) rfl ?_
    simp only [go_sem, simprocAttr, he]
  · cases hc


theorem setNone (h : List Int) (old a w e : Int) (late : List Int) (o : Obj) (B : Bool) (hnm : ACallP Try.prog 66 [agesD h old late, words [w]] (iD 0)) (hat : ACallP Try.prog 19 [words h, iD a] (.tup [objD o, iD e])) (hbe : ACallP Try.prog 67 [words h, iD a] (bD B)) (hc0 : ((e != 0) || !B) = true) :
    ACallP Try.prog 33 [agesD h old late, iD a, wD w] (.tup [zagesD, iD 4]) := by
  obtain ⟨E, hE⟩ : ∃ E, (e != 0) = E := ⟨_, rfl⟩
  rw [hE] at hc0
  refine acallp_fnv [.cell 6 64, .tmp 7] Try.func33 rfl rfl Try.ntmps33 (by simp) fun R hR => ?_
  (refine awp_reg_seq [1, 2, 3, 6] fun K hK => ?_; (repeat' ((refine al_r rfl fun K' hK' => ?_); (repeat (simp only [go_sem, simprocAttr, bne_self_eq_false])); ((refine hK' _ _ ?_) <;> clear hK' K'))); all_goals (refine al_nil ?_; (simp only [go_sem, simprocAttr, bne_self_eq_false]); refine hK _ ?_; clear hK K))
  (refine awp_frz [1, 2, 3, 6] [1] (by decide) (by (simp; done)) ?_; simp only [go_sem, simprocAttr, bne_self_eq_false])
  refine awp_seq_k fun K hK => ?_
  (refine awp_reg_seq [1, 2, 3, 6, 8] fun K hK => ?_; (repeat' ((refine al_r rfl fun K' hK' => ?_); (repeat (simp only [go_sem, simprocAttr, bne_self_eq_false])); (first | ((refine hK' _ _ ?_) <;> clear hK' K') | ((show AC _ _ (D.fn 66 _) _ _); refine acall_g (f := 66) (e := rfl) (hr := rfl) (hf := by simp [D.all, D.allL, flatL, flatPV]) (k := hK' _ _ ?_) (hc := Try.call66) (h := hnm); clear hK' K')))); all_goals (refine al_nil ?_; (simp only [go_sem, simprocAttr, bne_self_eq_false]); refine hK _ ?_; clear hK K))
  (refine awp_reg_seq [1, 2, 3, 6, 8, 22] fun K hK => ?_; (repeat' ((refine al_r rfl fun K' hK' => ?_); (repeat (simp only [go_sem, simprocAttr, bne_self_eq_false])); ((refine hK' _ _ ?_) <;> clear hK' K'))); all_goals (refine al_nil ?_; (simp only [go_sem, simprocAttr, bne_self_eq_false]); refine hK _ ?_; clear hK K))
  refine awp_if (_) rfl (fun hc => ?_) (fun hc => ?_)
  · cases hc
  · refine awp_skip ?_
    refine hK _ ?_; clear hK K
    (refine awp_reg_seq [1, 2, 3, 6, 9, 10] fun K hK => ?_; (repeat' ((first | refine al_r rfl fun K' hK' => ?_ | refine al_d rfl fun K' hK' => ?_); (repeat (first | (simp only [go_sem, simprocAttr, bne_self_eq_false]) | refine AS.mk ?_)); (first | ((first | refine hK' _ _ ?_ | refine ⟨?_, hK' _ _ ?_⟩) <;> clear hK' K' <;> (first | (show alist _ _ _ _ _ _; skip) | (simp; done))) | ((show AC _ _ (D.fn 19 _) _ _); refine acall_p (f := 19) (e := rfl) (hr := rfl) (k := hK' _ _ ?_) (hc := Try.call19) (h := hat); clear hK' K')))); all_goals (refine al_nil ?_; (simp only [go_sem, simprocAttr, bne_self_eq_false]); refine hK _ ?_; clear hK K))
    (refine awp_frz [1, 2, 3, 6, 9, 10] [0] (by decide) (by (simp; done)) ?_; simp only [go_sem, simprocAttr, bne_self_eq_false])
    refine awp_seq_k fun K hK => ?_
    refine awp_block ?_

    refine awp_reg_tov [1, 2, 3, 6, 9, 32] [(32, bD true)] (h := ?_) (k := ?_)
    · cases E <;> cases B <;> first | (cases hc0; done) | skip
      all_goals ((repeat' (first | ((first | refine al_r rfl fun K' hK' => ?_ | refine al_t rfl rfl fun K' hK' => ?_); (repeat (simp only [go_sem, simprocAttr, hE])); (first | ((refine hK' _ _ ?_) <;> clear hK' K') | ((show AC _ _ (D.fn 67 _) _ _); refine acall_p (f := 67) (e := rfl) (hr := rfl) (k := hK' _ _ ?_) (hc := Try.call67) (h := hbe); clear hK' K'))) | refine al_e rfl rfl ?_)); all_goals (refine al_nil ?_; (simp only [go_sem, simprocAttr, hE, *, Bool.and_true, Bool.and_false, Bool.true_and, Bool.false_and, Bool.or_true, Bool.true_or, Bool.or_false, Bool.false_or, Bool.not_true, Bool.not_false, Bool.false_eq_true]; done)))
    (intro K hK; (simp only [go_sem, simprocAttr, hE]); refine hK _ ?_; clear hK K)
    refine awp_if (_) rfl (fun hc => ?_) (fun hc => ?_)
    · (refine awp_reg_seq [6, 7] fun K hK => ?_; (repeat' ((first | refine al_r rfl fun K' hK' => ?_ | refine al_d rfl fun K' hK' => ?_); (repeat (first | (simp only [go_sem, simprocAttr, hE]) | refine AS.mk ?_)); ((first | refine hK' _ _ ?_ | refine ⟨?_, hK' _ _ ?_⟩) <;> clear hK' K' <;> (first | (show alist _ _ _ _ _ _; skip) | (simp; done))))); all_goals (refine al_nil ?_; (simp only [go_sem, simprocAttr, hE]); refine hK _ ?_; clear hK K))
      refine awp_ret ?_; refine hR _ _ (.inl rfl) rfl ?_
      simp only [go_sem, simprocAttr, hE]
    · cases hc


theorem setType (h : List Int) (old a w : Int) (late : List Int) (o : Obj) (hnm : ACallP Try.prog 66 [agesD h old late, words [w]] (iD 0)) (hat : ACallP Try.prog 19 [words h, iD a] (.tup [objD o, iD 0])) (hbe : ACallP Try.prog 67 [words h, iD a] (bD true)) (hc0 : ((o.kind != 5) || (o.parts.length : Int) != 1) = true) :
    ACallP Try.prog 33 [agesD h old late, iD a, wD w] (.tup [zagesD, iD 12]) := by
  obtain ⟨E, hE⟩ : ∃ E, (o.kind != 5) = E := ⟨_, rfl⟩
  obtain ⟨G, hG⟩ : ∃ G, ((o.parts.length : Int) != 1) = G := ⟨_, rfl⟩
  rw [hE, hG] at hc0
  refine acallp_fnv [.cell 6 64, .tmp 7] Try.func33 rfl rfl Try.ntmps33 (by simp) fun R hR => ?_
  (refine awp_reg_seq [1, 2, 3, 6] fun K hK => ?_; (repeat' ((refine al_r rfl fun K' hK' => ?_); (repeat (simp only [go_sem, simprocAttr, bne_self_eq_false, List.length_map])); ((refine hK' _ _ ?_) <;> clear hK' K'))); all_goals (refine al_nil ?_; (simp only [go_sem, simprocAttr, bne_self_eq_false, List.length_map]); refine hK _ ?_; clear hK K))
  (refine awp_frz [1, 2, 3, 6] [1] (by decide) (by (simp; done)) ?_; simp only [go_sem, simprocAttr, bne_self_eq_false, List.length_map])
  refine awp_seq_k fun K hK => ?_
  (refine awp_reg_seq [1, 2, 3, 6, 8] fun K hK => ?_; (repeat' ((refine al_r rfl fun K' hK' => ?_); (repeat (simp only [go_sem, simprocAttr, bne_self_eq_false, List.length_map])); (first | ((refine hK' _ _ ?_) <;> clear hK' K') | ((show AC _ _ (D.fn 66 _) _ _); refine acall_g (f := 66) (e := rfl) (hr := rfl) (hf := by simp [D.all, D.allL, flatL, flatPV]) (k := hK' _ _ ?_) (hc := Try.call66) (h := hnm); clear hK' K')))); all_goals (refine al_nil ?_; (simp only [go_sem, simprocAttr, bne_self_eq_false, List.length_map]); refine hK _ ?_; clear hK K))
  (refine awp_reg_seq [1, 2, 3, 6, 8, 22] fun K hK => ?_; (repeat' ((refine al_r rfl fun K' hK' => ?_); (repeat (simp only [go_sem, simprocAttr, bne_self_eq_false, List.length_map])); ((refine hK' _ _ ?_) <;> clear hK' K'))); all_goals (refine al_nil ?_; (simp only [go_sem, simprocAttr, bne_self_eq_false, List.length_map]); refine hK _ ?_; clear hK K))
  refine awp_if (_) rfl (fun hc => ?_) (fun hc => ?_)
  · cases hc
  · refine awp_skip ?_
    refine hK _ ?_; clear hK K
    (refine awp_reg_seq [1, 2, 3, 6, 9, 10] fun K hK => ?_; (repeat' ((first | refine al_r rfl fun K' hK' => ?_ | refine al_d rfl fun K' hK' => ?_); (repeat (first | (simp only [go_sem, simprocAttr, bne_self_eq_false, List.length_map]) | refine AS.mk ?_)); (first | ((first | refine hK' _ _ ?_ | refine ⟨?_, hK' _ _ ?_⟩) <;> clear hK' K' <;> (first | (show alist _ _ _ _ _ _; skip) | (simp; done))) | ((show AC _ _ (D.fn 19 _) _ _); refine acall_p (f := 19) (e := rfl) (hr := rfl) (k := hK' _ _ ?_) (hc := Try.call19) (h := hat); clear hK' K')))); all_goals (refine al_nil ?_; (simp only [go_sem, simprocAttr, bne_self_eq_false, List.length_map]); refine hK _ ?_; clear hK K))
    (refine awp_frz [1, 2, 3, 6, 9, 10] [0] (by decide) (by (simp; done)) ?_; simp only [go_sem, simprocAttr, bne_self_eq_false, List.length_map])
    refine awp_seq_k fun K hK => ?_
    refine awp_block ?_
    refine awp_reg_tov [1, 2, 3, 6, 9, 32] [(32, bD false)] (h := ?_) (k := ?_)
    · all_goals ((repeat' ((first | refine al_r rfl fun K' hK' => ?_ | refine al_t rfl rfl fun K' hK' => ?_); (repeat (simp only [go_sem, simprocAttr, bne_self_eq_false, List.length_map])); (first | ((refine hK' _ _ ?_) <;> clear hK' K') | ((show AC _ _ (D.fn 67 _) _ _); refine acall_p (f := 67) (e := rfl) (hr := rfl) (k := hK' _ _ ?_) (hc := Try.call67) (h := hbe); clear hK' K')))); all_goals (refine al_nil ?_; (simp only [go_sem, simprocAttr, bne_self_eq_false, List.length_map, *, Bool.and_true, Bool.and_false, Bool.true_and, Bool.false_and, Bool.or_true, Bool.true_or, Bool.or_false, Bool.false_or, Bool.not_true, Bool.not_false, Bool.false_eq_true]; done)))
    (intro K hK; (simp only [go_sem, simprocAttr, bne_self_eq_false, List.length_map]); refine hK _ ?_; clear hK K)
    refine awp_if (_) rfl (fun hc => ?_) (fun hc => ?_)
    · cases hc

    · refine awp_reg_tov [1, 2, 3, 6, 43] [(43, bD true)] (h := ?_) (k := ?_)
      · cases E <;> cases G <;> first | (cases hc0; done) | skip
        all_goals ((repeat' (first | ((first | refine al_r rfl fun K' hK' => ?_ | refine al_t rfl rfl fun K' hK' => ?_); (repeat (simp only [go_sem, simprocAttr, hE, hG, List.length_map])); ((first | refine hK' _ _ ?_ | refine ⟨?_, hK' _ _ ?_⟩) <;> clear hK' K' <;> (first | (show alist _ _ _ _ _ _; skip) | (intro s hs; cases hs; done)))) | refine al_e rfl rfl ?_)); all_goals (refine al_nil ?_; (simp only [go_sem, simprocAttr, hE, hG, List.length_map, *, Bool.and_true, Bool.and_false, Bool.true_and, Bool.false_and, Bool.or_true, Bool.true_or, Bool.or_false, Bool.false_or, Bool.not_true, Bool.not_false, Bool.false_eq_true]; done)))
      (intro K hK; (simp only [go_sem, simprocAttr, hE, hG, List.length_map]); refine hK _ ?_; clear hK K)
      refine awp_if (_) rfl (fun hc => ?_) (fun hc => ?_)
      · (refine awp_reg_seq [6, 7] fun K hK => ?_; (repeat' ((first | refine al_r rfl fun K' hK' => ?_ | refine al_d rfl fun K' hK' => ?_); (repeat (first | (simp only [go_sem, simprocAttr, hE, hG, List.length_map]) | refine AS.mk ?_)); ((first | refine hK' _ _ ?_ | refine ⟨?_, hK' _ _ ?_⟩) <;> clear hK' K' <;> (first | (show alist _ _ _ _ _ _; skip) | (simp; done))))); all_goals (refine al_nil ?_; (simp only [go_sem, simprocAttr, hE, hG, List.length_map]); refine hK _ ?_; clear hK K))
        refine awp_ret ?_; refine hR _ _ (.inl rfl) rfl ?_
        simp only [go_sem, simprocAttr, hE, hG, List.length_map]
      · cases hc
end Go.Proofs.Ytagphggcdmjlpaa.P

/- A cell is set: a contract. -/
namespace Go.Proofs.Ytagphggcdmjlpaa.P
open Go.Ab Go.Proofs.Ytagphggcdmjlpaa.T

theorem awp_suff {P : Program} {nt : Nat} {x y : Code} {Q : Exit → St → Prop} {st : St} (s1 : St) (h1 : AWp P nt y Q s1) (h2 : AWp P nt y Q s1 → AWp P nt (.seq x y) Q st) : AWp P nt (.seq x y) Q st := h2 h1

/-- The late places behind Set. -/
def setL (old : Int) (late : List Int) (a : Int) (P : Int × Bool × Int) : List Int :=
  if P.2.1 && decide (a < old) && decide (P.1 ≥ old) then (if isAt (fun x : Int => x - a) late then late else insL late (posOf (fun x : Int => x - a) late) a) else late


set_option maxRecDepth 100000 in
theorem setOk (h : List Int) (old w : Int) (n : Nat) (late : List Int) (o : Obj) (hnm : ACallP Try.prog 66 [agesD h old late, words [w]] (iD 0)) (hat : ACallP Try.prog 19 [words h, iD n] (.tup [objD o, iD 0])) (hbe : ACallP Try.prog 67 [words h, iD n] (bD true))
    (hk : (o.kind != 5) = false) (hpa : ((o.parts.length : Int) != 1) = false) (hlen : h.length ≤ 4000) (hn : n + 1 < h.length) (hlate : late.length ≤ 100000) (hrise : Rising (fun x : Int => x - (n : Int)) late) :
    ACallP Try.prog 33 [agesD h old late, iD n, wD w] (.tup [agesD (h.set (n + 1) w) old (setL old late n (placeS w)), iD 0]) := by
  obtain ⟨V, hV⟩ : ∃ V, V = setL old late n (placeS w) := ⟨_, rfl⟩
  rw [← hV]
  unfold setL at hV
  have hcH := cloneH (h.map wrow) (fun x hx => by obtain ⟨y, _, rfl⟩ := List.mem_map.1 hx; rfl) (by simp; omega)
  have hcI := cloneI (late.map irow) (irow1 late) (by simp; omega)
  rw [List.length_map] at hcH hcI
  have hpl := placeW w
  have hsr := searchI late (by simp [maxLen]; omega) (n : Int) hrise
  have htL : List.take late.length (late.map irow) = late.map irow := List.take_of_length_le (by simp)
  have hpos : posOf (fun x : Int => x - (n : Int)) late ≤ late.length := List.findIdx_le_length
  have hin := insAny late (posOf (fun x : Int => x - (n : Int)) late) hpos (by omega) (n : Int)
  have hil : (insL late (posOf (fun x : Int => x - (n : Int)) late) n).length = late.length + 1 := by unfold insL; simp; omega
  generalize posOf (fun x : Int => x - (n : Int)) late = pos at *
  generalize isAt (fun x : Int => x - (n : Int)) late = fnd at *
  have hsr2 : ACallP Try.prog 69 [.p (.sl (List.take late.length (late.map irow))), iD n] (.tup [iD pos, bD fnd]) := by rw [htL]; exact hsr
  clear hsr
  generalize placeS w = P at hpl hV
  obtain ⟨to, Is, pe⟩ := P
  simp only at hpl hV
  have hnn : (0 : Int) ≤ ((n + 1 : Nat) : Int) := Int.natCast_nonneg _
  have hnl : ((n + 1 : Nat) : Int) < (h.length : Int) := by omega
  have hnx : IntKind.i64.wrap ((n : Int) + 1) = ((n + 1 : Nat) : Int) := by rw [Go.Ab.wrap_small (by omega) (by omega)]; rfl
  have hset : (h.map wrow).set (n + 1) (wrow w) = (h.set (n + 1) w).map wrow := by rw [List.map_set]
  have htH : List.take h.length ((h.set (n + 1) w).map wrow) = (h.set (n + 1) w).map wrow := List.take_of_length_le (by simp)
  have htI : List.take (late.length + 1) ((insL late pos n).map irow) = (insL late pos n).map irow := List.take_of_length_le (by simp [hil])
  obtain ⟨X, hX⟩ : ∃ X, decide ((n : Int) < old) = X := ⟨_, rfl⟩
  obtain ⟨Y, hY⟩ : ∃ Y, decide (to ≥ old) = Y := ⟨_, rfl⟩
  rw [hX, hY] at hV
  refine acallp_fnv [.cell 6 64, .tmp 7] Try.func33 rfl rfl Try.ntmps33 (by simp) fun R hR => ?_
  (refine awp_reg_seq [1, 2, 3, 6] fun K hK => ?_; (repeat' ((refine al_r rfl fun K' hK' => ?_); (repeat (simp only [go_sem, simprocAttr, bne_self_eq_false, List.length_map])); ((refine hK' _ _ ?_) <;> clear hK' K'))); all_goals (refine al_nil ?_; (simp only [go_sem, simprocAttr, bne_self_eq_false, List.length_map]); refine hK _ ?_; clear hK K))
  (refine awp_frz [1, 2, 3, 6] [1] (by decide) (by (simp; done)) ?_; simp only [go_sem, simprocAttr, bne_self_eq_false, List.length_map])
  refine awp_seq_k fun K hK => ?_
  (refine awp_reg_seq [1, 2, 3, 6, 8] fun K hK => ?_; (repeat' ((refine al_r rfl fun K' hK' => ?_); (repeat (simp only [go_sem, simprocAttr, bne_self_eq_false, List.length_map])); (first | ((refine hK' _ _ ?_) <;> clear hK' K') | ((show AC _ _ (D.fn 66 _) _ _); refine acall_g (f := 66) (e := rfl) (hr := rfl) (hf := by simp [D.all, D.allL, flatL, flatPV]) (k := hK' _ _ ?_) (hc := Try.call66) (h := hnm); clear hK' K')))); all_goals (refine al_nil ?_; (simp only [go_sem, simprocAttr, bne_self_eq_false, List.length_map]); refine hK _ ?_; clear hK K))
  (refine awp_reg_seq [1, 2, 3, 6, 8, 22] fun K hK => ?_; (repeat' ((refine al_r rfl fun K' hK' => ?_); (repeat (simp only [go_sem, simprocAttr, bne_self_eq_false, List.length_map])); ((refine hK' _ _ ?_) <;> clear hK' K'))); all_goals (refine al_nil ?_; (simp only [go_sem, simprocAttr, bne_self_eq_false, List.length_map]); refine hK _ ?_; clear hK K))
  refine awp_if (_) rfl (fun hc => ?_) (fun hc => ?_)
  · cases hc
  · refine awp_skip ?_
    refine hK _ ?_; clear hK K
    (refine awp_reg_seq [1, 2, 3, 6, 9, 10] fun K hK => ?_; (repeat' ((first | refine al_r rfl fun K' hK' => ?_ | refine al_d rfl fun K' hK' => ?_); (repeat (first | (simp only [go_sem, simprocAttr, bne_self_eq_false, List.length_map]) | refine AS.mk ?_)); (first | ((first | refine hK' _ _ ?_ | refine ⟨?_, hK' _ _ ?_⟩) <;> clear hK' K' <;> (first | (show alist _ _ _ _ _ _; skip) | (simp; done))) | ((show AC _ _ (D.fn 19 _) _ _); refine acall_p (f := 19) (e := rfl) (hr := rfl) (k := hK' _ _ ?_) (hc := Try.call19) (h := hat); clear hK' K')))); all_goals (refine al_nil ?_; (simp only [go_sem, simprocAttr, bne_self_eq_false, List.length_map]); refine hK _ ?_; clear hK K))
    (refine awp_frz [1, 2, 3, 6, 9, 10] [0] (by decide) (by (simp; done)) ?_; simp only [go_sem, simprocAttr, bne_self_eq_false, List.length_map])
    refine awp_seq_k fun K hK => ?_
    refine awp_block ?_
    refine awp_reg_tov [1, 2, 3, 6, 9, 32] [(32, bD false)] (h := ?_) (k := ?_)
    · all_goals ((repeat' ((first | refine al_r rfl fun K' hK' => ?_ | refine al_t rfl rfl fun K' hK' => ?_); (repeat (simp only [go_sem, simprocAttr, bne_self_eq_false, List.length_map])); (first | ((refine hK' _ _ ?_) <;> clear hK' K') | ((show AC _ _ (D.fn 67 _) _ _); refine acall_p (f := 67) (e := rfl) (hr := rfl) (k := hK' _ _ ?_) (hc := Try.call67) (h := hbe); clear hK' K')))); all_goals (refine al_nil ?_; (simp only [go_sem, simprocAttr, bne_self_eq_false, List.length_map, *, Bool.and_true, Bool.and_false, Bool.true_and, Bool.false_and, Bool.or_true, Bool.true_or, Bool.or_false, Bool.false_or, Bool.not_true, Bool.not_false, Bool.false_eq_true]; done)))
    (intro K hK; (simp only [go_sem, simprocAttr, bne_self_eq_false, List.length_map]); refine hK _ ?_; clear hK K)
    refine awp_if (_) rfl (fun hc => ?_) (fun hc => ?_)
    · cases hc

    · refine awp_reg_tov [1, 2, 3, 6, 43] [(43, bD false)] (h := ?_) (k := ?_)
      · all_goals ((repeat' ((first | refine al_r rfl fun K' hK' => ?_ | refine al_t rfl rfl fun K' hK' => ?_); (repeat (simp only [go_sem, simprocAttr, hk, hpa, List.length_map])); ((first | refine hK' _ _ ?_ | refine ⟨?_, hK' _ _ ?_⟩) <;> clear hK' K' <;> (first | (show alist _ _ _ _ _ _; skip) | (intro s hs; cases hs; done))))); all_goals (refine al_nil ?_; (simp only [go_sem, simprocAttr, hk, hpa, List.length_map, *, Bool.and_true, Bool.and_false, Bool.true_and, Bool.false_and, Bool.or_true, Bool.true_or, Bool.or_false, Bool.false_or, Bool.not_true, Bool.not_false, Bool.false_eq_true]; done)))
      (intro K hK; (simp only [go_sem, simprocAttr, hk, hpa, List.length_map]); refine hK _ ?_; clear hK K)
      refine awp_if (_) rfl (fun hc => ?_) (fun hc => ?_)
      · cases hc
      · refine awp_skip ?_
        refine hK _ ?_; clear hK K
        refine awp_suff ⟨ofL [(1, iD n), (2, wD w), (3, .rd [.sl (h.map wrow), .lit (.int .i64 old), .sl (late.map irow)] 0), (6, .ptr 0 0 0), (11, .ptr 1 0 0)], [.box [.nil, iD 0, .nil], .box [.ref 2 0 h.length, iD old, .ref 3 0 late.length], .row 1 (h.map wrow), .row 1 (late.map irow)], 0⟩ ?_ (fun keyA => ?_)
        rotate_left
        · refine awp_draw_seq (by kernel_rfl) [1, 2, 3, 6, 11] fun K hK => ?_
          ((refine ah_r 0 rfl (by kernel_rfl) rfl fun K' hK' => ?_); (simp only [go_sem, simprocAttr, hk, hpa, List.length_map]); ((refine hK' _ ?_); clear hK' K'))
          ((refine ah_r 1 rfl (by kernel_rfl) rfl fun K' hK' => ?_); (simp only [go_sem, simprocAttr, hk, hpa, List.length_map]); ((refine hK' _ ?_); clear hK' K'))
          ((refine ah_r 3 rfl (by kernel_rfl) rfl fun K' hK' => ?_); (simp only [go_sem, simprocAttr, hk, hpa, List.length_map]); ((refine hK' _ ?_); clear hK' K'))
          ((refine ah_r 4 rfl (by kernel_rfl) rfl fun K' hK' => ?_); (simp only [go_sem, simprocAttr, hk, hpa, List.length_map]); ((refine hK' _ ?_); clear hK' K'))
          ((refine ah_r 5 rfl (by kernel_rfl) rfl fun K' hK' => ?_); (simp only [go_sem, simprocAttr, hk, hpa, List.length_map]); ((refine hK' _ ?_); clear hK' K'))
          ((refine ah_r 6 rfl (by kernel_rfl) rfl fun K' hK' => ?_); (simp only [go_sem, simprocAttr, hk, hpa, List.length_map]); ((refine hK' _ ?_); clear hK' K'))
          refine ah_two 2 9 rfl rfl (by kernel_rfl) ?_ ?_
          · ((repeat' ((refine al_r rfl fun K' hK' => ?_); (repeat (simp only [go_sem, simprocAttr, hk, hpa, List.length_map])); ((show AC _ _ (D.fn 43 _) _ _); refine acall_new (f := 43) Try.call43 hcH rfl ?_; rintro r obs' ⟨rfl, rfl⟩; (simp only [go_sem, simprocAttr, hk, hpa, List.length_map]); refine hK' _ _ ?_; clear hK' K'))); all_goals refine al_nil ?_)
            refine ah_two 7 9 rfl rfl (by kernel_rfl) ?_ ?_
            · ((repeat' ((refine al_r rfl fun K' hK' => ?_); (repeat (simp only [go_sem, simprocAttr, hk, hpa, List.length_map])); ((show AC _ _ (D.fn 45 _) _ _); refine acall_new (f := 45) Try.call45 hcI rfl ?_; rintro r obs' ⟨rfl, rfl⟩; (simp only [go_sem, simprocAttr, hk, hpa, List.length_map]); refine hK' _ _ ?_; clear hK' K'))); all_goals refine al_nil ?_)
              refine ah_two 8 9 rfl rfl (by kernel_rfl) ?_ ?_
              · ((repeat' ((refine al_r rfl fun K' hK' => ?_); (repeat (simp only [go_sem, simprocAttr, hk, hpa, List.length_map])); ((refine hK' _ _ ?_) <;> clear hK' K'))); all_goals refine al_nil ?_)
                (refine ah_one 9 rfl (by kernel_rfl) ?_; (repeat' ((refine al_r rfl fun K' hK' => ?_); (repeat (simp only [go_sem, simprocAttr, hk, hpa, List.length_map])); ((refine hK' _ _ ?_) <;> clear hK' K'))); all_goals refine al_nil ?_)
                (refine ah_one 10 rfl (by kernel_rfl) ?_; (repeat' ((refine al_d rfl fun K' hK' => ?_); (repeat (first | (simp only [go_sem, simprocAttr, hk, hpa, List.length_map]) | refine AS.mk ?_)); ((refine ⟨?_, hK' _ _ ?_⟩) <;> clear hK' K' <;> (first | (show alist _ _ _ _ _ _; skip) | (simp; done))))); all_goals refine al_nil ?_)
                (refine ah_done (by kernel_rfl) ?_; (simp only [go_sem, simprocAttr, hk, hpa, List.length_map]); refine hK _ ?_; clear hK K)
                (refine awp_frz [1, 2, 3, 6, 11] [0, 3, 1, 2] (by decide) (by (simp; done)) ?_; simp only [go_sem, simprocAttr, hk, hpa, List.length_map])
                exact keyA
              · ((repeat' ((refine al_r rfl fun K' hK' => ?_); (repeat (simp only [go_sem, simprocAttr, hk, hpa, List.length_map])); ((refine hK' _ _ ?_) <;> clear hK' K'))); all_goals refine al_nil ?_)
                (refine ah_one 8 rfl (by kernel_rfl) ?_; (repeat' ((refine al_r rfl fun K' hK' => ?_); (repeat (simp only [go_sem, simprocAttr, hk, hpa, List.length_map])); ((refine hK' _ _ ?_) <;> clear hK' K'))); all_goals refine al_nil ?_)
                (refine ah_one 10 rfl (by kernel_rfl) ?_; (repeat' ((refine al_d rfl fun K' hK' => ?_); (repeat (first | (simp only [go_sem, simprocAttr, hk, hpa, List.length_map]) | refine AS.mk ?_)); ((refine ⟨?_, hK' _ _ ?_⟩) <;> clear hK' K' <;> (first | (show alist _ _ _ _ _ _; skip) | (simp; done))))); all_goals refine al_nil ?_)
                (refine ah_done (by kernel_rfl) ?_; (simp only [go_sem, simprocAttr, hk, hpa, List.length_map]); refine hK _ ?_; clear hK K)
                (refine awp_frz [1, 2, 3, 6, 11] [0, 3, 1, 2] (by decide) (by (simp; done)) ?_; simp only [go_sem, simprocAttr, hk, hpa, List.length_map])
                exact keyA
            · ((repeat' ((refine al_r rfl fun K' hK' => ?_); (repeat (simp only [go_sem, simprocAttr, hk, hpa, List.length_map])); ((refine hK' _ _ ?_) <;> clear hK' K'))); all_goals refine al_nil ?_)
              (refine ah_one 7 rfl (by kernel_rfl) ?_; (repeat' ((refine al_r rfl fun K' hK' => ?_); (repeat (simp only [go_sem, simprocAttr, hk, hpa, List.length_map])); ((show AC _ _ (D.fn 45 _) _ _); refine acall_new (f := 45) Try.call45 hcI rfl ?_; rintro r obs' ⟨rfl, rfl⟩; (simp only [go_sem, simprocAttr, hk, hpa, List.length_map]); refine hK' _ _ ?_; clear hK' K'))); all_goals refine al_nil ?_)
              (refine ah_one 8 rfl (by kernel_rfl) ?_; (repeat' ((refine al_r rfl fun K' hK' => ?_); (repeat (simp only [go_sem, simprocAttr, hk, hpa, List.length_map])); ((refine hK' _ _ ?_) <;> clear hK' K'))); all_goals refine al_nil ?_)
              (refine ah_one 10 rfl (by kernel_rfl) ?_; (repeat' ((refine al_d rfl fun K' hK' => ?_); (repeat (first | (simp only [go_sem, simprocAttr, hk, hpa, List.length_map]) | refine AS.mk ?_)); ((refine ⟨?_, hK' _ _ ?_⟩) <;> clear hK' K' <;> (first | (show alist _ _ _ _ _ _; skip) | (simp; done))))); all_goals refine al_nil ?_)
              (refine ah_done (by kernel_rfl) ?_; (simp only [go_sem, simprocAttr, hk, hpa, List.length_map]); refine hK _ ?_; clear hK K)
              (refine awp_frz [1, 2, 3, 6, 11] [0, 2, 1, 3] (by decide) (by (simp; done)) ?_; simp only [go_sem, simprocAttr, hk, hpa, List.length_map])
              exact keyA
          · ((repeat' ((refine al_r rfl fun K' hK' => ?_); (repeat (simp only [go_sem, simprocAttr, hk, hpa, List.length_map])); ((refine hK' _ _ ?_) <;> clear hK' K'))); all_goals refine al_nil ?_)
            (refine ah_one 2 rfl (by kernel_rfl) ?_; (repeat' ((refine al_r rfl fun K' hK' => ?_); (repeat (simp only [go_sem, simprocAttr, hk, hpa, List.length_map])); ((show AC _ _ (D.fn 43 _) _ _); refine acall_new (f := 43) Try.call43 hcH rfl ?_; rintro r obs' ⟨rfl, rfl⟩; (simp only [go_sem, simprocAttr, hk, hpa, List.length_map]); refine hK' _ _ ?_; clear hK' K'))); all_goals refine al_nil ?_)
            (refine ah_one 7 rfl (by kernel_rfl) ?_; (repeat' ((refine al_r rfl fun K' hK' => ?_); (repeat (simp only [go_sem, simprocAttr, hk, hpa, List.length_map])); ((show AC _ _ (D.fn 45 _) _ _); refine acall_new (f := 45) Try.call45 hcI rfl ?_; rintro r obs' ⟨rfl, rfl⟩; (simp only [go_sem, simprocAttr, hk, hpa, List.length_map]); refine hK' _ _ ?_; clear hK' K'))); all_goals refine al_nil ?_)
            (refine ah_one 8 rfl (by kernel_rfl) ?_; (repeat' ((refine al_r rfl fun K' hK' => ?_); (repeat (simp only [go_sem, simprocAttr, hk, hpa, List.length_map])); ((refine hK' _ _ ?_) <;> clear hK' K'))); all_goals refine al_nil ?_)
            (refine ah_one 10 rfl (by kernel_rfl) ?_; (repeat' ((refine al_d rfl fun K' hK' => ?_); (repeat (first | (simp only [go_sem, simprocAttr, hk, hpa, List.length_map]) | refine AS.mk ?_)); ((refine ⟨?_, hK' _ _ ?_⟩) <;> clear hK' K' <;> (first | (show alist _ _ _ _ _ _; skip) | (simp; done))))); all_goals refine al_nil ?_)
            (refine ah_done (by kernel_rfl) ?_; (simp only [go_sem, simprocAttr, hk, hpa, List.length_map]); refine hK _ ?_; clear hK K)
            (refine awp_frz [1, 2, 3, 6, 11] [0, 1, 2, 3] (by decide) (by (simp; done)) ?_; simp only [go_sem, simprocAttr, hk, hpa, List.length_map])
            exact keyA
        obtain ⟨x0, hx0⟩ := get_of_lt hn

        (refine awp_reg_seq [1, 2, 3, 6, 11] fun K hK => ?_; (repeat' ((first | refine al_r rfl fun K' hK' => ?_ | refine al_d rfl fun K' hK' => ?_); (repeat (first | (simp only [go_sem, simprocAttr, hx0, List.getElem?_map, Option.map_some, List.length_map, hnn, hnl, hnx, hset, Int.toNat_natCast]) | refine AS.mk ?_)); ((first | refine hK' _ _ ?_ | refine ⟨?_, hK' _ _ ?_⟩) <;> clear hK' K' <;> (first | (show alist _ _ _ _ _ _; skip) | (simp; done))))); all_goals (refine al_nil ?_; (simp only [go_sem, simprocAttr, hx0, List.getElem?_map, Option.map_some, List.length_map, hnn, hnl, hnx, hset, Int.toNat_natCast]); refine hK _ ?_; clear hK K))
        refine awp_seq_k fun K hK => ?_
        (refine awp_reg_seq [1, 3, 6, 11, 12, 13] fun K hK => ?_; (repeat' ((refine al_r rfl fun K' hK' => ?_); (repeat (simp only [go_sem, simprocAttr, hx0, List.getElem?_map, Option.map_some, List.length_map, hnn, hnl, hnx, hset, Int.toNat_natCast])); (first | ((refine hK' _ _ ?_) <;> clear hK' K') | ((show AC _ _ (D.fn 68 _) _ _); refine acall_p (f := 68) (e := rfl) (hr := rfl) (k := hK' _ _ ?_) (hc := Try.call68) (h := hpl); clear hK' K')))); all_goals (refine al_nil ?_; (simp only [go_sem, simprocAttr, hx0, List.getElem?_map, Option.map_some, List.length_map, hnn, hnl, hnx, hset, Int.toNat_natCast]); refine hK _ ?_; clear hK K))

        refine awp_reg_tov [1, 6, 11, 87] [(87, bD (Is && X && Y))] (h := ?_) (k := ?_)
        · cases Is <;> cases X
          all_goals ((repeat' (first | ((first | refine al_r rfl fun K' hK' => ?_ | refine al_t rfl rfl fun K' hK' => ?_); (repeat (simp only [go_sem, simprocAttr, hX, hY])); ((refine hK' _ _ ?_) <;> clear hK' K')) | refine al_e rfl rfl ?_)); all_goals (refine al_nil ?_; (simp only [go_sem, simprocAttr, hX, hY, *, Bool.and_true, Bool.and_false, Bool.true_and, Bool.false_and, Bool.or_true, Bool.true_or, Bool.or_false, Bool.false_or, Bool.not_true, Bool.not_false, Bool.false_eq_true]; done)))
        (intro K hK; (simp only [go_sem, simprocAttr, hX, hY]); refine hK _ ?_; clear hK K)
        refine awp_if (Is && X && Y) rfl (fun hc => ?_) (fun hc => ?_)
        · rw [if_pos hc] at hV

          (refine awp_reg_seq [1, 6, 11, 15, 16] fun K hK => ?_; (repeat' ((refine al_r rfl fun K' hK' => ?_); (repeat (simp only [go_sem, simprocAttr, List.length_map])); (first | ((refine hK' _ _ ?_) <;> clear hK' K') | ((show AC _ _ (D.fn 69 _) _ _); refine acall_g (f := 69) (e := rfl) (hr := rfl) (hf := by simp [D.all, D.allL, flatL, flatPV]) (k := hK' _ _ ?_) (hc := Try.call69) (h := hsr2); clear hK' K')))); all_goals (refine al_nil ?_; (simp only [go_sem, simprocAttr, List.length_map]); refine hK _ ?_; clear hK K))
          (refine awp_reg_seq [1, 6, 11, 15, 96] fun K hK => ?_; (repeat' ((refine al_r rfl fun K' hK' => ?_); (repeat (simp only [go_sem, simprocAttr, List.length_map])); ((refine hK' _ _ ?_) <;> clear hK' K'))); all_goals (refine al_nil ?_; (simp only [go_sem, simprocAttr, List.length_map]); refine hK _ ?_; clear hK K))
          refine awp_if (!fnd) rfl (fun hc => ?_) (fun hc => ?_)
          · have hVV : V = insL late pos n := by rw [hV, if_neg (by simpa using hc)]

            (refine awp_reg_end [6, 11] fun K hK => ?_; (repeat' ((first | refine al_r rfl fun K' hK' => ?_ | refine al_d rfl fun K' hK' => ?_); (repeat (first | (simp only [go_sem, simprocAttr, List.length_map, hil]) | refine AS.mk ?_)); (first | ((first | refine hK' _ _ ?_ | refine ⟨?_, hK' _ _ ?_⟩) <;> clear hK' K' <;> (first | (show alist _ _ _ _ _ _; skip) | (simp; done))) | ((show AC _ _ (D.fn 70 _) _ _); refine acall_m (f := 70) [3, 4] Try.call70 hin rfl rfl (by decide) (by simp) ?_; rintro r obs' ⟨rfl, rfl⟩; refine ⟨by simp, ?_⟩; (simp only [go_sem, simprocAttr, List.length_map, hil]); refine hK' _ _ ?_; clear hK' K')))); all_goals (refine al_nil ?_; (simp only [go_sem, simprocAttr, List.length_map, hil]); refine hK _ ?_; clear hK K))
            refine hK _ ?_; clear hK K
            (refine awp_reg_seq [6, 7] fun K hK => ?_; (repeat' ((first | refine al_r rfl fun K' hK' => ?_ | refine al_d rfl fun K' hK' => ?_); (repeat (first | (simp only [go_sem, simprocAttr, List.length_map, hil]) | refine AS.mk ?_)); ((first | refine hK' _ _ ?_ | refine ⟨?_, hK' _ _ ?_⟩) <;> clear hK' K' <;> (first | (show alist _ _ _ _ _ _; skip) | (simp; done))))); all_goals (refine al_nil ?_; (simp only [go_sem, simprocAttr, List.length_map, hil]); refine hK _ ?_; clear hK K))
            refine awp_ret ?_; refine hR _ _ (.inl rfl) rfl ?_
            rw [hVV]
            simp only [go_sem, simprocAttr, List.length_map, hil, htH, htI, htL]
          · have hVV : V = late := by rw [hV, if_pos (by simpa using hc)]
            refine awp_skip ?_
            refine hK _ ?_; clear hK K
            (refine awp_reg_seq [6, 7] fun K hK => ?_; (repeat' ((first | refine al_r rfl fun K' hK' => ?_ | refine al_d rfl fun K' hK' => ?_); (repeat (first | (simp only [go_sem, simprocAttr, List.length_map, hil]) | refine AS.mk ?_)); ((first | refine hK' _ _ ?_ | refine ⟨?_, hK' _ _ ?_⟩) <;> clear hK' K' <;> (first | (show alist _ _ _ _ _ _; skip) | (simp; done))))); all_goals (refine al_nil ?_; (simp only [go_sem, simprocAttr, List.length_map, hil]); refine hK _ ?_; clear hK K))
            refine awp_ret ?_; refine hR _ _ (.inl rfl) rfl ?_
            rw [hVV]
            simp only [go_sem, simprocAttr, List.length_map, hil, htH, htI, htL]
        · have hVV : V = late := by rw [hV, if_neg (by rw [hc]; simp)]
          refine awp_skip ?_
          refine hK _ ?_; clear hK K
          (refine awp_reg_seq [6, 7] fun K hK => ?_; (repeat' ((first | refine al_r rfl fun K' hK' => ?_ | refine al_d rfl fun K' hK' => ?_); (repeat (first | (simp only [go_sem, simprocAttr, List.length_map, hil]) | refine AS.mk ?_)); ((first | refine hK' _ _ ?_ | refine ⟨?_, hK' _ _ ?_⟩) <;> clear hK' K' <;> (first | (show alist _ _ _ _ _ _; skip) | (simp; done))))); all_goals (refine al_nil ?_; (simp only [go_sem, simprocAttr, List.length_map, hil]); refine hK _ ?_; clear hK K))
          refine awp_ret ?_; refine hR _ _ (.inl rfl) rfl ?_
          rw [hVV]
          simp only [go_sem, simprocAttr, List.length_map, hil, htH, htI, htL]
end Go.Proofs.Ytagphggcdmjlpaa.P

/- Put, its answer an own row: a contract. -/
namespace Go.Proofs.Ytagphggcdmjlpaa.P
open Go.Ab Go.Proofs.Ytagphggcdmjlpaa.T


theorem putO (h : List Int) (o : Obj) (hlen : h.length ≤ maxLen) (hg : (putS h o).2.2 = 0) : ACalls Try.prog 17 [words h, objD o] [] (fun r obs' => r = .tup [.ref 0 0 (putS h o).1.length, iD h.length, iD 0] ∧ obs' = [.row 1 ((putS h o).1.map wrow)]) := by
  have hri := right o
  have hhe := head o
  have hsm := right_small (o := o)
  obtain ⟨R0, hR0⟩ : ∃ R0, R0 = putS h o := ⟨_, rfl⟩
  have hv : R0 = if !rightS o then ([], 0, 1) else if decide ((h.length : Int) > 4000 - (roomN o.kind o.text.size o.parts.length : Int)) then ([], 0, 6) else (h ++ encW o, (h.length : Int), 0) := hR0
  rw [← hR0] at hg ⊢
  clear hR0
  have hel := enc_len o
  generalize rightS o = r at hri hsm hv
  refine acallm_fn [4, 5, 6] Try.func17 rfl rfl Try.ntmps17 (by simp) (by simp) fun R hR => ?_
  (refine awp_reg_seq [0, 3] fun K hK => ?_; (repeat' ((refine al_r rfl fun K' hK' => ?_); (repeat (simp only [go_sem, simprocAttr, List.length_map])); ((refine hK' _ _ ?_) <;> clear hK' K'))); all_goals (refine al_nil ?_; (simp only [go_sem, simprocAttr, List.length_map]); refine hK _ ?_; clear hK K))
  (refine awp_frz [0, 3] [] (by decide) (by (simp; done)) ?_; simp only [go_sem, simprocAttr, List.length_map])
  refine awp_seq_k fun K hK => ?_
  refine awp_block ?_
  (refine awp_reg_seq [0, 3, 11] fun K hK => ?_; (repeat' ((refine al_r rfl fun K' hK' => ?_); (repeat (simp only [go_sem, simprocAttr, List.length_map])); (first | ((refine hK' _ _ ?_) <;> clear hK' K') | ((show AC _ _ (D.fn 52 _) _ _); refine acall_p (f := 52) (e := rfl) (hr := rfl) (k := hK' _ _ ?_) (hc := Try.call52) (h := hri); clear hK' K')))); all_goals (refine al_nil ?_; (simp only [go_sem, simprocAttr, List.length_map]); refine hK _ ?_; clear hK K))
  refine awp_if (_) rfl (fun hc => ?_) (fun hc => ?_)
  · (refine awp_reg_seq [4, 5, 6] fun K hK => ?_; (repeat' ((refine al_r rfl fun K' hK' => ?_); (repeat (simp only [go_sem, simprocAttr, List.length_map])); ((refine hK' _ _ ?_) <;> clear hK' K'))); all_goals (refine al_nil ?_; (simp only [go_sem, simprocAttr, List.length_map]); refine hK _ ?_; clear hK K))
    exfalso
    rw [if_pos hc] at hv
    rw [hv] at hg
    cases hg
  · rw [if_neg (by rw [hc]; simp)] at hv
    obtain ⟨hs64, hp400⟩ := hsm (by simpa using hc)
    have hro := room o.kind o.text.size o.parts.length (by omega) (by omega)
    have hr1 : roomN o.kind o.text.size o.parts.length ≤ 500 := by
      unfold roomN
      split <;> omega
    have hw4 : IntKind.i64.wrap (4000 - (roomN o.kind o.text.size o.parts.length : Int)) = 4000 - (roomN o.kind o.text.size o.parts.length : Int) := by rw [Go.Ab.wrap_small (by omega) (by omega)]
    generalize roomN o.kind o.text.size o.parts.length = rm at *

    (refine awp_reg_seq [0, 3, 15] fun K hK => ?_; (repeat' ((refine al_r rfl fun K' hK' => ?_); (repeat (simp only [go_sem, simprocAttr, List.length_map, hw4])); (first | ((first | refine hK' _ _ ?_ | refine ⟨?_, hK' _ _ ?_⟩) <;> clear hK' K' <;> (first | (show alist _ _ _ _ _ _; skip) | (intro s hs; cases hs; done) | (simp; done))) | ((show AC _ _ (D.fn 51 _) _ _); refine acall_p (f := 51) (e := rfl) (hr := rfl) (k := hK' _ _ ?_) (hc := Try.call51) (h := hro); clear hK' K')))); all_goals (refine al_nil ?_; (simp only [go_sem, simprocAttr, List.length_map, hw4]); refine hK _ ?_; clear hK K))
    refine awp_if (decide ((h.length : Int) > 4000 - (rm : Int))) rfl (fun hc => ?_) (fun hc => ?_)
    · (refine awp_reg_seq [4, 5, 6] fun K hK => ?_; (repeat' ((refine al_r rfl fun K' hK' => ?_); (repeat (simp only [go_sem, simprocAttr, List.length_map, hw4])); ((refine hK' _ _ ?_) <;> clear hK' K'))); all_goals (refine al_nil ?_; (simp only [go_sem, simprocAttr, List.length_map, hw4]); refine hK _ ?_; clear hK K))
      exfalso
      rw [if_pos hc] at hv
      rw [hv] at hg
      cases hg
    · rw [if_neg (by rw [hc]; simp)] at hv
      have hh4 : h.length ≤ 4000 := by simp at hc; omega
      have hcl := cloneH (h.map wrow) (wrow1 h) (by simp; omega)
      rw [List.length_map] at hcl
      have hth : List.take h.length (h.map wrow) = h.map wrow := List.take_of_length_le (by simp)
      have hfit : (h.length + 1) * 8 ≤ 140737488355328 := by omega

      refine awp_skip ?_
      refine hK _ ?_; clear hK K
      refine awp_draw_seq (by kernel_rfl) [0, 3, 7] fun K hK => ?_
      ((refine ah_r 0 rfl (by kernel_rfl) rfl fun K' hK' => ?_); (simp only [go_sem, simprocAttr, List.length_map, hth, hfit, List.drop_zero]); ((refine hK' _ ?_); clear hK' K'))
      ((refine ah_r 2 rfl (by kernel_rfl) rfl fun K' hK' => ?_); (simp only [go_sem, simprocAttr, List.length_map, hth, hfit, List.drop_zero]); ((refine hK' _ ?_); clear hK' K'))
      (refine ah_one 1 rfl (by kernel_rfl) ?_; (repeat' ((refine al_r rfl fun K' hK' => ?_); (repeat (simp only [go_sem, simprocAttr, List.length_map, hth, hfit, List.drop_zero])); ((show AC _ _ (D.fn 43 _) _ _); refine acall_new (f := 43) Try.call43 hcl rfl ?_; rintro r obs' ⟨rfl, rfl⟩; (simp only [go_sem, simprocAttr, List.length_map, hth, hfit, List.drop_zero]); refine hK' _ _ ?_; clear hK' K'))); all_goals refine al_nil ?_)
      (refine ah_one 3 rfl (by kernel_rfl) ?_; (repeat' ((refine al_r rfl fun K' hK' => ?_); (repeat (simp only [go_sem, simprocAttr, List.length_map, hth, hfit, List.drop_zero])); ((show AC _ _ (D.fn 53 _) _ _); refine acall_p (f := 53) (e := rfl) (hr := rfl) (k := hK' _ _ ?_) (hc := Try.call53) (h := hhe); clear hK' K'))); all_goals refine al_nil ?_)
      (refine ah_one 4 rfl (by kernel_rfl) ?_; (repeat' ((refine al_r rfl fun K' hK' => ?_); (repeat (simp only [go_sem, simprocAttr, List.length_map, hth, hfit, List.drop_zero])); ((refine hK' _ _ ?_) <;> clear hK' K'))); all_goals refine al_nil ?_)
      (refine ah_one 5 rfl (by kernel_rfl) ?_; (repeat' ((refine al_r rfl fun K' hK' => ?_); (repeat (first | (simp only [go_sem, simprocAttr, List.length_map, hth, hfit, List.drop_zero]) | refine AAp.grow ?_)); ((refine ⟨?_, ?_, hK' _ _ ?_⟩) <;> clear hK' K' <;> (first | (show alist _ _ _ _ _ _; skip) | (simp; done))))); all_goals refine al_nil ?_)
      ((refine ah_r 6 rfl (by kernel_rfl) rfl fun K' hK' => ?_); (simp only [go_sem, simprocAttr, List.length_map, hth, hfit, List.drop_zero]); ((refine hK' _ ?_); clear hK' K'))
      (refine ah_done (by kernel_rfl) ?_; (simp only [go_sem, simprocAttr, List.length_map, hth, hfit, List.drop_zero]); refine hK _ ?_; clear hK K)
      refine awp_seq_kc fun K hK hcut => ?_
      have key : ∀ W : List Int, W.length ≤ 4010 → R0 = (W ++ (textW o.text ++ o.parts), (h.length : Int), 0) → K ⟨ofL [(0, words h), (3, .rd [.lit (.int .i64 o.at_), .lit (.int .i64 o.kind), .lit (.int .i64 o.num), .lit (.string o.text), .sl (o.parts.map wrow)] 0), (7, .ref 0 0 W.length)], [.row 1 (W.map wrow)], 0⟩ := by
        clear hcut
        intro W hWl hRW
        clear hv hcl hel
        obtain ⟨M, hM⟩ : ∃ M, M = (o.text.size + 7) / 8 := ⟨_, rfl⟩
        have hM9 : M ≤ 8 := by omega
        refine hK _ ?_; clear hK K
        refine awp_seq_k fun K hK => ?_
        (refine awp_reg_seq [0, 3, 7, 8] fun K hK => ?_; (repeat' ((refine al_r rfl fun K' hK' => ?_); (repeat (simp only [go_sem, simprocAttr, List.length_map, hth, hfit, List.drop_zero])); ((refine hK' _ _ ?_) <;> clear hK' K'))); all_goals (refine al_nil ?_; (simp only [go_sem, simprocAttr, List.length_map, hth, hfit, List.drop_zero]); refine hK _ ?_; clear hK K))
        refine awp_block ?_
        -- loop 0 head [0, 3, 7, 8]
        refine awp_loop_cut (fun m s => ∃ (j : Nat) (V : List Int), j ≤ M ∧ m = M - j ∧ V.length = W.length + j ∧ V ++ textF o.text (M - j) (8 * j) = W ++ textW o.text ∧ s = ⟨ofL [(0, words h), (3, .rd [.lit (.int .i64 o.at_), .lit (.int .i64 o.kind), .lit (.int .i64 o.num), .lit (.string o.text), .sl (o.parts.map wrow)] 0), (7, .ref 0 0 V.length), (8, iD ((8 * j : Nat) : Int))], [.row 1 (V.map wrow)], 0⟩) ⟨_, 0, W, Nat.zero_le _, rfl, rfl, by rw [hM]; rfl, rfl⟩ ?_
        rintro m s ⟨j, V, hj, hmj, hVl, hVt, rfl⟩
        refine awp_seq_k fun K hK => ?_
        (refine awp_reg_seq [0, 3, 7, 8, 53] fun K hK => ?_; (repeat' ((refine al_r rfl fun K' hK' => ?_); (repeat (simp only [go_sem, simprocAttr, List.length_map, hth, hfit, List.drop_zero])); ((first | refine hK' _ _ ?_ | refine ⟨?_, hK' _ _ ?_⟩) <;> clear hK' K' <;> (first | (show alist _ _ _ _ _ _; skip) | (simp; done))))); all_goals (refine al_nil ?_; (simp only [go_sem, simprocAttr, List.length_map, hth, hfit, List.drop_zero]); refine hK _ ?_; clear hK K))
        refine awp_if (decide (((8 * j : Nat) : Int) < (o.text.size : Int))) rfl (fun hc => ?_) (fun hc => ?_)
        · refine awp_skip ?_
          refine hK _ ?_; clear hK K
          refine awp_seq_k fun K hK => ?_
          refine awp_block ?_
          have hj2 : j < M := by simp at hc; omega
          have htf : textF o.text (M - j) (8 * j) = wordAt o.text (8 * j) :: textF o.text (M - (j + 1)) (8 * (j + 1)) := by
            rw [show M - j = (M - (j + 1)) + 1 by omega]; rfl
          (refine awp_reg_seq [0, 3, 7, 8, 9] fun K hK => ?_; (repeat' ((refine al_r rfl fun K' hK' => ?_); (repeat (simp only [go_sem, simprocAttr, List.length_map, hth, hfit, List.drop_zero])); ((refine hK' _ _ ?_) <;> clear hK' K'))); all_goals (refine al_nil ?_; (simp only [go_sem, simprocAttr, List.length_map, hth, hfit, List.drop_zero]); refine hK _ ?_; clear hK K))
          refine awp_seq_k fun K hK => ?_
          (refine awp_reg_seq [0, 3, 7, 8, 9, 56] fun K hK => ?_; (repeat' ((refine al_r rfl fun K' hK' => ?_); (repeat (simp only [go_sem, simprocAttr, List.length_map, hth, hfit, List.drop_zero])); ((refine hK' _ _ ?_) <;> clear hK' K'))); all_goals (refine al_nil ?_; (simp only [go_sem, simprocAttr, List.length_map, hth, hfit, List.drop_zero]); refine hK _ ?_; clear hK K))
          refine awp_block ?_
          -- loop 1 head [0, 3, 7, 8, 9, 56]
          refine awp_loop (fun m s => ∃ (k : Nat) (w : Int), k ≤ 8 ∧ m = 8 - k ∧ orF o.text (8 * j) (8 - k) k w = wordAt o.text (8 * j) ∧ s = ⟨ofL [(0, words h), (3, .rd [.lit (.int .i64 o.at_), .lit (.int .i64 o.kind), .lit (.int .i64 o.num), .lit (.string o.text), .sl (o.parts.map wrow)] 0), (7, .ref 0 0 V.length), (8, iD ((8 * j : Nat) : Int)), (9, wD w), (56, iD k)], [.row 1 (V.map wrow)], 0⟩) ⟨_, 0, 0, by omega, rfl, rfl, rfl⟩ ?_
          rintro m s ⟨k, w, hk, rfl, hw, rfl⟩
          (refine awp_reg_seq [0, 3, 7, 8, 9, 56, 57] fun K hK => ?_; (repeat' ((refine al_r rfl fun K' hK' => ?_); (repeat (simp only [go_sem, simprocAttr, List.length_map, hth, hfit, List.drop_zero])); ((refine hK' _ _ ?_) <;> clear hK' K'))); all_goals (refine al_nil ?_; (simp only [go_sem, simprocAttr, List.length_map, hth, hfit, List.drop_zero]); refine hK _ ?_; clear hK K))
          refine awp_seq_k fun K hK => ?_
          refine awp_if (decide ((k : Int) < 8)) rfl (fun hc => ?_) (fun hc => ?_)
          · refine awp_skip ?_
            refine hK _ ?_; clear hK K
            refine awp_seq_k fun K hK => ?_
            refine awp_block ?_
            have hk2 : k < 8 := by simp at hc; omega
            have hnk : IntKind.i64.wrap ((k : Int) + 1) = ((k + 1 : Nat) : Int) := by rw [Go.Ab.wrap_small (by omega) (by omega)]; rfl
            have hwi : IntKind.i64.wrap (((8 * j : Nat) : Int) + (k : Int)) = ((8 * j + k : Nat) : Int) := by rw [Go.Ab.wrap_small (by omega) (by omega)]; rfl
            have hm8 : IntKind.i64.wrap (8 * (k : Int)) = ((8 * k : Nat) : Int) := by rw [Go.Ab.wrap_small (by omega) (by omega)]; omega
            have h80 : (0 : Int) ≤ ((8 * k : Nat) : Int) := Int.natCast_nonneg _
            have hi0 : (0 : Int) ≤ ((8 * j + k : Nat) : Int) := Int.natCast_nonneg _
            have horf : orF o.text (8 * j) (8 - k) k w = orF o.text (8 * j) (8 - (k + 1)) (k + 1) (orStep o.text (8 * j) k w) := by
              rw [show 8 - k = (8 - (k + 1)) + 1 by omega]; rfl
            rw [horf] at hw
            (refine awp_reg_seq [0, 3, 7, 8, 9, 10, 56] fun K hK => ?_; (repeat' ((refine al_r rfl fun K' hK' => ?_); (repeat (simp only [go_sem, simprocAttr, List.length_map, hth, hfit, List.drop_zero])); ((refine hK' _ _ ?_) <;> clear hK' K'))); all_goals (refine al_nil ?_; (simp only [go_sem, simprocAttr, List.length_map, hth, hfit, List.drop_zero]); refine hK _ ?_; clear hK K))

            (refine awp_reg_seq [0, 3, 7, 8, 9, 10, 56, 65] fun K hK => ?_; (repeat' ((refine al_r rfl fun K' hK' => ?_); (repeat (simp only [go_sem, simprocAttr, hwi, hnk, hm8, h80, hi0])); ((first | refine hK' _ _ ?_ | refine ⟨?_, hK' _ _ ?_⟩) <;> clear hK' K' <;> (first | (show alist _ _ _ _ _ _; skip) | (simp; done))))); all_goals (refine al_nil ?_; (simp only [go_sem, simprocAttr, hwi, hnk, hm8, h80, hi0]); refine hK _ ?_; clear hK K))
            refine awp_if (decide (((8 * j + k : Nat) : Int) < (o.text.size : Int))) rfl (fun hc => ?_) (fun hc => ?_)
            · obtain ⟨b, hb⟩ := get_byte (s := o.text) (i := 8 * j + k) (by simp at hc; omega)
              have hos : orStep o.text (8 * j) k w = bits .or .u64 w (IntKind.u64.wrap (IntKind.u64.wrap (b.toNat : Int) * 2 ^ min (8 * k) 64)) := by unfold orStep; rw [hb]
              rw [hos] at hw

              (refine awp_reg_end [0, 3, 7, 8, 9, 56] fun K hK => ?_; (repeat' ((refine al_r rfl fun K' hK' => ?_); (repeat (simp only [go_sem, simprocAttr, hwi, hnk, hm8, h80, hi0, hb, Int.toNat_natCast])); ((refine hK' _ _ ?_) <;> clear hK' K'))); all_goals (refine al_nil ?_; (simp only [go_sem, simprocAttr, hwi, hnk, hm8, h80, hi0, hb, Int.toNat_natCast]); refine hK _ ?_; clear hK K))
              refine hK _ ?_; clear hK K
              (refine awp_reg_end [0, 3, 7, 8, 9, 56] fun K hK => ?_; (repeat' ((refine al_r rfl fun K' hK' => ?_); (repeat (simp only [go_sem, simprocAttr, hwi, hnk, hm8, h80, hi0, hb, Int.toNat_natCast])); ((refine hK' _ _ ?_) <;> clear hK' K'))); all_goals (refine al_nil ?_; (simp only [go_sem, simprocAttr, hwi, hnk, hm8, h80, hi0, hb, Int.toNat_natCast]); refine hK _ ?_; clear hK K))
              refine ⟨_, ?_, k + 1, _, hk2, rfl, hw, rfl⟩
              omega
            · have hno : o.text[8 * j + k]? = none := getElem?_neg o.text (8 * j + k) (by simp at hc; omega)

              have hos : orStep o.text (8 * j) k w = w := by unfold orStep; rw [hno]
              rw [hos] at hw
              refine awp_skip ?_
              refine hK _ ?_; clear hK K
              (refine awp_reg_end [0, 3, 7, 8, 9, 56] fun K hK => ?_; (repeat' ((refine al_r rfl fun K' hK' => ?_); (repeat (simp only [go_sem, simprocAttr, hwi, hnk, hm8, h80, hi0])); ((refine hK' _ _ ?_) <;> clear hK' K'))); all_goals (refine al_nil ?_; (simp only [go_sem, simprocAttr, hwi, hnk, hm8, h80, hi0]); refine hK _ ?_; clear hK K))
              refine ⟨_, ?_, k + 1, _, hk2, rfl, hw, rfl⟩
              omega
          · have hk8 : k = 8 := by simp at hc; omega
            subst hk8
            have hw8 : w = wordAt o.text (8 * j) := hw
            have htV : List.take V.length (V.map wrow) = V.map wrow := List.take_of_length_le (by simp)
            have hfV : (V.length + 1) * 8 ≤ 140737488355328 := by omega
            have hn8 : IntKind.i64.wrap (((8 * j : Nat) : Int) + 8) = ((8 * (j + 1) : Nat) : Int) := by rw [Go.Ab.wrap_small (by omega) (by omega)]; omega

            refine awp_exit ?_
            clear hK
            refine hK _ ?_; clear hK K
            (refine awp_reg_end [0, 3, 7, 8] fun K hK => ?_; (repeat' ((refine al_r rfl fun K' hK' => ?_); (repeat (first | (simp only [go_sem, simprocAttr, List.length_map, htV, hfV, hn8, List.drop_zero]) | refine AAp.grow ?_)); ((first | refine hK' _ _ ?_ | refine ⟨?_, ?_, hK' _ _ ?_⟩) <;> clear hK' K' <;> (first | (show alist _ _ _ _ _ _; skip) | (simp; done))))); all_goals (refine al_nil ?_; (simp only [go_sem, simprocAttr, List.length_map, htV, hfV, hn8, List.drop_zero]); refine hK _ ?_; clear hK K))
            refine hK _ ?_; clear hK K
            (refine awp_reg_end [0, 3, 7, 8] fun K hK => ?_; (repeat' ((refine al_r rfl fun K' hK' => ?_); (repeat (simp only [go_sem, simprocAttr, List.length_map, htV, hfV, hn8, List.drop_zero])); ((refine hK' _ _ ?_) <;> clear hK' K'))); all_goals (refine al_nil ?_; (simp only [go_sem, simprocAttr, List.length_map, htV, hfV, hn8, List.drop_zero]); refine hK _ ?_; clear hK K))
            refine ⟨M - (j + 1), by omega, [0, 3, 7, 8], [2], by decide, by intro q hq; exact absurd hq (Nat.not_lt_zero q), j + 1, V ++ [w], by omega, rfl, by simp; omega, ?_, ?_⟩
            · rw [← hVt, htf, hw8]; simp
            · simp only [go_sem, simprocAttr, List.length_map, htV, hfV, hn8, List.drop_zero]

        · have hjM : j = M := by simp at hc; omega
          subst hjM
          have hV2 : V = W ++ textW o.text := by rw [← hVt, Nat.sub_self]; simp [textF]
          have htV : List.take V.length (V.map wrow) = V.map wrow := List.take_of_length_le (by simp)
          have htP : List.take o.parts.length (o.parts.map wrow) = o.parts.map wrow := List.take_of_length_le (by simp)
          have hfV : (V.length + o.parts.length) * 8 ≤ 140737488355328 := by omega
          have htA : List.take (V.length + o.parts.length) (V.map wrow ++ o.parts.map wrow) = (V ++ o.parts).map wrow := by
            rw [List.take_of_length_le (by simp), List.map_append]

          refine awp_exit ?_
          clear hK
          refine hK _ ?_; clear hK K
          (refine awp_reg_seq [4, 5, 6] fun K hK => ?_; (repeat' ((refine al_r rfl fun K' hK' => ?_); (repeat (first | (simp only [go_sem, simprocAttr, List.length_map, htV, htP, hfV, htA, List.drop_zero]) | refine AAp.grow ?_)); ((first | refine hK' _ _ ?_ | refine ⟨?_, hK' _ _ ?_⟩ | refine ⟨?_, ?_, hK' _ _ ?_⟩) <;> clear hK' K' <;> (first | (show alist _ _ _ _ _ _; skip) | (intro s hs; cases hs; done) | (simp; done))))); all_goals (refine al_nil ?_; (simp only [go_sem, simprocAttr, List.length_map, htV, htP, hfV, htA, List.drop_zero]); refine hK _ ?_; clear hK K))
          refine awp_ret (hR _ _ [1] (.inl rfl) rfl (by decide) (by simp only [List.length_cons, List.length_nil]; decide) ?_)
          rw [hRW, ← List.append_assoc, ← hV2]
          refine ⟨?_, ?_⟩ <;> simp only [go_sem, simprocAttr, List.length_map, htV, htP, hfV, htA, List.drop_zero, List.length_append, List.map_append]

      (refine awp_reg_tov [0, 3, 7, 42] [(42, bD (o.kind == 1 || o.kind == 4))] (h := ?_) (k := ?_); · ((repeat' (first | ((first | refine al_r rfl fun K' hK' => ?_ | refine al_t rfl rfl fun K' hK' => ?_); (repeat (simp only [go_sem, simprocAttr, List.length_map, List.drop_zero])); ((refine hK' _ _ ?_) <;> clear hK' K')) | refine al_e rfl rfl ?_ | ((fail_if_success (refine al_t rfl rfl fun K' hK' => ?_)); refine al_s _ rfl rfl rfl (fun hb => ?_) (fun hb => ?_)))); all_goals (refine al_nil ?_; simp only [go_sem, simprocAttr, List.length_map, List.drop_zero, *, Bool.and_true, Bool.and_false, Bool.true_and, Bool.false_and, Bool.or_true, Bool.true_or, Bool.or_false, Bool.false_or, Bool.not_true, Bool.not_false, Bool.false_eq_true]))); intro K hK; (simp only [go_sem, simprocAttr, List.length_map, List.drop_zero]); refine hK _ ?_; clear hK K
      refine awp_if (numK o.kind) rfl (fun hc => ?_) (fun hc => ?_)
      · have hRa : R0 = ((h ++ [headS o] ++ [IntKind.u64.wrap o.num]) ++ (textW o.text ++ o.parts), (h.length : Int), 0) := by rw [hv]; simp [encW, numW, hc]
        have htB : List.take (h.length + 1) (h.map wrow ++ [[.lit (.int .u64 (headS o))]]) = h.map wrow ++ [[.lit (.int .u64 (headS o))]] := List.take_of_length_le (by simp)
        have hfB : (h.length + 1 + 1) * 8 ≤ 140737488355328 := by omega

        (refine awp_reg_end [0, 3, 7] fun K hK => ?_; (repeat' ((refine al_r rfl fun K' hK' => ?_); (repeat (first | (simp only [go_sem, simprocAttr, List.length_map, htB, hfB, List.drop_zero]) | refine AAp.grow ?_)); ((first | refine hK' _ _ ?_ | refine ⟨?_, ?_, hK' _ _ ?_⟩) <;> clear hK' K' <;> (first | (show alist _ _ _ _ _ _; skip) | (simp; done))))); all_goals (refine al_nil ?_; (simp only [go_sem, simprocAttr, List.length_map, htB, hfB, List.drop_zero]); refine hK _ ?_; clear hK K))
        (first
          | (refine hcut _ [0, 3, 7] [4] (by decide) (by intro q hq; exact absurd hq (Nat.not_lt_zero q)) ?_; have hk := key (h ++ [headS o] ++ [IntKind.u64.wrap o.num]) (by simp; omega) hRa; simp only [List.length_append, List.length_cons, List.length_nil, List.map_append, List.map_cons, List.map_nil, Nat.zero_add] at hk; simp only [go_sem, simprocAttr, List.length_map, htB, hfB, List.drop_zero]; exact hk)
          | (refine hcut _ [0, 3, 7] [2] (by decide) (by intro q hq; exact absurd hq (Nat.not_lt_zero q)) ?_; have hk := key (h ++ [headS o]) (by simp; omega) hRb; simp only [List.length_append, List.length_cons, List.length_nil, List.map_append, List.map_cons, List.map_nil, Nat.zero_add] at hk; simp only [go_sem, simprocAttr, List.length_map, htB, hfB, List.drop_zero]; exact hk))
      · have hRb : R0 = ((h ++ [headS o]) ++ (textW o.text ++ o.parts), (h.length : Int), 0) := by rw [hv]; simp [encW, numW, hc]

        refine awp_skip ?_
        (first
          | (refine hcut _ [0, 3, 7] [4] (by decide) (by intro q hq; exact absurd hq (Nat.not_lt_zero q)) ?_; have hk := key (h ++ [headS o] ++ [IntKind.u64.wrap o.num]) (by simp; omega) hRa; simp only [List.length_append, List.length_cons, List.length_nil, List.map_append, List.map_cons, List.map_nil, Nat.zero_add] at hk; simp only [go_sem, simprocAttr, List.length_map, List.drop_zero]; exact hk)
          | (refine hcut _ [0, 3, 7] [2] (by decide) (by intro q hq; exact absurd hq (Nat.not_lt_zero q)) ?_; have hk := key (h ++ [headS o]) (by simp; omega) hRb; simp only [List.length_append, List.length_cons, List.length_nil, List.map_append, List.map_cons, List.map_nil, Nat.zero_add] at hk; simp only [go_sem, simprocAttr, List.length_map, List.drop_zero]; exact hk))
end Go.Proofs.Ytagphggcdmjlpaa.P

/- An object that was handed in is carried on under another number. No program is named here. -/
namespace Go.Ab

theorem Is.mv {M : En} {H0 : HV} {w0 : World} {nt : Nat} {st : St} {a : Act} {w : World} (h : Is M H0 w0 nt st a w) (ts : List Nat) {ids : List Nat} (hd : ids.Nodup)
    (hp : ∀ k, k < st.n0 → ids[k]? = some k ∨ ∃ j, ids[k]? = some j ∧ st.ob.length ≤ j) :
    Is M H0 w0 nt (st.cut ts ids) a w := by
  obtain ⟨H, loc, r⟩ := h
  refine ⟨H, fun k => loc (ids.getD k 0), r.sr.ren hd, fun t => ?_, r.sz, r.df, r.gr, fun k o ho hv hr => ?_, r.n0, fun k o ho => ?_⟩
  · have e : (st.cut ts ids).tm t = keepTm ts (fun t => D.map (ren1 ids) (st.tm t)) t := rfl
    rw [e]
    rcases keepTm_is ts (fun t => D.map (ren1 ids) (st.tm t)) t with h | h
    · rw [h]; exact (r.tm t).map (leafy_ren H loc st.ob ids)
    · rw [h]; exact .none _
  · obtain ⟨i, o', hi, rfl, hx⟩ := newObs_of ho
    rw [renOb_live] at hv
    have hl : loc (ids.getD k 0) = loc i := by simp [List.getD_eq_getElem?_getD, hi]
    have hr2 : (loc (ids.getD k 0)).r = true := hr
    show M.M (loc (ids.getD k 0)).b ∨ _ ≤ (loc (ids.getD k 0)).b
    rw [hl] at hr2 ⊢
    rcases hx with hx | rfl
    · exact r.own i o' hx hv hr2
    · cases hv
  · have hk : k < st.n0 := by
      rw [← r.n0]
      rcases Nat.lt_or_ge k M.ob.length with h' | h'
      · exact h'
      · simp [List.getElem?_eq_none h'] at ho
    rcases hp k hk with hk2 | ⟨j, hj, hjl⟩
    · have hl : loc (ids.getD k 0) = loc k := by simp [List.getD_eq_getElem?_getD, hk2]
      rcases r.ent k o ho with h1 | ⟨o', h1, h2, h3⟩
      · exact .inl (newObs_get hk2 h1)
      · refine .inr ⟨_, newObs_get hk2 h1, ?_, ?_⟩
        · cases o' <;> cases o <;> simp_all [Ob.sameShape, renOb, D.mapL_eq]
        · show loc (ids.getD k 0) = _
          rw [hl]; exact h3
    · refine .inl ?_
      show (newObs st.ob ids)[k]? = some .dead
      unfold newObs
      rw [List.getElem?_map, hj, Option.map_some, List.getD_eq_getElem?_getD, List.getElem?_eq_none hjl]
      rfl

theorem awp_mv {P : Program} {nt : Nat} {Q : Exit → St → Prop} {st : St} {c : Code} (ts ids : List Nat) (hd : ids.Nodup) (hp : ∀ k, k < st.n0 → ids[k]? = some k ∨ ∃ j, ids[k]? = some j ∧ st.ob.length ≤ j)
    (h : AWp P nt c Q (st.cut ts ids)) : AWp P nt c Q st :=
  fun M H0 w0 w a hi => h M H0 w0 w a (hi.mv ts hd hp)

theorem kept3 {ids : List Nat} {n b c : Nat} (h : ids = [0, n, 2, c]) (hb : b ≤ n) : ∀ k, k < 3 → ids[k]? = some k ∨ ∃ j, ids[k]? = some j ∧ b ≤ j := by
  subst h
  intro k hk
  match k with
  | 0 => exact .inl rfl
  | 1 => exact .inr ⟨n, rfl, hb⟩
  | 2 => exact .inl rfl
section
variable {P : Program} {f : FuncId} {caps args : List D} {st : St} {K : D → St → Prop}

/-- A call to which the caller's rows are lent as data; it hands back new objects. -/
theorem acall_gn {args' : List D} {r : D} {obs2 : List Ob} (hc : ∀ args w, (callFunc f args).run P w = .ok (.enter f args) w) (h : ACalls P f args' [] (fun r' obs' => r' = r ∧ obs' = obs2)) (e : (args ++ caps).map (D.map (give [] st.ob)) = args')
    (hf : D.all flatL r) (hfo : ∀ o, o ∈ obs2 → flatOb o) (k : K (D.map (back [] st.ob.length) r) ⟨st.tm, st.ob ++ obs2.map (renOb (back [] st.ob.length)), st.n0⟩) : AC P st (.fn f caps) args K := by
  subst e
  refine .mk ⟨hc, [], _, List.nodup_nil, fun i hi => (by cases hi), .inr ⟨h, ?_⟩⟩
  rintro r' obs' ⟨rfl, rfl⟩
  refine ⟨Nat.zero_le _, hf, hfo, ?_⟩
  simpa [merge, setAll] using k
end

theorem kept012 {l : List Nat} : ∀ k, k < 3 → (0 :: 1 :: 2 :: l)[k]? = some k := by
  intro k hk
  match k with
  | 0 => rfl
  | 1 => rfl
  | 2 => rfl
end Go.Ab

/- The object at a place of a heap that is the caller's own row: the walk. -/
namespace Go.Proofs.Ytagphggcdmjlpaa.P
open Go.Ab Go.Proofs.Ytagphggcdmjlpaa.T


theorem atO_ (h : List Int) (a : Int) (hlen : h.length ≤ maxLen) (hok : ∀ w, w ∈ h → WordOk w) : ACalls Try.prog 19 [.ref 0 0 h.length, iD a] [.row 1 (h.map wrow)] (fun r obs' => r = .tup [objD (atS h a).1, iD (atS h a).2] ∧ obs' = [.row 1 (h.map wrow)]) := by
  obtain ⟨R0, hR0⟩ : ∃ R0, R0 = atS h a := ⟨_, rfl⟩
  have hv : R0 = if decide (a < 0) || decide (a ≥ h.length) then (z0, 4) else
    match h[a.toNat]? with
    | none => (z0, 0)
    | some w => if (w.fdiv (2 ^ min 32 64) != 0) || decide ((roomN (kN w) (tN w).toNat (pN w).toNat : Int) > h.length - a) then (z0, 3) else atR h a.toNat (kN w) (tN w).toNat (pN w).toNat := hR0
  rw [← hR0]
  clear hR0
  refine acallm_fnv [.cell 4 30, .tmp 5] Try.func19 rfl rfl Try.ntmps19 (by simp) (by simp) fun R hR => ?_
  (refine awp_reg_seq [0, 1, 4] fun K hK => ?_; (repeat' ((refine al_r rfl fun K' hK' => ?_); (repeat (simp only [go_sem, simprocAttr, List.length_map])); ((refine hK' _ _ ?_) <;> clear hK' K'))); all_goals (refine al_nil ?_; (simp only [go_sem, simprocAttr, List.length_map]); refine hK _ ?_; clear hK K))
  refine awp_seq_k fun K hK => ?_
  (refine awp_reg_tov [0, 1, 4, 23] [(23, bD (decide (a < 0) || decide (a ≥ (h.length : Int))))] (h := ?_) (k := ?_); · ((repeat' (first | ((first | refine al_r rfl fun K' hK' => ?_ | refine al_t rfl rfl fun K' hK' => ?_); (repeat (simp only [go_sem, simprocAttr, List.length_map])); ((first | refine hK' _ _ ?_ | refine ⟨?_, hK' _ _ ?_⟩) <;> clear hK' K' <;> (first | (show alist _ _ _ _ _ _; skip) | (intro s hs; cases hs; done)))) | refine al_e rfl rfl ?_ | ((fail_if_success (refine al_t rfl rfl fun K' hK' => ?_)); refine al_s _ rfl rfl rfl (fun hb => ?_) (fun hb => ?_)))); all_goals (refine al_nil ?_; simp only [go_sem, simprocAttr, List.length_map, *, Bool.and_true, Bool.and_false, Bool.true_and, Bool.false_and, Bool.or_true, Bool.true_or, Bool.or_false, Bool.false_or, Bool.not_true, Bool.not_false, Bool.false_eq_true]))); intro K hK; (simp only [go_sem, simprocAttr, List.length_map]); refine hK _ ?_; clear hK K
  refine awp_if (_) rfl (fun hc => ?_) (fun hc => ?_)
  · (refine awp_reg_seq [4, 5] fun K hK => ?_; (repeat' ((first | refine al_r rfl fun K' hK' => ?_ | refine al_d rfl fun K' hK' => ?_); (repeat (first | (simp only [go_sem, simprocAttr, List.length_map]) | refine AS.mk ?_)); ((first | refine hK' _ _ ?_ | refine ⟨?_, hK' _ _ ?_⟩) <;> clear hK' K' <;> (first | (show alist _ _ _ _ _ _; skip) | (simp; done))))); all_goals (refine al_nil ?_; (simp only [go_sem, simprocAttr, List.length_map]); refine hK _ ?_; clear hK K))
    rw [if_pos hc] at hv
    (refine awp_frz [4, 5] [0] (by decide) (by (simp; done)) ?_; simp only [go_sem, simprocAttr, List.length_map])
    refine awp_ret (hR _ _ (.inl rfl) rfl ⟨[0], (.tup [objD R0.1, iD R0.2]), by decide, by simp only [List.length_cons, List.length_nil]; decide, ?_, ?_⟩)
    · rw [hv]
      simp only [go_sem, simprocAttr, List.length_map, objD, List.map_nil]
      try rfl
    · refine ⟨?_, ?_⟩ <;> simp only [go_sem, simprocAttr, List.length_map, objD]
  · rw [if_neg (by rw [hc]; simp)] at hv
    have hc0 := hc
    simp only [Bool.or_eq_false_iff, decide_eq_false_iff_not] at hc0
    obtain ⟨n, rfl⟩ := Int.eq_ofNat_of_zero_le (show 0 ≤ a by omega)
    have hnl : n < h.length := by omega
    obtain ⟨w, hw⟩ := get_of_lt hnl
    rw [Int.toNat_natCast, hw] at hv
    simp only at hv
    have hn0 : (0 : Int) ≤ (n : Int) := Int.natCast_nonneg n
    have hwok := hok w (List.mem_of_getElem? hw)
    obtain ⟨t, ht, ht4⟩ := tN_ok hwok
    obtain ⟨p, hp, hp4⟩ := pN_ok hwok
    have hkN : IntKind.i64.wrap (bits .and .u64 w 255) = kN w := rfl
    have htN : IntKind.i64.wrap (bits .and .u64 (w.fdiv (2 ^ min 8 64)) 4095) = (t : Int) := ht
    have hpN : IntKind.i64.wrap (bits .and .u64 (w.fdiv (2 ^ min 20 64)) 4095) = (p : Int) := hp
    rw [ht, hp, Int.toNat_natCast, Int.toNat_natCast] at hv
    generalize kN w = k at *
    have hro := room k t p (by omega) (by omega)
    have hwr : IntKind.i64.wrap ((h.length : Int) - (n : Int)) = (h.length : Int) - (n : Int) := by
      simp [maxLen] at hlen
      rw [Go.Ab.wrap_small (by omega) (by omega)]

    refine awp_skip ?_
    refine hK _ ?_; clear hK K
    (refine awp_reg_seq [0, 1, 4, 6] fun K hK => ?_; (repeat' ((refine al_r rfl fun K' hK' => ?_); (repeat (simp only [go_sem, simprocAttr, List.length_map, hw, hnl, hn0, hkN, htN, hpN, hwr, Int.toNat_natCast, List.getElem?_map, Option.map_some])); ((first | refine hK' _ _ ?_ | refine ⟨?_, hK' _ _ ?_⟩) <;> clear hK' K' <;> (first | (show alist _ _ _ _ _ _; skip) | omega)))); all_goals (refine al_nil ?_; (simp only [go_sem, simprocAttr, List.length_map, hw, hnl, hn0, hkN, htN, hpN, hwr, Int.toNat_natCast, List.getElem?_map, Option.map_some]); refine hK _ ?_; clear hK K))
    (refine awp_reg_seq [0, 1, 4, 6, 7, 8, 9] fun K hK => ?_; (repeat' ((refine al_r rfl fun K' hK' => ?_); (repeat (simp only [go_sem, simprocAttr, List.length_map, hw, hnl, hn0, hkN, htN, hpN, hwr, Int.toNat_natCast, List.getElem?_map, Option.map_some])); ((refine hK' _ _ ?_) <;> clear hK' K'))); all_goals (refine al_nil ?_; (simp only [go_sem, simprocAttr, List.length_map, hw, hnl, hn0, hkN, htN, hpN, hwr, Int.toNat_natCast, List.getElem?_map, Option.map_some]); refine hK _ ?_; clear hK K))
    refine awp_seq_k fun K hK => ?_
    (refine awp_reg_tov [0, 1, 4, 7, 8, 9, 53] [(53, bD ((w.fdiv (2 ^ min 32 64) != 0) || decide ((roomN k t p : Int) > (h.length : Int) - (n : Int))))] (h := ?_) (k := ?_); · ((repeat' (first | ((first | refine al_r rfl fun K' hK' => ?_ | refine al_t rfl rfl fun K' hK' => ?_); (repeat (simp only [go_sem, simprocAttr, List.length_map, hw, hnl, hn0, hkN, htN, hpN, hwr, Int.toNat_natCast, List.getElem?_map, Option.map_some])); (first | ((first | refine hK' _ _ ?_ | refine ⟨?_, hK' _ _ ?_⟩) <;> clear hK' K' <;> (first | (show alist _ _ _ _ _ _; skip) | (intro s hs; cases hs; done))) | ((show AC _ _ (D.fn 51 _) _ _); refine acall_p (f := 51) (e := rfl) (hr := rfl) (k := hK' _ _ ?_) (hc := Try.call51) (h := hro); clear hK' K'))) | refine al_e rfl rfl ?_ | ((fail_if_success (refine al_t rfl rfl fun K' hK' => ?_)); refine al_s _ rfl rfl rfl (fun hb => ?_) (fun hb => ?_)))); all_goals (refine al_nil ?_; simp only [go_sem, simprocAttr, List.length_map, hw, hnl, hn0, hkN, htN, hpN, hwr, Int.toNat_natCast, List.getElem?_map, Option.map_some, *, Bool.and_true, Bool.and_false, Bool.true_and, Bool.false_and, Bool.or_true, Bool.true_or, Bool.or_false, Bool.false_or, Bool.not_true, Bool.not_false, Bool.false_eq_true]))); intro K hK; (simp only [go_sem, simprocAttr, List.length_map, hw, hnl, hn0, hkN, htN, hpN, hwr, Int.toNat_natCast, List.getElem?_map, Option.map_some]); refine hK _ ?_; clear hK K
    refine awp_if (_) rfl (fun hc => ?_) (fun hc => ?_)
    · (refine awp_reg_seq [4, 5] fun K hK => ?_; (repeat' ((first | refine al_r rfl fun K' hK' => ?_ | refine al_d rfl fun K' hK' => ?_); (repeat (first | (simp only [go_sem, simprocAttr, List.length_map, hw, hnl, hn0, hkN, htN, hpN, hwr, Int.toNat_natCast, List.getElem?_map, Option.map_some]) | refine AS.mk ?_)); ((first | refine hK' _ _ ?_ | refine ⟨?_, hK' _ _ ?_⟩) <;> clear hK' K' <;> (first | (show alist _ _ _ _ _ _; skip) | (simp; done))))); all_goals (refine al_nil ?_; (simp only [go_sem, simprocAttr, List.length_map, hw, hnl, hn0, hkN, htN, hpN, hwr, Int.toNat_natCast, List.getElem?_map, Option.map_some]); refine hK _ ?_; clear hK K))
      rw [if_pos hc] at hv
      (refine awp_frz [4, 5] [0] (by decide) (by (simp; done)) ?_; simp only [go_sem, simprocAttr, List.length_map, hw, hnl, hn0, hkN, htN, hpN, hwr, Int.toNat_natCast, List.getElem?_map, Option.map_some])
      refine awp_ret (hR _ _ (.inl rfl) rfl ⟨[0], (.tup [objD R0.1, iD R0.2]), by decide, by simp only [List.length_cons, List.length_nil]; decide, ?_, ?_⟩)
      · rw [hv]
        simp only [go_sem, simprocAttr, List.length_map, hw, hnl, hn0, hkN, htN, hpN, hwr, Int.toNat_natCast, List.getElem?_map, Option.map_some, objD, List.map_nil]
        try rfl
      · refine ⟨?_, ?_⟩ <;> simp only [go_sem, simprocAttr, List.length_map, hw, hnl, hn0, hkN, htN, hpN, hwr, Int.toNat_natCast, List.getElem?_map, Option.map_some, objD]
    · rw [if_neg (by rw [hc]; simp)] at hv
      have hroom : n + roomN k t p ≤ h.length := by
        simp only [Bool.or_eq_false_iff, decide_eq_false_iff_not] at hc
        omega
      clear hro
      have hn1 : IntKind.i64.wrap ((n : Int) + 1) = ((n + 1 : Nat) : Int) := by
        simp [maxLen] at hlen
        rw [Go.Ab.wrap_small (by omega) (by omega)]; rfl

      refine awp_skip ?_
      refine hK _ ?_; clear hK K
      (refine awp_reg_seq [0, 1, 4, 7, 8, 9, 10] fun K hK => ?_; (repeat' ((first | refine al_r rfl fun K' hK' => ?_ | refine al_d rfl fun K' hK' => ?_); (repeat (first | (simp only [go_sem, simprocAttr, List.length_map, hn1]) | refine AS.mk ?_)); ((first | refine hK' _ _ ?_ | refine ⟨?_, hK' _ _ ?_⟩) <;> clear hK' K' <;> (first | (show alist _ _ _ _ _ _; skip) | (simp; done))))); all_goals (refine al_nil ?_; (simp only [go_sem, simprocAttr, List.length_map, hn1]); refine hK _ ?_; clear hK K))
      (refine awp_reg_seq [0, 1, 4, 7, 8, 9, 10] fun K hK => ?_; (repeat' ((refine al_r rfl fun K' hK' => ?_); (repeat (simp only [go_sem, simprocAttr, List.length_map, hn1])); ((refine hK' _ _ ?_) <;> clear hK' K'))); all_goals (refine al_nil ?_; (simp only [go_sem, simprocAttr, List.length_map, hn1]); refine hK _ ?_; clear hK K))
      refine awp_seq_kc fun K hK hcut => ?_
      have key : ∀ (a1 : Nat) (num : Int), n < a1 → a1 + (t + 7) / 8 + p ≤ h.length → R0 = atO h n (objO h n k num t p a1) (a1 + (t + 7) / 8 + p - n) → K ⟨ofL [(0, .ref 0 0 h.length), (1, iD a1), (4, .ptr 1 0 0), (8, iD t), (9, iD p), (10, .ptr 2 0 0)], [.row 1 (h.map wrow), .box [iD 0, iD 0, iD 0, .p (.lit (.string ByteArray.empty)), .nil], .box [iD n, iD k, iD num, .p (.lit (.string ByteArray.empty)), .nil]], 1⟩ := by
        clear hcut
        intro a1 num ha1 hfit hR1
        clear hv
        simp [maxLen] at hlen
        refine hK _ ?_; clear hK K
        (refine awp_reg_seq [0, 1, 4, 8, 9, 10, 11] fun K hK => ?_; (repeat' ((refine al_r rfl fun K' hK' => ?_); (repeat (simp only [go_sem, simprocAttr, List.length_map, hn1])); ((refine hK' _ _ ?_) <;> clear hK' K'))); all_goals (refine al_nil ?_; (simp only [go_sem, simprocAttr, List.length_map, hn1]); refine hK _ ?_; clear hK K))
        refine awp_born 11 1 rfl ?_
        refine awp_seq_k fun K hK => ?_
        (refine awp_reg_seq [0, 1, 4, 8, 9, 10, 11, 74, 75] fun K hK => ?_; (repeat' ((refine al_r rfl fun K' hK' => ?_); (repeat (simp only [go_sem, simprocAttr, List.length_map, hn1])); ((refine hK' _ _ ?_) <;> clear hK' K'))); all_goals (refine al_nil ?_; (simp only [go_sem, simprocAttr, List.length_map, hn1]); refine hK _ ?_; clear hK K))
        refine awp_block ?_
        -- loop 0 head [0, 1, 4, 8, 9, 10, 11, 74, 75]
        refine awp_loop_cut (fun m s => ∃ i : Nat, i ≤ t ∧ m = t - i ∧ s = ⟨ofL [(0, .ref 0 0 h.length), (1, iD a1), (4, .ptr 1 0 0), (8, iD t), (9, iD p), (10, .ptr 2 0 0), (11, .ref 3 0 i), (74, iD t), (75, iD i)], [.row 1 (h.map wrow), .box [iD 0, iD 0, iD 0, .p (.lit (.string ByteArray.empty)), .nil], .box [iD n, iD k, iD num, .p (.lit (.string ByteArray.empty)), .nil], .row 1 ((bytesN h a1 i).map brow)], 1⟩) ⟨_, 0, Nat.zero_le _, rfl, rfl⟩ ?_
        rintro m s ⟨i, hi, hmi, rfl⟩
        (refine awp_reg_seq [0, 1, 4, 8, 9, 10, 11, 74, 75, 76] fun K hK => ?_; (repeat' ((refine al_r rfl fun K' hK' => ?_); (repeat (simp only [go_sem, simprocAttr, List.length_map, hn1])); ((refine hK' _ _ ?_) <;> clear hK' K'))); all_goals (refine al_nil ?_; (simp only [go_sem, simprocAttr, List.length_map, hn1]); refine hK _ ?_; clear hK K))
        refine awp_seq_k fun K hK => ?_
        refine awp_if (decide ((i : Int) < (t : Int))) rfl (fun hc => ?_) (fun hc => ?_)
        · refine awp_skip ?_
          refine hK _ ?_; clear hK K
          refine awp_seq_k fun K hK => ?_
          refine awp_block ?_
          have hi2 : i < t := by simpa using hc
          obtain ⟨u, hget⟩ := get_of_lt (l := h) (i := a1 + i / 8) (by omega)
          have hgl := lt_of_get hget
          have hg0 : (0 : Int) ≤ ((a1 + i / 8 : Nat) : Int) := Int.natCast_nonneg _
          have hix : IntKind.i64.wrap ((i : Int) + 1) = ((i + 1 : Nat) : Int) := by rw [Go.Ab.wrap_small (by omega) (by omega)]; rfl
          have hq8 : IntKind.i64.wrap ((i : Int).tdiv 8) = ((i / 8 : Nat) : Int) := by
            rw [Int.tdiv_eq_ediv_of_nonneg (by omega), Go.Ab.wrap_small (by omega) (by omega)]; omega
          have hqa : IntKind.i64.wrap ((a1 : Int) + ((i / 8 : Nat) : Int)) = ((a1 + i / 8 : Nat) : Int) := by rw [Go.Ab.wrap_small (by omega) (by omega)]; rfl
          have hrm : (i : Int).tmod 8 = ((i % 8 : Nat) : Int) := by rw [Int.tmod_eq_emod_of_nonneg (by omega)]; omega
          have hm8 : IntKind.i64.wrap (8 * ((i % 8 : Nat) : Int)) = ((8 * (i % 8) : Nat) : Int) := by rw [Go.Ab.wrap_small (by omega) (by omega)]; omega
          have h80 : (0 : Int) ≤ ((8 * (i % 8) : Nat) : Int) := Int.natCast_nonneg _
          have hby : IntKind.u8.wrap (u.fdiv (2 ^ min (8 * (i % 8)) 64)) = byteN h a1 i := by unfold byteN; simp [List.getD, hget]
          have hti : List.take i ((bytesN h a1 i).map brow) = (bytesN h a1 i).map brow := List.take_of_length_le (by simp [bytesN])
          have hbl : (bytesN h a1 i).length = i := by simp [bytesN]
          have hfi : (i + 1) * 1 ≤ 140737488355328 := by omega

          (refine awp_reg_seq [0, 1, 4, 8, 9, 10, 11, 12, 74, 75] fun K hK => ?_; (repeat' ((refine al_r rfl fun K' hK' => ?_); (repeat (simp only [go_sem, simprocAttr, hget, hgl, hg0, hix, hq8, hqa, hrm, hm8, h80, hby, hti, hbl, hfi, Int.toNat_natCast, List.getElem?_map, Option.map_some, List.length_map, List.drop_zero, Nat.mul_one])); ((refine hK' _ _ ?_) <;> clear hK' K'))); all_goals (refine al_nil ?_; (simp only [go_sem, simprocAttr, hget, hgl, hg0, hix, hq8, hqa, hrm, hm8, h80, hby, hti, hbl, hfi, Int.toNat_natCast, List.getElem?_map, Option.map_some, List.length_map, List.drop_zero, Nat.mul_one]); refine hK _ ?_; clear hK K))
          (refine awp_reg_end [0, 1, 4, 8, 9, 10, 11, 74, 75] fun K hK => ?_; (repeat' ((refine al_r rfl fun K' hK' => ?_); (repeat (first | (simp only [go_sem, simprocAttr, hget, hgl, hg0, hix, hq8, hqa, hrm, hm8, h80, hby, hti, hbl, hfi, Int.toNat_natCast, List.getElem?_map, Option.map_some, List.length_map, List.drop_zero, Nat.mul_one]) | refine AAp.grow ?_)); ((first | refine hK' _ _ ?_ | refine ⟨?_, hK' _ _ ?_⟩ | refine ⟨?_, ?_, ?_, hK' _ _ ?_⟩) <;> clear hK' K' <;> (first | (show alist _ _ _ _ _ _; skip) | (simp; done) | omega)))); all_goals (refine al_nil ?_; (simp only [go_sem, simprocAttr, hget, hgl, hg0, hix, hq8, hqa, hrm, hm8, h80, hby, hti, hbl, hfi, Int.toNat_natCast, List.getElem?_map, Option.map_some, List.length_map, List.drop_zero, Nat.mul_one]); refine hK _ ?_; clear hK K))
          refine hK _ ?_; clear hK K
          (refine awp_reg_end [0, 1, 4, 8, 9, 10, 11, 74, 75] fun K hK => ?_; (repeat' ((refine al_r rfl fun K' hK' => ?_); (repeat (simp only [go_sem, simprocAttr, hget, hgl, hg0, hix, hq8, hqa, hrm, hm8, h80, hby, hti, hbl, hfi, Int.toNat_natCast, List.getElem?_map, Option.map_some, List.length_map, List.drop_zero, Nat.mul_one])); ((refine hK' _ _ ?_) <;> clear hK' K'))); all_goals (refine al_nil ?_; (simp only [go_sem, simprocAttr, hget, hgl, hg0, hix, hq8, hqa, hrm, hm8, h80, hby, hti, hbl, hfi, Int.toNat_natCast, List.getElem?_map, Option.map_some, List.length_map, List.drop_zero, Nat.mul_one]); refine hK _ ?_; clear hK K))
          refine ⟨t - (i + 1), by omega, [0, 1, 4, 8, 9, 10, 11, 74, 75], [0, 1, 2, 5], by decide, (by intro q hq; have : q = 0 := Nat.lt_one_iff.1 hq; subst this; rfl), i + 1, hi2, rfl, ?_⟩
          rw [bytesN_succ, List.map_append]
          simp only [go_sem, simprocAttr, hget, hgl, hg0, hix, hq8, hqa, hrm, hm8, h80, hby, hti, hbl, hfi, Int.toNat_natCast, List.getElem?_map, Option.map_some, List.length_map, List.drop_zero, Nat.mul_one]
        · have hit : t = i := by simp at hc; omega
          subst hit
          have htB : List.take t ((bytesN h a1 t).map brow) = (bytesN h a1 t).map brow := List.take_of_length_le (by simp [bytesN])
          have hbb : ((bytesN h a1 t).map brow).mapM oneB = some (bytesN h a1 t) := bytes_map _
          have h7a : IntKind.i64.wrap ((t : Int) + 7) = ((t + 7 : Nat) : Int) := by rw [Go.Ab.wrap_small (by omega) (by omega)]; rfl
          have h7b : IntKind.i64.wrap (((t + 7 : Nat) : Int).tdiv 8) = (((t + 7) / 8 : Nat) : Int) := by
            rw [Int.tdiv_eq_ediv_of_nonneg (by omega), Go.Ab.wrap_small (by omega) (by omega)]; omega
          have h7c : IntKind.i64.wrap ((a1 : Int) + (((t + 7) / 8 : Nat) : Int)) = ((a1 + (t + 7) / 8 : Nat) : Int) := by rw [Go.Ab.wrap_small (by omega) (by omega)]; rfl
          generalize hA2 : a1 + (t + 7) / 8 = a2 at *
          have hAp : IntKind.i64.wrap ((a2 : Int) + (p : Int)) = ((a2 + p : Nat) : Int) := by rw [Go.Ab.wrap_small (by omega) (by omega)]; rfl
          have ha0 : (0 : Int) ≤ (a2 : Int) := Int.natCast_nonneg _
          have ha01 : (0 : Int) ≤ ((a2 + p : Nat) : Int) := Int.natCast_nonneg _
          have ha3 : ((a2 + p : Nat) : Int) ≤ (h.length : Int) := by omega
          have ha4 : (a2 : Int) ≤ ((a2 + p : Nat) : Int) := by omega
          have hrw := wrow1 h
          obtain ⟨P, hP⟩ : ∃ P, P = (h.drop a2).take p := ⟨_, rfl⟩
          have hPl : P.length = p := by rw [hP]; exact cut_len h (by omega)
          have hPw := wrow1 P
          have hdt : List.drop a2 (List.take (a2 + p) (h.map wrow)) = P.map wrow := by rw [hP, List.drop_take, Nat.add_sub_cancel_left, List.map_take, List.map_drop]
          have hdt2 : List.take p (List.drop a2 (h.map wrow)) = P.map wrow := by rw [← hdt, List.drop_take, Nat.add_sub_cancel_left]
          have hdt3 : a2 + p - a2 = p := by omega
          have hPt : List.take p (P.map wrow) = P.map wrow := List.take_of_length_le (by simp [hPl])
          have hPf : p * 8 ≤ 140737488355328 := by omega

          refine awp_exit ?_
          clear hK
          refine hK _ ?_; clear hK K
          (refine awp_reg_seq [0, 1, 4, 9, 10] fun K hK => ?_; (repeat' ((first | refine al_r rfl fun K' hK' => ?_ | refine al_d rfl fun K' hK' => ?_); (repeat (first | (simp only [go_sem, simprocAttr, List.length_map, htB, hbb, h7a, h7b, h7c, List.drop_zero]) | refine AS.mk ?_)); ((first | refine hK' _ _ ?_ | refine ⟨?_, hK' _ _ ?_⟩) <;> clear hK' K' <;> (first | (show alist _ _ _ _ _ _; skip) | (simp; done))))); all_goals (refine al_nil ?_; (simp only [go_sem, simprocAttr, List.length_map, htB, hbb, h7a, h7b, h7c, List.drop_zero]); refine hK _ ?_; clear hK K))
          (refine awp_frz [0, 1, 4, 9, 10] [0, 1, 2] (by decide) (by (simp; done)) ?_; simp only [go_sem, simprocAttr, List.length_map, htB, hbb, h7a, h7b, h7c, List.drop_zero])
          refine awp_born_box 2 4 1 rfl rfl ?_
          simp only [go_sem, simprocAttr, List.length_map, htB, hbb, h7a, h7b, h7c, List.drop_zero]

          refine awp_draw_seq (by kernel_rfl) [0, 1, 4, 9, 10] fun K hK => ?_
          have key : K (⟨ofL [(0, .ref 0 0 h.length), (1, iD a2), (4, .ptr 1 0 0), (9, iD p), (10, .ptr 2 0 0)], [.row 1 (h.map wrow), .box [iD 0, iD 0, iD 0, .p (.lit (.string ByteArray.empty)), .nil], .box [iD n, iD k, iD num, .p (.lit (.string (pushB (bytesN h a1 t)))), .ref 4 0 p], .dead, .row 1 (P.map wrow)], 1⟩) := by
            refine hK _ ?_; clear hK K
            (refine awp_frz [0, 1, 4, 9, 10] [0, 1] (by decide) (by (simp; done)) ?_; simp only [go_sem, simprocAttr, List.length_map, hdt2, hdt3, hdt, hPl, hPt, hPf, hAp, Nat.zero_add, ha0, ha01, ha3, ha4, Int.toNat_natCast, List.take_nil, List.take_zero, List.nil_append])
            obtain ⟨o, ho⟩ : ∃ o : Obj, o = ⟨n, k, num, pushB (bytesN h a1 t), P⟩ := ⟨_, rfl⟩
            have hoo : objO h n k num t p a1 = o := by unfold objO; rw [ho, hA2, hP]
            have hpu0 : ACallP Try.prog 17 [.nil, objD o] _ := ACallP.soft (put [] o (by simp)) rfl
            have hR2 : R0 = if ((putS [] o).2.2 != 0) || !(listEq eqI (putS [] o).1 ((h.drop n).take (a2 + p - n))) then (z0, 3) else (o, 0) := by rw [hR1, hoo]; rfl
            have hxl := put_len [] o (by simp)
            have heq := equalW (putS [] o).1 ((h.drop n).take (a2 + p - n)) (by simp at hxl; simp [maxLen]; omega)
            generalize putS [] o = X at hpu0 hR2 heq
            obtain ⟨x, y, e⟩ := X
            simp only at hpu0 hR2 heq
            generalize listEq eqI x ((h.drop n).take (a2 + p - n)) = le at heq hR2
            have hdn : List.drop n (List.take (a2 + p) (h.map wrow)) = ((h.drop n).take (a2 + p - n)).map wrow := by rw [List.drop_take, List.map_take, List.map_drop]
            have heq2 : ACallP Try.prog 18 [words x, .p (.sl (List.take (a2 + p - n) (List.drop n (h.map wrow))))] (bD le) := by rw [← List.map_drop, ← List.map_take]; exact heq
            have hnle : (n : Int) ≤ ((a2 + p : Nat) : Int) := by omega
            have hov : o.at_ = n ∧ o.kind = k ∧ o.num = num ∧ o.text = pushB (bytesN h a1 t) ∧ o.parts = P := by rw [ho]; exact ⟨rfl, rfl, rfl, rfl, rfl⟩
            obtain ⟨v1, v2, v3, v4, v5⟩ := hov
            clear ho hoo hR1
            rw [← v1, ← v2, ← v3, ← v4, ← v5]
            refine awp_seq_k fun K hK => ?_

            (refine awp_reg_seq [0, 1, 4, 9, 10, 13, 15] fun K hK => ?_; (repeat' ((refine al_r rfl fun K' hK' => ?_); (repeat (simp only [go_sem, simprocAttr, List.length_map])); (first | ((refine hK' _ _ ?_) <;> clear hK' K') | ((show AC _ _ (D.fn 17 _) _ _); refine acall_p (f := 17) (e := rfl) (hr := rfl) (k := hK' _ _ ?_) (hc := Try.call17) (h := hpu0); clear hK' K')))); all_goals (refine al_nil ?_; (simp only [go_sem, simprocAttr, List.length_map]); refine hK _ ?_; clear hK K))

            refine awp_reg_tov [4, 10, 131] [(131, bD ((e != 0) || !le))] (h := ?_) (k := ?_)
            · obtain ⟨en, hen⟩ : ∃ en, (e != 0) = en := ⟨_, rfl⟩
              cases en <;> cases le

              all_goals ((repeat' (first | ((first | refine al_r rfl fun K' hK' => ?_ | refine al_t rfl rfl fun K' hK' => ?_); (repeat (simp only [go_sem, simprocAttr, List.length_map, v1, hdn, hn0, hnle, hAp, ha01, ha3, Int.toNat_natCast, hen])); (first | ((first | refine hK' _ _ ?_ | refine ⟨?_, ?_, hK' _ _ ?_⟩) <;> clear hK' K' <;> (first | (show alist _ _ _ _ _ _; skip) | assumption | omega)) | ((show AC _ _ (D.fn 18 _) _ _); refine acall_g (f := 18) (e := rfl) (hr := rfl) (hf := by simp [D.all, D.allL, flatL, flatPV]) (k := hK' _ _ ?_) (hc := Try.call18) (h := heq2); clear hK' K'))) | refine al_e rfl rfl ?_)); all_goals (refine al_nil ?_; (simp only [go_sem, simprocAttr, List.length_map, v1, hdn, hn0, hnle, hAp, ha01, ha3, Int.toNat_natCast, hen, *, Bool.and_true, Bool.and_false, Bool.true_and, Bool.false_and, Bool.or_true, Bool.true_or, Bool.or_false, Bool.false_or, Bool.not_true, Bool.not_false, Bool.false_eq_true]; done)))

            (intro K hK; (simp only [go_sem, simprocAttr, List.length_map, v1]); refine hK _ ?_; clear hK K)
            refine awp_if (_) rfl (fun hc => ?_) (fun hc => ?_)
            · (refine awp_reg_seq [4, 5] fun K hK => ?_; (repeat' ((first | refine al_r rfl fun K' hK' => ?_ | refine al_d rfl fun K' hK' => ?_); (repeat (first | (simp only [go_sem, simprocAttr, List.length_map, v1]) | refine AS.mk ?_)); ((first | refine hK' _ _ ?_ | refine ⟨?_, hK' _ _ ?_⟩) <;> clear hK' K' <;> (first | (show alist _ _ _ _ _ _; skip) | (simp; done))))); all_goals (refine al_nil ?_; (simp only [go_sem, simprocAttr, List.length_map, v1]); refine hK _ ?_; clear hK K))
              rw [if_pos hc] at hR2
              (refine awp_frz [4, 5] [0] (by decide) (by (simp; done)) ?_; simp only [go_sem, simprocAttr, List.length_map, v1])
              refine awp_ret (hR _ _ (.inl rfl) rfl ⟨[0], (.tup [objD R0.1, iD R0.2]), by decide, by simp only [List.length_cons, List.length_nil]; decide, ?_, ?_⟩)
              · rw [hR2]
                simp only [go_sem, simprocAttr, List.length_map, v1, objD, List.map_nil]
                try rfl
              · refine ⟨?_, ?_⟩ <;> simp only [go_sem, simprocAttr, List.length_map, v1, objD]
            · rw [if_neg (by rw [hc]; simp)] at hR2
              refine awp_skip ?_
              refine hK _ ?_; clear hK K
              (refine awp_reg_seq [4, 5] fun K hK => ?_; (repeat' ((first | refine al_r rfl fun K' hK' => ?_ | refine al_d rfl fun K' hK' => ?_); (repeat (first | (simp only [go_sem, simprocAttr, List.length_map, v1]) | refine AS.mk ?_)); ((first | refine hK' _ _ ?_ | refine ⟨?_, hK' _ _ ?_⟩) <;> clear hK' K' <;> (first | (show alist _ _ _ _ _ _; skip) | (simp; done))))); all_goals (refine al_nil ?_; (simp only [go_sem, simprocAttr, List.length_map, v1]); refine hK _ ?_; clear hK K))
              (refine awp_frz [4, 5] [0] (by decide) (by (simp; done)) ?_; simp only [go_sem, simprocAttr, List.length_map, v1])
              refine awp_ret (hR _ _ (.inl rfl) rfl ⟨[0], (.tup [objD R0.1, iD R0.2]), by decide, by simp only [List.length_cons, List.length_nil]; decide, ?_, ?_⟩)
              · rw [hR2]
                simp only [go_sem, simprocAttr, List.length_map, v1, objD, List.map_nil]
                try rfl
              · refine ⟨?_, ?_⟩ <;> simp only [go_sem, simprocAttr, List.length_map, v1, objD]

          ((refine ah_r 0 rfl (by kernel_rfl) rfl fun K' hK' => ?_); (simp only [go_sem, simprocAttr, List.length_map, hdt2, hdt3, hdt, hPl, hPt, hPf, hAp, Nat.zero_add, ha0, ha01, ha3, ha4, Int.toNat_natCast, List.take_nil, List.take_zero, List.nil_append]); ((refine hK' _ ?_); clear hK' K'))
          ((refine ah_r 2 rfl (by kernel_rfl) rfl fun K' hK' => ?_); (simp only [go_sem, simprocAttr, List.length_map, hdt2, hdt3, hdt, hPl, hPt, hPf, hAp, Nat.zero_add, ha0, ha01, ha3, ha4, Int.toNat_natCast, List.take_nil, List.take_zero, List.nil_append]); ((refine hK' _ ?_); clear hK' K'))
          ((refine ah_r 3 rfl (by kernel_rfl) rfl fun K' hK' => ?_); (simp only [go_sem, simprocAttr, List.length_map, hdt2, hdt3, hdt, hPl, hPt, hPf, hAp, Nat.zero_add, ha0, ha01, ha3, ha4, Int.toNat_natCast, List.take_nil, List.take_zero, List.nil_append]); ((refine hK' _ ?_); clear hK' K'))
          ((refine ah_r 4 rfl (by kernel_rfl) rfl fun K' hK' => ?_); (simp only [go_sem, simprocAttr, List.length_map, hdt2, hdt3, hdt, hPl, hPt, hPf, hAp, Nat.zero_add, ha0, ha01, ha3, ha4, Int.toNat_natCast, List.take_nil, List.take_zero, List.nil_append]); ((refine hK' _ ?_); clear hK' K'))
          ((refine ah_r 5 rfl (by kernel_rfl) rfl fun K' hK' => ?_); (simp only [go_sem, simprocAttr, List.length_map, hdt2, hdt3, hdt, hPl, hPt, hPf, hAp, Nat.zero_add, ha0, ha01, ha3, ha4, Int.toNat_natCast, List.take_nil, List.take_zero, List.nil_append]); ((refine hK' _ ?_); clear hK' K'))
          ((refine ah_r 6 rfl (by kernel_rfl) rfl fun K' hK' => ?_); (simp only [go_sem, simprocAttr, List.length_map, hdt2, hdt3, hdt, hPl, hPt, hPf, hAp, Nat.zero_add, ha0, ha01, ha3, ha4, Int.toNat_natCast, List.take_nil, List.take_zero, List.nil_append]); ((refine hK' _ ?_); clear hK' K'))
          refine ah_two 1 7 rfl rfl (by kernel_rfl) ?_ ?_
          · ((repeat' ((refine al_r rfl fun K' hK' => ?_); (repeat (simp only [go_sem, simprocAttr, List.length_map, hdt2, hdt3, hdt, hPl, hPt, hPf, hAp, Nat.zero_add, ha0, ha01, ha3, ha4, Int.toNat_natCast, List.take_nil, List.take_zero, List.nil_append])); ((refine hK' _ _ ?_) <;> clear hK' K'))); all_goals refine al_nil ?_)
            (refine ah_one 7 rfl (by kernel_rfl) ?_; (repeat' ((refine al_r rfl fun K' hK' => ?_); (repeat (simp only [go_sem, simprocAttr, List.length_map, hdt2, hdt3, hdt, hPl, hPt, hPf, hAp, Nat.zero_add, ha0, ha01, ha3, ha4, Int.toNat_natCast, List.take_nil, List.take_zero, List.nil_append])); ((refine ⟨?_, ?_, hK' _ _ ?_⟩) <;> clear hK' K' <;> (first | (show alist _ _ _ _ _ _; skip) | assumption | omega)))); all_goals refine al_nil ?_)
            (refine ah_one 8 rfl (by kernel_rfl) ?_; (repeat' ((refine al_r rfl fun K' hK' => ?_); (repeat (first | (simp only [go_sem, simprocAttr, List.length_map, hdt2, hdt3, hdt, hPl, hPt, hPf, hAp, Nat.zero_add, ha0, ha01, ha3, ha4, Int.toNat_natCast, List.take_nil, List.take_zero, List.nil_append]) | refine AAp.grow ?_)); ((refine ⟨?_, hK' _ _ ?_⟩) <;> clear hK' K' <;> (first | (show alist _ _ _ _ _ _; skip) | assumption)))); all_goals refine al_nil ?_)
            ((refine ah_r 9 rfl (by kernel_rfl) rfl fun K' hK' => ?_); (simp only [go_sem, simprocAttr, List.length_map, hdt2, hdt3, hdt, hPl, hPt, hPf, hAp, Nat.zero_add, ha0, ha01, ha3, ha4, Int.toNat_natCast, List.take_nil, List.take_zero, List.nil_append]); ((refine hK' _ ?_); clear hK' K'))
            (refine ah_one 10 rfl (by kernel_rfl) ?_; (repeat' ((refine al_d rfl fun K' hK' => ?_); (repeat (first | (simp only [go_sem, simprocAttr, List.length_map, hdt2, hdt3, hdt, hPl, hPt, hPf, hAp, Nat.zero_add, ha0, ha01, ha3, ha4, Int.toNat_natCast, List.take_nil, List.take_zero, List.nil_append]) | refine AS.mk ?_)); ((refine ⟨?_, hK' _ _ ?_⟩) <;> clear hK' K' <;> (first | (show alist _ _ _ _ _ _; skip) | (simp; done))))); all_goals refine al_nil ?_)
            (refine ah_done (by kernel_rfl) ?_; (simp only [go_sem, simprocAttr, List.length_map, hdt2, hdt3, hdt, hPl, hPt, hPf, hAp, Nat.zero_add, ha0, ha01, ha3, ha4, Int.toNat_natCast, List.take_nil, List.take_zero, List.nil_append]); exact key)
          · ((repeat' ((refine al_r rfl fun K' hK' => ?_); (repeat (simp only [go_sem, simprocAttr, List.length_map, hdt2, hdt3, hdt, hPl, hPt, hPf, hAp, Nat.zero_add, ha0, ha01, ha3, ha4, Int.toNat_natCast, List.take_nil, List.take_zero, List.nil_append])); ((refine ⟨?_, ?_, hK' _ _ ?_⟩) <;> clear hK' K' <;> (first | (show alist _ _ _ _ _ _; skip) | assumption | omega)))); all_goals refine al_nil ?_)
            (refine ah_one 1 rfl (by kernel_rfl) ?_; (repeat' ((refine al_r rfl fun K' hK' => ?_); (repeat (simp only [go_sem, simprocAttr, List.length_map, hdt2, hdt3, hdt, hPl, hPt, hPf, hAp, Nat.zero_add, ha0, ha01, ha3, ha4, Int.toNat_natCast, List.take_nil, List.take_zero, List.nil_append])); ((refine hK' _ _ ?_) <;> clear hK' K'))); all_goals refine al_nil ?_)
            (refine ah_one 8 rfl (by kernel_rfl) ?_; (repeat' ((refine al_r rfl fun K' hK' => ?_); (repeat (first | (simp only [go_sem, simprocAttr, List.length_map, hdt2, hdt3, hdt, hPl, hPt, hPf, hAp, Nat.zero_add, ha0, ha01, ha3, ha4, Int.toNat_natCast, List.take_nil, List.take_zero, List.nil_append]) | refine AAp.grow ?_)); ((refine ⟨?_, hK' _ _ ?_⟩) <;> clear hK' K' <;> (first | (show alist _ _ _ _ _ _; skip) | assumption)))); all_goals refine al_nil ?_)
            ((refine ah_r 9 rfl (by kernel_rfl) rfl fun K' hK' => ?_); (simp only [go_sem, simprocAttr, List.length_map, hdt2, hdt3, hdt, hPl, hPt, hPf, hAp, Nat.zero_add, ha0, ha01, ha3, ha4, Int.toNat_natCast, List.take_nil, List.take_zero, List.nil_append]); ((refine hK' _ ?_); clear hK' K'))
            (refine ah_one 10 rfl (by kernel_rfl) ?_; (repeat' ((refine al_d rfl fun K' hK' => ?_); (repeat (first | (simp only [go_sem, simprocAttr, List.length_map, hdt2, hdt3, hdt, hPl, hPt, hPf, hAp, Nat.zero_add, ha0, ha01, ha3, ha4, Int.toNat_natCast, List.take_nil, List.take_zero, List.nil_append]) | refine AS.mk ?_)); ((refine ⟨?_, hK' _ _ ?_⟩) <;> clear hK' K' <;> (first | (show alist _ _ _ _ _ _; skip) | (simp; done))))); all_goals refine al_nil ?_)
            (refine ah_done (by kernel_rfl) ?_; (simp only [go_sem, simprocAttr, List.length_map, hdt2, hdt3, hdt, hPl, hPt, hPf, hAp, Nat.zero_add, ha0, ha01, ha3, ha4, Int.toNat_natCast, List.take_nil, List.take_zero, List.nil_append]); exact key)

      (refine awp_reg_tov [0, 1, 4, 8, 9, 10, 65] [(65, bD (k == 1 || k == 4))] (h := ?_) (k := ?_); · ((repeat' (first | ((first | refine al_r rfl fun K' hK' => ?_ | refine al_t rfl rfl fun K' hK' => ?_); (repeat (simp only [go_sem, simprocAttr, List.length_map, hn1])); ((refine hK' _ _ ?_) <;> clear hK' K')) | refine al_e rfl rfl ?_ | ((fail_if_success (refine al_t rfl rfl fun K' hK' => ?_)); refine al_s _ rfl rfl rfl (fun hb => ?_) (fun hb => ?_)))); all_goals (refine al_nil ?_; simp only [go_sem, simprocAttr, List.length_map, hn1, *, Bool.and_true, Bool.and_false, Bool.true_and, Bool.false_and, Bool.or_true, Bool.true_or, Bool.or_false, Bool.false_or, Bool.not_true, Bool.not_false, Bool.false_eq_true]))); intro K hK; (simp only [go_sem, simprocAttr, List.length_map, hn1]); refine hK _ ?_; clear hK K
      refine awp_if (numK k) rfl (fun hc => ?_) (fun hc => ?_)
      · have hrm : roomN k t p = 1 + (t + 7) / 8 + p + 1 := by unfold roomN; rw [if_pos hc]
        obtain ⟨v, hv1⟩ := get_of_lt (l := h) (i := n + 1) (by omega)
        have hvl := lt_of_get hv1
        have hRa : R0 = atO h n (objO h n k (IntKind.i64.wrap v) t p (n + 2)) (n + 2 + (t + 7) / 8 + p - n) := by
          rw [hv]; unfold atR; rw [if_pos hc, show h.getD (n + 1) 0 = v by simp [List.getD, hv1]]
        have hn2 : IntKind.i64.wrap (((n + 1 : Nat) : Int) + 1) = ((n + 2 : Nat) : Int) := by
          simp [maxLen] at hlen
          rw [Go.Ab.wrap_small (by omega) (by omega)]; rfl
        have hn10 : (0 : Int) ≤ ((n + 1 : Nat) : Int) := Int.natCast_nonneg _

        (refine awp_reg_seq [0, 1, 4, 8, 9, 10] fun K hK => ?_; (repeat' ((first | refine al_r rfl fun K' hK' => ?_ | refine al_d rfl fun K' hK' => ?_); (repeat (first | (simp only [go_sem, simprocAttr, List.length_map, hv1, hvl, hn2, hn10, Int.toNat_natCast, List.getElem?_map, Option.map_some]) | refine AS.mk ?_)); ((first | refine hK' _ _ ?_ | refine ⟨?_, hK' _ _ ?_⟩) <;> clear hK' K' <;> (first | (show alist _ _ _ _ _ _; skip) | (simp; done) | omega)))); all_goals (refine al_nil ?_; (simp only [go_sem, simprocAttr, List.length_map, hv1, hvl, hn2, hn10, Int.toNat_natCast, List.getElem?_map, Option.map_some]); refine hK _ ?_; clear hK K))
        (refine awp_reg_end [0, 1, 4, 8, 9, 10] fun K hK => ?_; (repeat' ((refine al_r rfl fun K' hK' => ?_); (repeat (simp only [go_sem, simprocAttr, List.length_map, hv1, hvl, hn2, hn10, Int.toNat_natCast, List.getElem?_map, Option.map_some])); ((refine hK' _ _ ?_) <;> clear hK' K'))); all_goals (refine al_nil ?_; (simp only [go_sem, simprocAttr, List.length_map, hv1, hvl, hn2, hn10, Int.toNat_natCast, List.getElem?_map, Option.map_some]); refine hK _ ?_; clear hK K))
        (refine hcut _ [0, 1, 4, 8, 9, 10] [0, 1, 2] (by decide) (by intro q hq; have : q = 0 := Nat.lt_one_iff.1 hq; subst this; rfl) ?_; simp only [go_sem, simprocAttr, List.length_map, hv1, hvl, hn2, hn10, Int.toNat_natCast, List.getElem?_map, Option.map_some]; (exact key (n + 2) _ (by omega) (by omega) hRa))
      · have hrm : roomN k t p = 1 + (t + 7) / 8 + p := by unfold roomN; rw [if_neg (by rw [hc]; simp)]; rfl
        have hRb : R0 = atO h n (objO h n k 0 t p (n + 1)) (n + 1 + (t + 7) / 8 + p - n) := by
          rw [hv]; unfold atR; rw [if_neg (by rw [hc]; simp)]

        refine awp_skip ?_
        (refine hcut _ [0, 1, 4, 8, 9, 10] [0, 1, 2] (by decide) (by intro q hq; have : q = 0 := Nat.lt_one_iff.1 hq; subst this; rfl) ?_; simp only [go_sem, simprocAttr, List.length_map]; (exact key (n + 1) 0 (by omega) (by omega) hRb))
end Go.Proofs.Ytagphggcdmjlpaa.P

/- The copier's word: what it answers, and three contracts. -/
namespace Go.Proofs.Ytagphggcdmjlpaa.P
open Go.Ab Go.Proofs.Ytagphggcdmjlpaa.T

/-- What a place was moved to. -/
def lk : List (Int × Int) → Int → Option Int
  | [], _ => none
  | (a, b) :: l, n => if a = n then some b else lk l n

/-- Such a list as a map of the program's. -/
def emb (m : List (Int × Int)) : List (Value × PV) := m.map fun e => (.int .i64 e.1, .lit (.int .i64 e.2))

theorem emb_keys (m : List (Int × Int)) : intKeys .i64 (emb m) := fun e he => by
  obtain ⟨x, _, rfl⟩ := List.mem_map.1 he
  exact ⟨x.1, rfl⟩

theorem mget_emb : ∀ (m : List (Int × Int)) (n : Int), mget (emb m) n = (lk m n).map fun t => .lit (.int .i64 t)
  | [], _ => rfl
  | (a, b) :: l, n => by
    show (if a = n then some (PV.lit (.int .i64 b)) else mget (emb l) n) = _
    unfold lk
    rw [mget_emb l n]
    split <;> rfl

theorem mset_emb : ∀ {m : List (Int × Int)} {a : Int} (b : Int), lk m a = none → mset .i64 a (.lit (.int .i64 b)) (emb m) = emb (m ++ [(a, b)])
  | [], _, _, _ => rfl
  | (c, d) :: l, a, b, h => by
    unfold lk at h
    split at h
    · cases h
    · rename_i hc
      show (if c = a then _ else (Value.int .i64 c, PV.lit (.int .i64 d)) :: mset .i64 a (.lit (.int .i64 b)) (emb l)) = _
      rw [if_neg hc, mset_emb b h]
      rfl

/-- What the copier has: the new heap, and what was moved. -/
abbrev CS := List Int × List (Int × Int)

/-- What a word is turned to, and what the copier has then. -/
def wordC (g : List Int) (low : Int) (S : CS) (w : Int) : Int × CS :=
  if !(placeS w).2.1 || decide ((placeS w).1 < low) then (w, S) else
  match lk S.2 (placeS w).1 with
  | some t => ((wordS 4 t).1, S)
  | none => ((wordS 4 S.1.length).1, (putS S.1 (atS g (placeS w).1).1).1, S.2 ++ [((placeS w).1, (S.1.length : Int))])

abbrev copD (g : List Int) (low : Int) (i n : Nat) : Ob := .box [words g, iD low, .ref i 0 n, .mp 2]
/-- The copier's objects, as it was called, and behind a call. -/
abbrev copA (g : List Int) (low : Int) (S : CS) : List Ob := [copD g low 1 S.1.length, .row 1 (S.1.map wrow), .map (emb S.2)]
abbrev copB (g : List Int) (low : Int) (S : CS) : List Ob := [copD g low 3 S.1.length, .dead, .map (emb S.2), .row 1 (S.1.map wrow)]

theorem flat_w (l : List Int) : ∀ o, o ∈ [Ob.row 1 (l.map wrow)] → flatOb o := fun o ho => by
  rcases List.mem_singleton.1 ho with rfl
  intro x hx y hy
  obtain ⟨n, _, rfl⟩ := List.mem_map.1 hx
  rcases List.mem_singleton.1 hy with rfl
  trivial


theorem wordSame (g : List Int) (low w at_ : Int) (Is : Bool) (e : Int) (S : CS) (hpl : ACallP Try.prog 68 [wD w] (.tup [iD at_, bD Is, iD e])) (hc0 : (!Is || decide (at_ < low)) = true) :
    ACalls Try.prog 98 [.ptr 0 0 0, wD w] (copA g low S) (fun r obs' => r = wD w ∧ obs' = copB g low S) := by
  obtain ⟨X, hX⟩ : ∃ X, decide (at_ < low) = X := ⟨_, rfl⟩
  rw [hX] at hc0
  refine acallm_fn [4] Try.func98 rfl rfl Try.ntmps98 (by simp) (by simp) fun R hR => ?_
  (refine awp_reg_seq [0, 1] fun K hK => ?_; (repeat' ((refine al_r rfl fun K' hK' => ?_); (repeat (simp only [go_sem, simprocAttr])); ((refine hK' _ _ ?_) <;> clear hK' K'))); all_goals (refine al_nil ?_; (simp only [go_sem, simprocAttr]); refine hK _ ?_; clear hK K))
  (refine awp_mv [0, 1] [0, 9, 2, 1] (by decide) (kept3 rfl (by simp)) ?_; simp only [go_sem, simprocAttr])
  (refine awp_reg_seq [0, 1, 5, 6] fun K hK => ?_; (repeat' ((refine al_r rfl fun K' hK' => ?_); (repeat (simp only [go_sem, simprocAttr])); (first | ((refine hK' _ _ ?_) <;> clear hK' K') | ((show AC _ _ (D.fn 68 _) _ _); refine acall_p (f := 68) (e := rfl) (hr := rfl) (k := hK' _ _ ?_) (hc := Try.call68) (h := hpl); clear hK' K')))); all_goals (refine al_nil ?_; (simp only [go_sem, simprocAttr]); refine hK _ ?_; clear hK K))
  refine awp_seq_k fun K hK => ?_

  refine awp_reg_tov [0, 1, 5, 29] [(29, bD (!Is || X))] (h := ?_) (k := ?_)
  · cases Is <;> cases X
    all_goals ((repeat' (first | ((first | refine al_r rfl fun K' hK' => ?_ | refine al_t rfl rfl fun K' hK' => ?_); (repeat (simp only [go_sem, simprocAttr, hX])); ((refine hK' _ _ ?_) <;> clear hK' K')) | refine al_e rfl rfl ?_)); all_goals (refine al_nil ?_; (simp only [go_sem, simprocAttr, hX, *, Bool.and_true, Bool.and_false, Bool.true_and, Bool.false_and, Bool.or_true, Bool.true_or, Bool.or_false, Bool.false_or, Bool.not_true, Bool.not_false, Bool.false_eq_true]; done)))
  (intro K hK; (simp only [go_sem, simprocAttr, hX]); refine hK _ ?_; clear hK K)
  refine awp_if (!Is || X) rfl (fun hc => ?_) (fun hc => ?_)
  · (refine awp_reg_seq [4] fun K hK => ?_; (repeat' ((refine al_r rfl fun K' hK' => ?_); (repeat (simp only [go_sem, simprocAttr, hX])); ((refine hK' _ _ ?_) <;> clear hK' K'))); all_goals (refine al_nil ?_; (simp only [go_sem, simprocAttr, hX]); refine hK _ ?_; clear hK K))
    refine awp_ret (hR _ _ [0, 1, 2, 3] (.inl rfl) rfl (by decide) (by simp only [List.length_cons, List.length_nil]; decide) ?_)
    refine ⟨?_, ?_⟩ <;> simp only [go_sem, simprocAttr, hX]
  · rw [hc0] at hc
    cases hc


theorem wordOld (g : List Int) (low w at_ t : Int) (e : Int) (S : CS) (hpl : ACallP Try.prog 68 [wD w] (.tup [iD at_, bD true, iD e])) (hX : decide (at_ < low) = false) (hlk : lk S.2 at_ = some t) :
    ACalls Try.prog 98 [.ptr 0 0 0, wD w] (copA g low S) (fun r obs' => r = wD (wordS 4 t).1 ∧ obs' = copB g low S) := by
  have hwo := word 4 t
  have hmg := mget_emb S.2 at_
  rw [hlk] at hmg
  have hkeys := emb_keys S.2
  refine acallm_fn [4] Try.func98 rfl rfl Try.ntmps98 (by simp) (by simp) fun R hR => ?_
  (refine awp_reg_seq [0, 1] fun K hK => ?_; (repeat' ((refine al_r rfl fun K' hK' => ?_); (repeat (simp only [go_sem, simprocAttr])); ((refine hK' _ _ ?_) <;> clear hK' K'))); all_goals (refine al_nil ?_; (simp only [go_sem, simprocAttr]); refine hK _ ?_; clear hK K))
  (refine awp_mv [0, 1] [0, 9, 2, 1] (by decide) (kept3 rfl (by simp)) ?_; simp only [go_sem, simprocAttr])
  (refine awp_reg_seq [0, 1, 5, 6] fun K hK => ?_; (repeat' ((refine al_r rfl fun K' hK' => ?_); (repeat (simp only [go_sem, simprocAttr])); (first | ((refine hK' _ _ ?_) <;> clear hK' K') | ((show AC _ _ (D.fn 68 _) _ _); refine acall_p (f := 68) (e := rfl) (hr := rfl) (k := hK' _ _ ?_) (hc := Try.call68) (h := hpl); clear hK' K')))); all_goals (refine al_nil ?_; (simp only [go_sem, simprocAttr]); refine hK _ ?_; clear hK K))
  refine awp_seq_k fun K hK => ?_

  refine awp_reg_tov [0, 1, 5, 29] [(29, bD false)] (h := ?_) (k := ?_)
  · all_goals ((repeat' ((first | refine al_r rfl fun K' hK' => ?_ | refine al_t rfl rfl fun K' hK' => ?_); (repeat (simp only [go_sem, simprocAttr, hX])); ((refine hK' _ _ ?_) <;> clear hK' K'))); all_goals (refine al_nil ?_; (simp only [go_sem, simprocAttr, hX, *, Bool.and_true, Bool.and_false, Bool.true_and, Bool.false_and, Bool.or_true, Bool.true_or, Bool.or_false, Bool.false_or, Bool.not_true, Bool.not_false, Bool.false_eq_true]; done)))
  (intro K hK; (simp only [go_sem, simprocAttr, hX]); refine hK _ ?_; clear hK K)
  refine awp_if (_) rfl (fun hc => ?_) (fun hc => ?_)
  · cases hc
  · refine awp_skip ?_
    refine hK _ ?_; clear hK K

    (refine awp_reg_seq [0, 5, 8, 9] fun K hK => ?_; (repeat' ((refine al_r rfl fun K' hK' => ?_); (repeat (simp only [go_sem, simprocAttr, hkeys, hmg, Option.map_some])); ((refine hK' _ _ ?_) <;> clear hK' K'))); all_goals (refine al_nil ?_; (simp only [go_sem, simprocAttr, hkeys, hmg, Option.map_some]); refine hK _ ?_; clear hK K))
    refine awp_seq_k fun K hK => ?_
    (refine awp_reg_seq [0, 5, 8, 41] fun K hK => ?_; (repeat' ((refine al_r rfl fun K' hK' => ?_); (repeat (simp only [go_sem, simprocAttr, hkeys, hmg, Option.map_some])); ((refine hK' _ _ ?_) <;> clear hK' K'))); all_goals (refine al_nil ?_; (simp only [go_sem, simprocAttr, hkeys, hmg, Option.map_some]); refine hK _ ?_; clear hK K))
    refine awp_if (_) rfl (fun hc => ?_) (fun hc => ?_)
    · cases hc
    · refine awp_skip ?_
      refine hK _ ?_; clear hK K
      (refine awp_reg_seq [12] fun K hK => ?_; (repeat' ((refine al_r rfl fun K' hK' => ?_); (repeat (simp only [go_sem, simprocAttr, hkeys, hmg, Option.map_some])); (first | ((refine hK' _ _ ?_) <;> clear hK' K') | ((show AC _ _ (D.fn 57 _) _ _); refine acall_p (f := 57) (e := rfl) (hr := rfl) (k := hK' _ _ ?_) (hc := Try.call57) (h := hwo); clear hK' K')))); all_goals (refine al_nil ?_; (simp only [go_sem, simprocAttr, hkeys, hmg, Option.map_some]); refine hK _ ?_; clear hK K))
      (refine awp_reg_seq [4] fun K hK => ?_; (repeat' ((refine al_r rfl fun K' hK' => ?_); (repeat (simp only [go_sem, simprocAttr, hkeys, hmg, Option.map_some])); ((refine hK' _ _ ?_) <;> clear hK' K'))); all_goals (refine al_nil ?_; (simp only [go_sem, simprocAttr, hkeys, hmg, Option.map_some]); refine hK _ ?_; clear hK K))
      refine awp_ret (hR _ _ [0, 1, 2, 3] (.inl rfl) rfl (by decide) (by simp only [List.length_cons, List.length_nil]; decide) ?_)
      refine ⟨?_, ?_⟩ <;> simp only [go_sem, simprocAttr, hkeys, hmg, Option.map_some]


set_option maxRecDepth 100000 in
theorem wordNew (g : List Int) (low w at_ : Int) (e e2 : Int) (S : CS) (o : Obj) (hpl : ACallP Try.prog 68 [wD w] (.tup [iD at_, bD true, iD e])) (hX : decide (at_ < low) = false) (hlk : lk S.2 at_ = none)
    (hat : ACallP Try.prog 19 [words g, iD at_] (.tup [objD o, iD e2])) (hlen : S.1.length ≤ maxLen) (hg : (putS S.1 o).2.2 = 0) :
    ACalls Try.prog 98 [.ptr 0 0 0, wD w] (copA g low S) (fun r obs' => r = wD (wordS 4 S.1.length).1 ∧ obs' = copB g low ((putS S.1 o).1, S.2 ++ [(at_, (S.1.length : Int))])) := by
  have hwo := word 4 S.1.length
  have hmg := mget_emb S.2 at_
  rw [hlk] at hmg
  have hkeys := emb_keys S.2
  have hms := mset_emb (S.1.length : Int) hlk
  have htS : List.take S.1.length (S.1.map wrow) = S.1.map wrow := List.take_of_length_le (by simp)
  have hpu := putO S.1 o hlen hg
  unfold words at hpu
  rw [← htS] at hpu
  generalize putS S.1 o = X at hpu
  have hpuF := flat_w X.1
  refine acallm_fn [4] Try.func98 rfl rfl Try.ntmps98 (by simp) (by simp) fun R hR => ?_
  (refine awp_reg_seq [0, 1] fun K hK => ?_; (repeat' ((refine al_r rfl fun K' hK' => ?_); (repeat (simp only [go_sem, simprocAttr])); ((refine hK' _ _ ?_) <;> clear hK' K'))); all_goals (refine al_nil ?_; (simp only [go_sem, simprocAttr]); refine hK _ ?_; clear hK K))
  (refine awp_mv [0, 1] [0, 9, 2, 1] (by decide) (kept3 rfl (by simp)) ?_; simp only [go_sem, simprocAttr])
  (refine awp_reg_seq [0, 1, 5, 6] fun K hK => ?_; (repeat' ((refine al_r rfl fun K' hK' => ?_); (repeat (simp only [go_sem, simprocAttr])); (first | ((refine hK' _ _ ?_) <;> clear hK' K') | ((show AC _ _ (D.fn 68 _) _ _); refine acall_p (f := 68) (e := rfl) (hr := rfl) (k := hK' _ _ ?_) (hc := Try.call68) (h := hpl); clear hK' K')))); all_goals (refine al_nil ?_; (simp only [go_sem, simprocAttr]); refine hK _ ?_; clear hK K))
  refine awp_seq_k fun K hK => ?_

  refine awp_reg_tov [0, 1, 5, 29] [(29, bD false)] (h := ?_) (k := ?_)
  · all_goals ((repeat' ((first | refine al_r rfl fun K' hK' => ?_ | refine al_t rfl rfl fun K' hK' => ?_); (repeat (simp only [go_sem, simprocAttr, hX])); ((refine hK' _ _ ?_) <;> clear hK' K'))); all_goals (refine al_nil ?_; (simp only [go_sem, simprocAttr, hX, *, Bool.and_true, Bool.and_false, Bool.true_and, Bool.false_and, Bool.or_true, Bool.true_or, Bool.or_false, Bool.false_or, Bool.not_true, Bool.not_false, Bool.false_eq_true]; done)))
  (intro K hK; (simp only [go_sem, simprocAttr, hX]); refine hK _ ?_; clear hK K)
  refine awp_if (_) rfl (fun hc => ?_) (fun hc => ?_)
  · cases hc
  · refine awp_skip ?_
    refine hK _ ?_; clear hK K

    (refine awp_reg_seq [0, 5, 8, 9] fun K hK => ?_; (repeat' ((refine al_r rfl fun K' hK' => ?_); (repeat (simp only [go_sem, simprocAttr, hkeys, hmg, Option.map_none])); ((refine hK' _ _ ?_) <;> clear hK' K'))); all_goals (refine al_nil ?_; (simp only [go_sem, simprocAttr, hkeys, hmg, Option.map_none]); refine hK _ ?_; clear hK K))
    refine awp_seq_k fun K hK => ?_
    (refine awp_reg_seq [0, 5, 8, 41] fun K hK => ?_; (repeat' ((refine al_r rfl fun K' hK' => ?_); (repeat (simp only [go_sem, simprocAttr, hkeys, hmg, Option.map_none])); ((refine hK' _ _ ?_) <;> clear hK' K'))); all_goals (refine al_nil ?_; (simp only [go_sem, simprocAttr, hkeys, hmg, Option.map_none]); refine hK _ ?_; clear hK K))
    refine awp_if (_) rfl (fun hc => ?_) (fun hc => ?_)

    · (refine awp_reg_seq [0, 5, 10] fun K hK => ?_; (repeat' ((first | refine al_r rfl fun K' hK' => ?_ | refine al_d rfl fun K' hK' => ?_); (repeat (first | (simp only [go_sem, simprocAttr, List.length_map]) | refine AS.mk ?_)); (first | ((first | refine hK' _ _ ?_ | refine ⟨?_, hK' _ _ ?_⟩) <;> clear hK' K' <;> (first | (show alist _ _ _ _ _ _; skip) | (simp; done))) | ((show AC _ _ (D.fn 19 _) _ _); refine acall_p (f := 19) (e := rfl) (hr := rfl) (k := hK' _ _ ?_) (hc := Try.call19) (h := hat); clear hK' K')))); all_goals (refine al_nil ?_; (simp only [go_sem, simprocAttr, List.length_map]); refine hK _ ?_; clear hK K))
      (refine awp_reg_seq [0, 5, 8, 10] fun K hK => ?_; (repeat' ((refine al_r rfl fun K' hK' => ?_); (repeat (simp only [go_sem, simprocAttr, List.length_map])); ((first | refine hK' _ _ ?_ | refine ⟨?_, hK' _ _ ?_⟩) <;> clear hK' K' <;> (first | (show alist _ _ _ _ _ _; skip) | (intro s hs; cases hs; done))))); all_goals (refine al_nil ?_; (simp only [go_sem, simprocAttr, List.length_map]); refine hK _ ?_; clear hK K))

      (refine awp_reg_seq [0, 8, 10] fun K hK => ?_; (repeat' ((first | refine al_r rfl fun K' hK' => ?_ | refine al_d rfl fun K' hK' => ?_); (repeat (simp only [go_sem, simprocAttr, List.length_map, hkeys, hms])); ((refine hK' _ _ ?_) <;> clear hK' K'))); all_goals (refine al_nil ?_; (simp only [go_sem, simprocAttr, List.length_map, hkeys, hms]); refine hK _ ?_; clear hK K))
      (refine awp_frz [0, 8, 10] [0, 1, 2, 3] (by decide) (by (exact kept012)) ?_; simp only [go_sem, simprocAttr, List.length_map, hkeys, hms])
      refine awp_draw (by kernel_rfl) [8] fun K hK => ?_
      ((refine ah_r 0 rfl (by kernel_rfl) rfl fun K' hK' => ?_); (simp only [go_sem, simprocAttr, List.length_map, hkeys, hms]); ((refine hK' _ ?_); clear hK' K'))
      ((refine ah_r 1 rfl (by kernel_rfl) rfl fun K' hK' => ?_); (simp only [go_sem, simprocAttr, List.length_map, hkeys, hms]); ((refine hK' _ ?_); clear hK' K'))
      ((refine ah_r 5 rfl (by kernel_rfl) rfl fun K' hK' => ?_); (simp only [go_sem, simprocAttr, List.length_map, hkeys, hms]); ((refine hK' _ ?_); clear hK' K'))
      (refine ah_one 2 rfl (by kernel_rfl) ?_; (repeat' ((refine al_r rfl fun K' hK' => ?_); (repeat (simp only [go_sem, simprocAttr, List.length_map, hkeys, hms])); ((refine hK' _ _ ?_) <;> clear hK' K'))); all_goals refine al_nil ?_)
      ((refine ah_r 3 rfl (by kernel_rfl) rfl fun K' hK' => ?_); (simp only [go_sem, simprocAttr, List.length_map, hkeys, hms]); ((refine hK' _ ?_); clear hK' K'))
      (refine ah_one 4 rfl (by kernel_rfl) ?_; (repeat' ((refine al_r rfl fun K' hK' => ?_); (repeat (simp only [go_sem, simprocAttr, List.length_map, hkeys, hms])); ((refine hK' _ _ ?_) <;> clear hK' K'))); all_goals refine al_nil ?_)
      (refine ah_one 6 rfl (by kernel_rfl) ?_; (repeat' ((refine al_r rfl fun K' hK' => ?_); (repeat (simp only [go_sem, simprocAttr, List.length_map, hkeys, hms])); ((show AC _ _ (D.fn 17 _) _ _); refine acall_gn (f := 17) Try.call17 hpu rfl (by simp [D.all, D.allL, flatL, flatPV]) (hfo := hpuF) ?_; (simp only [go_sem, simprocAttr, List.length_map, hkeys, hms]); refine hK' _ _ ?_; clear hK' K'))); all_goals refine al_nil ?_)
      ((refine ah_r 7 rfl (by kernel_rfl) rfl fun K' hK' => ?_); (simp only [go_sem, simprocAttr, List.length_map, hkeys, hms]); ((refine hK' _ ?_); clear hK' K'))
      ((refine ah_r 8 rfl (by kernel_rfl) rfl fun K' hK' => ?_); (simp only [go_sem, simprocAttr, List.length_map, hkeys, hms]); ((refine hK' _ ?_); clear hK' K'))
      ((refine ah_r 9 rfl (by kernel_rfl) rfl fun K' hK' => ?_); (simp only [go_sem, simprocAttr, List.length_map, hkeys, hms]); ((refine hK' _ ?_); clear hK' K'))
      ((refine ah_r 10 rfl (by kernel_rfl) rfl fun K' hK' => ?_); (simp only [go_sem, simprocAttr, List.length_map, hkeys, hms]); ((refine hK' _ ?_); clear hK' K'))
      (refine ah_one 11 rfl (by kernel_rfl) ?_; (repeat' ((refine al_r rfl fun K' hK' => ?_); (repeat (simp only [go_sem, simprocAttr, List.length_map, hkeys, hms])); ((refine hK' _ _ ?_) <;> clear hK' K'))); all_goals refine al_nil ?_)
      ((refine ah_r 12 rfl (by kernel_rfl) rfl fun K' hK' => ?_); (simp only [go_sem, simprocAttr, List.length_map, hkeys, hms]); ((refine hK' _ ?_); clear hK' K'))
      (refine ah_one 13 rfl (by kernel_rfl) ?_; (repeat' ((refine al_d rfl fun K' hK' => ?_); (repeat (first | (simp only [go_sem, simprocAttr, List.length_map, hkeys, hms]) | refine AS.mk ?_)); ((refine ⟨?_, hK' _ _ ?_⟩) <;> clear hK' K' <;> (first | (show alist _ _ _ _ _ _; skip) | (simp; done))))); all_goals refine al_nil ?_)
      (refine ah_done (by kernel_rfl) ?_; (simp only [go_sem, simprocAttr, List.length_map, hkeys, hms]); refine hK _ ?_; clear hK K)
      refine hK _ ?_; clear hK K
      (refine awp_reg_seq [12] fun K hK => ?_; (repeat' ((refine al_r rfl fun K' hK' => ?_); (repeat (simp only [go_sem, simprocAttr, List.length_map, hkeys, hms])); (first | ((refine hK' _ _ ?_) <;> clear hK' K') | ((show AC _ _ (D.fn 57 _) _ _); refine acall_p (f := 57) (e := rfl) (hr := rfl) (k := hK' _ _ ?_) (hc := Try.call57) (h := hwo); clear hK' K')))); all_goals (refine al_nil ?_; (simp only [go_sem, simprocAttr, List.length_map, hkeys, hms]); refine hK _ ?_; clear hK K))
      (refine awp_reg_seq [4] fun K hK => ?_; (repeat' ((refine al_r rfl fun K' hK' => ?_); (repeat (simp only [go_sem, simprocAttr, List.length_map, hkeys, hms])); ((refine hK' _ _ ?_) <;> clear hK' K'))); all_goals (refine al_nil ?_; (simp only [go_sem, simprocAttr, List.length_map, hkeys, hms]); refine hK _ ?_; clear hK K))
      refine awp_ret (hR _ _ [0, 1, 2, 4] (.inl rfl) rfl (by decide) (by simp only [List.length_cons, List.length_nil]; decide) ?_)
      refine ⟨?_, ?_⟩ <;> simp only [go_sem, simprocAttr, List.length_map, hkeys, hms, List.length_map]
    · cases hc
end Go.Proofs.Ytagphggcdmjlpaa.P

