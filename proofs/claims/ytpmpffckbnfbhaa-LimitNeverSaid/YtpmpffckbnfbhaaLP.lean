/- What a clean check says of the rows of limits: plain facts. -/
import Derived.Test.YtpmpffckbnfbhaaL4
set_option linter.unusedSimpArgs false
set_option linter.unusedVariables false
namespace Go.Proofs.Ytpmpffckbnfbhaa.P
open Go.Ab

structure RowOk (r : LRow) : Prop where
  l0 : 0 ≤ r.letters
  l1 : r.letters ≤ r.maxL
  l2 : r.maxL ≤ 1073741824
  c0 : 0 ≤ r.cells
  c1 : r.cells ≤ r.maxC
  c2 : r.maxC ≤ 1073741824

theorem bad_iff {r : LRow} : badRow r = false ↔ RowOk r := by
  unfold badRow minI maxI
  simp only [Bool.or_eq_false_iff, decide_eq_false_iff_not]
  constructor
  · rintro ⟨⟨⟨h1, h2⟩, h3⟩, h4⟩
    constructor <;> (repeat' (split at h1)) <;> (repeat' (split at h2)) <;> omega
  · rintro ⟨h1, h2, h3, h4, h5, h6⟩
    refine ⟨⟨⟨?_, ?_⟩, ?_⟩, ?_⟩
    · repeat' split
      all_goals omega
    · repeat' split
      all_goals omega
    · omega
    · omega

structure GoodL (ls : List LRow) : Prop where
  len : ls.length ≤ 100
  rows : ∀ r ∈ ls, RowOk r
  ord : ls.Pairwise (fun a b => a.ref < b.ref)

theorem ord_iff {pre l : List LRow} {d : LRow} (hp : pre.Pairwise (fun a b => a.ref < b.ref)) : ordBad (pre ++ d :: l) pre.length d = false ↔ ∀ x ∈ pre, x.ref < d.ref := by
  rcases List.eq_nil_or_concat pre with rfl | ⟨q, p, rfl⟩
  · simp [ordBad]
  · have hg : (q ++ [p] ++ d :: l)[q.length]? = some p := by simp
    rw [show (q.concat p) = q ++ [p] by simp] at *
    rw [show (q ++ [p]).length = q.length + 1 by simp]
    simp only [ordBad, hg, decide_eq_false_iff_not]
    constructor
    · intro h x hx
      rcases List.mem_append.1 hx with hx | hx
      · have := (List.pairwise_append.1 hp).2.2 x hx p (by simp)
        omega
      · simp at hx; subst hx; omega
    · intro h; have := h p (by simp); omega

theorem scan_iff : ∀ (l pre : List LRow), pre.Pairwise (fun a b => a.ref < b.ref) →
    (scanR (pre ++ l) pre.length l = 0 ↔ (∀ d ∈ l, RowOk d) ∧ (pre ++ l).Pairwise (fun a b => a.ref < b.ref))
  | [], pre, hp => by simp [scanR, hp]
  | d :: l, pre, hp => by
    have ih := scan_iff l (pre ++ [d])
    unfold scanR
    by_cases h1 : badRow d = true
    · rw [if_pos h1]
      refine ⟨fun h => absurd h (by decide), fun hh => ?_⟩
      have := bad_iff.2 (hh.1 d List.mem_cons_self)
      rw [h1] at this; cases this
    rw [if_neg h1]
    have h1 := bad_iff.1 (by simpa using h1)
    by_cases h2 : ordBad (pre ++ d :: l) pre.length d = true
    · rw [if_pos h2]
      refine ⟨fun h => absurd h (by decide), fun hh => ?_⟩
      have := (ord_iff (l := l) (d := d) hp).2 (fun x hx => (List.pairwise_append.1 hh.2).2.2 x hx d List.mem_cons_self)
      rw [h2] at this; cases this
    rw [if_neg h2]
    have h2 := (ord_iff hp).1 (by simpa using h2)
    have e2 : pre.length + 1 = (pre ++ [d]).length := by simp
    have e3 : pre ++ d :: l = pre ++ [d] ++ l := by simp
    rw [e2, e3, ih]
    · simp only [List.mem_cons, forall_eq_or_imp]
      exact ⟨fun ⟨a, b⟩ => ⟨⟨h1, a⟩, b⟩, fun ⟨⟨_, a⟩, b⟩ => ⟨a, b⟩⟩
    · rw [List.pairwise_append]
      exact ⟨hp, by simp, fun x hx y hy => by simp at hy; subst hy; exact h2 x hx⟩

theorem check_iff {ls : List LRow} : checkR ls = 0 ↔ GoodL ls := by
  have hs := scan_iff ls [] List.Pairwise.nil
  simp only [List.nil_append, List.length_nil] at hs
  unfold checkR
  by_cases h1 : (ls.length : Int) > 100
  · rw [if_pos (by simpa using h1)]
    exact ⟨fun h => absurd h (by decide), fun h => by have := h.len; omega⟩
  rw [if_neg (by simpa using h1), hs]
  exact ⟨fun ⟨a, b⟩ => ⟨by omega, a, b⟩, fun h => ⟨h.rows, h.ord⟩⟩

theorem at_there {ls : List LRow} {ref : Int} {k : Nat} {r : LRow} (h : checkR ls = 0) (hk : ls[k]? = some r) (hr : r.ref = ref) : atS ls ref = ((k : Int), (0 : Int)) := by
  obtain ⟨_, _, hris⟩ := check_ok h
  have hpos : posOf (byRef ref) ls = k := by
    refine posOf_eq (Nat.le_of_lt (lt_of_get hk)) (fun j x hj hx => ?_) (fun j x hj hx => ?_)
    · have := hris j k x r hj hx hk
      exact cmp_neg.2 (by omega)
    · rcases Nat.lt_or_eq_of_le hj with hlt | rfl
      · have := hris k j r x hlt hk hx
        have h2 : ¬ byRef ref x < 0 := fun h3 => by have := cmp_neg.1 h3; omega
        omega
      · rw [hk] at hx; cases hx
        have h2 : ¬ byRef ref r < 0 := fun h3 => by have := cmp_neg.1 h3; omega
        omega
  have hat : isAt (byRef ref) ls = true := by
    unfold isAt
    rw [hpos, hk]
    exact cmp_zero.2 hr
  unfold atS
  rw [if_neg (by simp [h]), hat, if_neg (by simp), hpos]

theorem at_none {ls : List LRow} {ref : Int} (h : ∀ (k : Nat) r, ls[k]? = some r → r.ref ≠ ref) : (atS ls ref).2 ≠ 0 := fun h0 => by
  obtain ⟨_, i, r, _, hi, hr⟩ := at_ok h0
  exact h i r hi hr

theorem amt_iff {n : Int} : amt n = true ↔ 0 ≤ n ∧ n ≤ 1073741824 := by
  simp [amt]
end Go.Proofs.Ytpmpffckbnfbhaa.P
