/- What a clean check says of the rows of links: plain facts. -/
import Derived.Test.YtfjfiemcdnicoaaK2
set_option linter.unusedSimpArgs false
set_option linter.unusedVariables false
set_option maxHeartbeats 1000000
namespace Go.Proofs.Ytfjfiemcdnicoaa.P
open Go.Ab

theorem dup_iff : ∀ (l pre : List Int), pre.Nodup → (dupF (pre ++ l) pre.length l = false ↔ (pre ++ l).Nodup)
  | [], pre, h => by simp [dupF, h]
  | n :: l, pre, h => by
    have ih := dup_iff l (pre ++ [n])
    unfold dupF
    rw [List.take_left]
    by_cases hn : n ∈ pre
    · have : (pre.any fun y => n == y) = true := List.any_eq_true.2 ⟨n, hn, by simp⟩
      rw [if_pos this]
      refine ⟨fun h => absurd h (by decide), fun hh => ?_⟩
      rw [List.nodup_append] at hh
      exact absurd rfl (hh.2.2 n hn n List.mem_cons_self)
    · have : (pre.any fun y => n == y) = false := by
        rw [List.any_eq_false]
        intro y hy e
        rw [beq_iff_eq] at e
        exact hn (e ▸ hy)
      rw [if_neg (by rw [this]; simp)]
      have e1 : pre.length + 1 = (pre ++ [n]).length := by simp
      have e2 : pre ++ n :: l = pre ++ [n] ++ l := by simp
      rw [e1, e2]
      refine ih ?_
      rw [List.nodup_append]
      exact ⟨h, by simp, fun x hx y hy e => by simp at hy; subst hy; exact hn (e ▸ hx)⟩

theorem dup0 {l : List Int} : dupF l 0 l = false ↔ l.Nodup := by
  have := dup_iff l [] List.nodup_nil
  simpa using this

structure RowK (r : Row) : Prop where
  ref : 1 ≤ r.ref
  w : r.watches.length ≤ 100
  l : r.links.length ≤ 100
  nd : r.links.Nodup

theorem bad_iff {r : Row} : badRow r = false ∧ dupF r.links 0 r.links = false ↔ RowK r := by
  rw [dup0]
  unfold badRow
  simp only [Bool.or_eq_false_iff, decide_eq_false_iff_not]
  constructor
  · rintro ⟨⟨⟨h1, h2⟩, h3⟩, h4⟩
    exact ⟨by omega, by omega, by omega, h4⟩
  · rintro ⟨h1, h2, h3, h4⟩
    exact ⟨⟨⟨by omega, by omega⟩, by omega⟩, h4⟩

structure GoodK (ls : List Row) : Prop where
  len : ls.length ≤ 100
  rows : ∀ r ∈ ls, RowK r
  ord : ls.Pairwise (fun a b => a.ref < b.ref)

theorem ord_iff {pre l : List Row} {d : Row} (hp : pre.Pairwise (fun a b => a.ref < b.ref)) : ordBad (pre ++ d :: l) pre.length d = false ↔ ∀ x ∈ pre, x.ref < d.ref := by
  rcases List.eq_nil_or_concat pre with rfl | ⟨q, p, rfl⟩
  · simp [ordBad]
  · have hg : (q ++ [p] ++ d :: l)[q.length]? = some p := by simp
    rw [show (q.concat p) = q ++ [p] by simp] at *
    rw [show (q ++ [p]).length = q.length + 1 by simp]
    simp only [ordBad, hg, decide_eq_false_iff_not]
    constructor
    · intro h x hx
      rcases List.mem_append.1 hx with hx | hx
      · have := (List.pairwise_append.1 hp).2.2 x hx p (by simp)
        omega
      · simp at hx; subst hx; omega
    · intro h; have := h p (by simp); omega

theorem scan_iff : ∀ (l pre : List Row), pre.Pairwise (fun a b => a.ref < b.ref) →
    (scanR (pre ++ l) pre.length l = 0 ↔ (∀ d ∈ l, RowK d) ∧ (pre ++ l).Pairwise (fun a b => a.ref < b.ref))
  | [], pre, hp => by simp [scanR, hp]
  | d :: l, pre, hp => by
    have ih := scan_iff l (pre ++ [d])
    unfold scanR
    by_cases h1 : badRow d = true
    · rw [if_pos h1]
      refine ⟨fun h => absurd h (by decide), fun hh => ?_⟩
      have := (bad_iff.2 (hh.1 d List.mem_cons_self)).1
      rw [h1] at this; cases this
    rw [if_neg h1]
    by_cases h2 : ordBad (pre ++ d :: l) pre.length d = true
    · rw [if_pos h2]
      refine ⟨fun h => absurd h (by decide), fun hh => ?_⟩
      have := (ord_iff (l := l) (d := d) hp).2 (fun x hx => (List.pairwise_append.1 hh.2).2.2 x hx d List.mem_cons_self)
      rw [h2] at this; cases this
    rw [if_neg h2]
    by_cases h3 : dupF d.links 0 d.links = true
    · rw [if_pos h3]
      refine ⟨fun h => absurd h (by decide), fun hh => ?_⟩
      have := (bad_iff.2 (hh.1 d List.mem_cons_self)).2
      rw [h3] at this; cases this
    rw [if_neg h3]
    have h1 := bad_iff.1 ⟨by simpa using h1, by simpa using h3⟩
    have h2 := (ord_iff hp).1 (by simpa using h2)
    have e2 : pre.length + 1 = (pre ++ [d]).length := by simp
    have e3 : pre ++ d :: l = pre ++ [d] ++ l := by simp
    rw [e2, e3, ih]
    · simp only [List.mem_cons, forall_eq_or_imp]
      exact ⟨fun ⟨a, b⟩ => ⟨⟨h1, a⟩, b⟩, fun ⟨⟨_, a⟩, b⟩ => ⟨a, b⟩⟩
    · rw [List.pairwise_append]
      exact ⟨hp, by simp, fun x hx y hy => by simp at hy; subst hy; exact h2 x hx⟩

theorem check_iff {ls : List Row} : checkR ls = 0 ↔ GoodK ls := by
  have hs := scan_iff ls [] List.Pairwise.nil
  simp only [List.nil_append, List.length_nil] at hs
  unfold checkR
  by_cases h1 : (ls.length : Int) > 100
  · rw [if_pos (by simpa using h1)]
    exact ⟨fun h => absurd h (by decide), fun h => by have := h.len; omega⟩
  rw [if_neg (by simpa using h1), hs]
  exact ⟨fun ⟨a, b⟩ => ⟨by omega, a, b⟩, fun h => ⟨h.rows, h.ord⟩⟩

theorem there_at {ls : List Row} {k : Nat} {r : Row} (hg : GoodK ls) (hk : ls[k]? = some r) : thereS ls r.ref = ((k : Int), (0 : Int)) := by
  have h := check_iff.2 hg
  obtain ⟨_, _, hris⟩ := check_ok h
  have hpos : posOf (byRef r.ref) ls = k := by
    refine posOf_eq (Nat.le_of_lt (lt_of_get hk)) (fun j x hj hx => ?_) (fun j x hj hx => ?_)
    · have := hris j k x r hj hx hk
      exact cmp_neg.2 (by omega)
    · rcases Nat.lt_or_eq_of_le hj with hlt | rfl
      · have := hris k j r x hlt hk hx
        have h2 : ¬ byRef r.ref x < 0 := fun h3 => by have := cmp_neg.1 h3; omega
        omega
      · rw [hk] at hx; cases hx
        have h2 : ¬ byRef r.ref r < 0 := fun h3 => by have := cmp_neg.1 h3; omega
        omega
  have hat : isAt (byRef r.ref) ls = true := by
    unfold isAt
    rw [hpos, hk]
    exact cmp_zero.2 rfl
  unfold thereS
  rw [if_neg (by simp [h]), hat, if_neg (by simp), hpos]

theorem set_refs {ls : List Row} {i : Nat} {r s : Row} (h : ls[i]? = some r) (hr : s.ref = r.ref) : (ls.set i s).map Row.ref = ls.map Row.ref := by
  apply List.ext_getElem?
  intro j
  rw [List.getElem?_map, List.getElem?_map, List.getElem?_set]
  by_cases e : i = j
  · subst e
    have := lt_of_get h
    rw [if_pos rfl, if_pos this, h]
    simp [hr]
  · simp [e]

theorem set_good {ls : List Row} (hg : GoodK ls) {i : Nat} {r s : Row} (h : ls[i]? = some r) (hr : s.ref = r.ref) (hs : RowK s) : GoodK (ls.set i s) := by
  refine ⟨by rw [List.length_set]; exact hg.len, fun x hx => ?_, ?_⟩
  · rcases List.mem_or_eq_of_mem_set hx with hx | rfl
    · exact hg.rows x hx
    · exact hs
  · have := hg.ord
    rw [← List.pairwise_map (f := Row.ref) (R := fun a b => a < b)] at this ⊢
    rwa [set_refs h hr]
end Go.Proofs.Ytfjfiemcdnicoaa.P
