/- What a clean check says of timers: plain facts. -/
import Derived.Test.YtfjfiemcdnicoaaM2
set_option linter.unusedSimpArgs false
set_option linter.unusedVariables false
namespace Go.Proofs.Ytfjfiemcdnicoaa.P
open Go.Ab

def lt (a b : Due) : Prop := a.tm < b.tm ∨ a.tm = b.tm ∧ a.id < b.id

theorem cmp_cases (a b : Int) : cmpI a b = -1 ∧ a < b ∨ cmpI a b = 0 ∧ a = b ∨ cmpI a b = 1 ∧ b < a := by
  unfold cmpI
  by_cases h : a < b
  · simp [h]
  · by_cases h2 : a > b
    · simp [h, h2]
    · simp [h, h2]; omega

theorem ord_neg {a b : Due} : ordI a b < 0 ↔ lt a b := by
  unfold ordI lt
  rcases cmp_cases a.tm b.tm with ⟨h, h'⟩ | ⟨h, h'⟩ | ⟨h, h'⟩ <;> rcases cmp_cases a.id b.id with ⟨k, k'⟩ | ⟨k, k'⟩ | ⟨k, k'⟩ <;> simp [h, k] <;> omega

theorem ord_ge {a b : Due} : ¬ ordI a b ≥ 0 ↔ lt a b := by rw [← ord_neg]; omega

theorem lt_trans {a b c : Due} (h : lt a b) (h' : lt b c) : lt a c := by unfold lt at *; omega
theorem lt_irrefl {a : Due} : ¬ lt a a := by unfold lt; omega
theorem lt_or {a b : Due} (h : ¬ lt a b) (hne : a.id ≠ b.id) : lt b a := by unfold lt at *; omega

theorem ordBad_iff {pre l : List Due} {d : Due} (hp : pre.Pairwise lt) : ordBad (pre ++ d :: l) pre.length d = false ↔ ∀ x ∈ pre, lt x d := by
  rcases List.eq_nil_or_concat pre with rfl | ⟨q, p, rfl⟩
  · simp [ordBad]
  · have hg : (q ++ [p] ++ d :: l)[q.length]? = some p := by simp
    rw [show (q.concat p) = q ++ [p] by simp] at *
    rw [show (q ++ [p]).length = q.length + 1 by simp]
    simp only [ordBad, hg, decide_eq_false_iff_not]
    rw [ord_ge]
    constructor
    · intro h x hx
      rcases List.mem_append.1 hx with hx | hx
      · exact lt_trans ((List.pairwise_append.1 hp).2.2 x hx p (by simp)) h
      · simp at hx; subst hx; exact h
    · intro h; exact h p (by simp)

theorem bad_iff {now : Int} {d : Due} : badDue now d = false ↔ now < d.tm ∧ d.tm ≤ 2199023255552 := by
  simp [badDue]

theorem scan_iff (now : Int) : ∀ (l pre : List Due), pre.Pairwise lt → (pre.map (·.id)).Nodup →
    (scanD now (pre ++ l) pre.length (pre.map (·.id)).reverse l = 0 ↔ (∀ d ∈ l, now < d.tm ∧ d.tm ≤ 2199023255552) ∧ (pre ++ l).Pairwise lt ∧ ((pre ++ l).map (·.id)).Nodup)
  | [], pre, hp, hn => by simp [scanD, hp, hn]
  | d :: l, pre, hp, hn => by
    have ih := scan_iff now l (pre ++ [d])
    unfold scanD
    have hsub : ((pre ++ [d]).Sublist (pre ++ d :: l)) := (List.Sublist.refl pre).append (by simp)
    by_cases h1 : badDue now d = true
    · rw [if_pos h1]
      refine ⟨fun h => absurd h (by decide), fun hh => ?_⟩
      obtain ⟨h, _, _⟩ := hh
      have := bad_iff.2 (h d List.mem_cons_self)
      rw [h1] at this; cases this
    rw [if_neg h1]
    have h1 := bad_iff.1 (by simpa using h1)
    by_cases h2 : ordBad (pre ++ d :: l) pre.length d = true
    · rw [if_pos h2]
      refine ⟨fun h => absurd h (by decide), fun hh => ?_⟩
      obtain ⟨_, h, _⟩ := hh
      have := (ordBad_iff (l := l) (d := d) hp).2 (fun x hx => (List.pairwise_append.1 h).2.2 x hx d List.mem_cons_self)
      rw [h2] at this; cases this
    rw [if_neg h2]
    have h2 := (ordBad_iff hp).1 (by simpa using h2)
    by_cases h3 : (pre.map (·.id)).reverse.contains d.id = true
    · rw [if_pos h3]
      refine ⟨fun h => absurd h (by decide), fun hh => ?_⟩
      obtain ⟨_, _, h⟩ := hh
      have := h.sublist (hsub.map _)
      rw [List.map_append, List.nodup_append] at this
      have hm : d.id ∈ pre.map (·.id) := by simpa using h3
      exact absurd rfl (this.2.2 _ hm d.id (by simp))
    rw [if_neg h3]
    have h3 : d.id ∉ pre.map (·.id) := by simpa using h3
    have e1 : (d.id :: (pre.map (·.id)).reverse) = ((pre ++ [d]).map (·.id)).reverse := by simp
    have e2 : pre.length + 1 = (pre ++ [d]).length := by simp
    have e3 : pre ++ d :: l = pre ++ [d] ++ l := by simp
    rw [e1, e2, e3, ih]
    · simp only [List.mem_cons, forall_eq_or_imp]
      exact ⟨fun ⟨a, b, c⟩ => ⟨⟨h1, a⟩, b, c⟩, fun ⟨⟨_, a⟩, b, c⟩ => ⟨a, b, c⟩⟩
    · rw [List.pairwise_append]
      exact ⟨hp, by simp, fun x hx y hy => by simp at hy; subst hy; exact h2 x hx⟩
    · rw [List.map_append, List.nodup_append]
      refine ⟨hn, by simp, fun x hx y hy => ?_⟩
      simp at hy; subst hy
      exact fun e => h3 (e ▸ hx)

structure Good (t : Timers) : Prop where
  len : t.dues.length ≤ 100
  now0 : 0 ≤ t.now
  now1 : t.now ≤ 1099511627776
  tm : ∀ d ∈ t.dues, t.now < d.tm ∧ d.tm ≤ 2199023255552
  ord : t.dues.Pairwise lt
  ids : (t.dues.map (·.id)).Nodup

theorem check_iff {t : Timers} : checkT t = 0 ↔ Good t := by
  have hs := scan_iff t.now t.dues [] List.Pairwise.nil (by simp)
  simp only [List.nil_append, List.map_nil, List.reverse_nil, List.length_nil] at hs
  unfold checkT
  by_cases h1 : (t.dues.length : Int) > 100
  · rw [if_pos (by simpa using h1)]
    exact ⟨fun h => absurd h (by decide), fun h => by have := h.len; omega⟩
  rw [if_neg (by simpa using h1)]
  by_cases h2 : badNow t.now = true
  · rw [if_pos h2]
    refine ⟨fun h => absurd h (by decide), fun h => ?_⟩
    have h3 := h.now0
    have h4 := h.now1
    simp [badNow] at h2; omega
  rw [if_neg h2, hs]
  simp [badNow] at h2
  exact ⟨fun ⟨a, b, c⟩ => ⟨by omega, by omega, by omega, a, b, c⟩, fun h => ⟨h.tm, h.ord, h.ids⟩⟩

theorem rising_of {l : List Due} (h : l.Pairwise lt) (d : Due) : Rising (fun x => ordI x d) l := fun i j x y hij hx hy hn => by
  have hi := lt_of_get hx
  have hj := lt_of_get hy
  have := List.pairwise_iff_getElem.1 h i j hi hj hij
  rw [List.getElem?_eq_getElem hi] at hx
  rw [List.getElem?_eq_getElem hj] at hy
  cases hx; cases hy
  exact ord_neg.2 (lt_trans this (ord_neg.1 hn))
end Go.Proofs.Ytfjfiemcdnicoaa.P
