/- What a plan of jobs comes to, in plain lists. -/
import Derived.Test.YtjaghpkmbgcabaaP5
set_option linter.unusedSimpArgs false
set_option linter.unusedVariables false
namespace Go.Proofs.Ytjaghpkmbgcabaa.P
open Go.Ab

theorem todo_cons {j : Job} {l : List Job} (h : Todo (j :: l)) : 1 ≤ j.steps ∧ j.steps ≤ 10000 ∧ Todo l :=
  ⟨(h j List.mem_cons_self).1, (h j List.mem_cons_self).2, fun x hx => h x (List.mem_cons_of_mem _ hx)⟩

theorem sum_pos {l : List Job} (h : Todo l) (h0 : sumN l ≤ 0) : l = [] := by
  cases l with
  | nil => rfl
  | cons j l =>
    obtain ⟨h1, _⟩ := todo_cons h
    simp only [sumN] at h0; omega

/-- One turn, without the bounds of the numbers. -/
theorem plan_turn {fuel : Int} (hf : 1 ≤ fuel ∧ fuel ≤ 10000) {m : Nat} {j : Job} {l out : List Job} {now : Int} (htd : Todo (j :: l)) (h0 : 0 ≤ now) (h1 : now + sumN (j :: l) ≤ 1000000) :
    (j.steps > fuel ∧ planL fuel (m + 1) (j :: l) now out = planL fuel m (l ++ [⟨j.id, j.steps - fuel⟩]) (now + fuel) out ∧ Todo (l ++ [⟨j.id, j.steps - fuel⟩]) ∧ sumN (l ++ [⟨j.id, j.steps - fuel⟩]) + fuel.toNat = sumN (j :: l)) ∨
    (j.steps ≤ fuel ∧ planL fuel (m + 1) (j :: l) now out = planL fuel m l (now + j.steps) (out ++ [⟨j.id, now + j.steps⟩]) ∧ Todo l) := by
  obtain ⟨g1, g2, g3⟩ := todo_cons htd
  have hs : sumN (j :: l) = j.steps.toNat + sumN l := rfl
  have hw : IntKind.i64.wrap (j.steps - fuel) = j.steps - fuel := wrap_small (by omega) (by omega)
  by_cases hgt : j.steps > fuel
  · left
    have hm : minJ j.steps fuel = fuel := by unfold minJ; rw [if_pos hgt]
    have hn : IntKind.i64.wrap (now + minJ j.steps fuel) = now + fuel := by rw [hm]; exact wrap_small (by omega) (by omega)
    refine ⟨hgt, ?_, ?_, ?_⟩
    · rw [planL_more (by rw [hw]; simp; omega), hw, hn]
    · intro y hy
      rcases List.mem_append.1 hy with hy | hy
      · exact g3 y hy
      · simp only [List.mem_singleton] at hy; subst hy
        show 1 ≤ j.steps - fuel ∧ j.steps - fuel ≤ 10000
        omega
    · rw [sumN_append, hs]
      simp only [sumN]
      omega
  · right
    have hm : minJ j.steps fuel = j.steps := by unfold minJ; rw [if_neg (by omega)]
    have hn : IntKind.i64.wrap (now + minJ j.steps fuel) = now + j.steps := by rw [hm]; exact wrap_small (by omega) (by omega)
    refine ⟨by omega, ?_, g3⟩
    rw [planL_done (by rw [hw]; simp; omega), hn]

theorem planL_spec {fuel : Int} (hf : 1 ≤ fuel ∧ fuel ≤ 10000) : ∀ (m : Nat) (left : List Job) (now : Int) (out : List Job), sumN left ≤ m → Todo left → 0 ≤ now → now + sumN left ≤ 1000000 →
    ∃ tail, planL fuel m left now out = out ++ tail ∧ tail.length = left.length ∧ (tail.map Job.id).Perm (left.map Job.id) ∧ (∀ x, x ∈ tail → now < x.steps) ∧ tail.Pairwise (fun a b => a.steps < b.steps) ∧
      (left ≠ [] → ∃ x, tail[tail.length - 1]? = some x ∧ x.steps = now + sumN left) := by
  intro m
  induction m with
  | zero =>
    intro left now out hm htd _ _
    obtain rfl := sum_pos htd hm
    exact ⟨[], by simp [planL], rfl, List.Perm.refl _, fun x hx => (by cases hx), List.Pairwise.nil, fun h => absurd rfl h⟩
  | succ m ih =>
    intro left now out hm htd h0 h1
    cases left with
    | nil => exact ⟨[], by simp [planL], rfl, List.Perm.refl _, fun x hx => (by cases hx), List.Pairwise.nil, fun h => absurd rfl h⟩
    | cons j l =>
      obtain ⟨g1, g2, g3⟩ := todo_cons htd
      have hs : sumN (j :: l) = j.steps.toNat + sumN l := rfl
      rcases plan_turn (m := m) (out := out) hf htd h0 h1 with ⟨hgt, e, ht, hsum⟩ | ⟨hle, e, ht⟩
      · obtain ⟨tail, t1, t2, t3, t4, t5, t6⟩ := ih (l ++ [⟨j.id, j.steps - fuel⟩]) (now + fuel) out (by omega) ht (by omega) (by omega)
        refine ⟨tail, by rw [e, t1], by rw [t2]; simp, t3.trans ?_, fun x hx => by have := t4 x hx; omega, t5, fun _ => ?_⟩
        · rw [List.map_append]
          exact List.perm_append_comm
        · obtain ⟨x, hx1, hx2⟩ := t6 (by simp)
          exact ⟨x, hx1, by omega⟩
      · obtain ⟨tail, t1, t2, t3, t4, t5, t6⟩ := ih l (now + j.steps) (out ++ [⟨j.id, now + j.steps⟩]) (by omega) ht (by omega) (by omega)
        refine ⟨⟨j.id, now + j.steps⟩ :: tail, by rw [e, t1]; simp, by simp [t2], List.Perm.cons _ t3, fun x hx => ?_, List.Pairwise.cons (fun x hx => t4 x hx) t5, fun _ => ?_⟩
        · rcases List.mem_cons.1 hx with rfl | hx
          · show now < now + j.steps; omega
          · have := t4 x hx; omega
        · by_cases hl : l = []
          · subst hl
            have : tail = [] := List.length_eq_zero_iff.1 (by rw [t2]; rfl)
            subst this
            exact ⟨_, rfl, by show now + j.steps = _; rw [hs]; simp only [sumN]; omega⟩
          · obtain ⟨x, hx1, hx2⟩ := t6 hl
            have hne : tail.length ≠ 0 := by rw [t2]; exact fun h => hl (List.length_eq_zero_iff.1 h)
            refine ⟨x, ?_, by omega⟩
            obtain ⟨k, hk⟩ : ∃ k, tail.length = k + 1 := ⟨tail.length - 1, by omega⟩
            rw [hk] at hx1
            simp only [List.length_cons, hk, Nat.add_sub_cancel] at hx1 ⊢
            rw [List.getElem?_cons_succ]
            exact hx1

/-- One is done ahead of another one. -/
def Before (R : List Job) (a b : Int) : Prop := ∃ (i j : Nat) (x y : Job), i < j ∧ R[i]? = some x ∧ R[j]? = some y ∧ x.id = a ∧ y.id = b

theorem planL_order {fuel : Int} (hf : 1 ≤ fuel ∧ fuel ≤ 10000) : ∀ (m : Nat) (left : List Job) (now : Int) (out : List Job), sumN left ≤ m → Todo left → 0 ≤ now → now + sumN left ≤ 1000000 →
    ∀ (x y : Nat) (a b : Job), x < y → left[x]? = some a → left[y]? = some b → (a.steps ≤ b.steps → Before (planL fuel m left now out) a.id b.id) ∧ (b.steps + fuel ≤ a.steps → Before (planL fuel m left now out) b.id a.id) := by
  intro m
  induction m with
  | zero =>
    intro left now out hm htd _ _ x y a b _ ha
    obtain rfl := sum_pos htd hm
    simp at ha
  | succ m ih =>
    intro left now out hm htd h0 h1 x y a b hxy ha hb
    cases left with
    | nil => simp at ha
    | cons j l =>
      obtain ⟨g1, g2, g3⟩ := todo_cons htd
      have hs : sumN (j :: l) = j.steps.toNat + sumN l := rfl
      obtain ⟨y', rfl⟩ : ∃ y', y = y' + 1 := ⟨y - 1, by omega⟩
      rw [List.getElem?_cons_succ] at hb
      have hyl := lt_of_get hb
      rcases plan_turn (m := m) (out := out) hf htd h0 h1 with ⟨hgt, e, ht, hsum⟩ | ⟨hle, e, ht⟩
      · have ihh := ih (l ++ [⟨j.id, j.steps - fuel⟩]) (now + fuel) out (by omega) ht (by omega) (by omega)
        rw [e]
        have hb' : (l ++ [(⟨j.id, j.steps - fuel⟩ : Job)])[y']? = some b := by rw [List.getElem?_append_left hyl]; exact hb
        cases x with
        | zero =>
          simp only [List.getElem?_cons_zero, Option.some.injEq] at ha
          subst ha
          have hj' : (l ++ [(⟨j.id, j.steps - fuel⟩ : Job)])[l.length]? = some ⟨j.id, j.steps - fuel⟩ := by simp
          obtain ⟨q1, q2⟩ := ihh y' l.length b _ hyl hb' hj'
          exact ⟨fun h => q2 (by show j.steps - fuel + fuel ≤ b.steps; omega), fun h => q1 (by show b.steps ≤ j.steps - fuel; omega)⟩
        | succ x =>
          rw [List.getElem?_cons_succ] at ha
          exact ihh x y' a b (by omega) (by rw [List.getElem?_append_left (lt_of_get ha)]; exact ha) hb'
      · rw [e]
        cases x with
        | zero =>
          simp only [List.getElem?_cons_zero, Option.some.injEq] at ha
          subst ha
          have hb1 : 1 ≤ b.steps := (g3 b (List.mem_of_getElem? hb)).1
          refine ⟨fun _ => ?_, fun h => by omega⟩
          obtain ⟨tail, t1, t2, t3, t4, t5, t6⟩ := planL_spec hf m l (now + j.steps) (out ++ [⟨j.id, now + j.steps⟩]) (by omega) ht (by omega) (by omega)
          have hmem : b.id ∈ tail.map Job.id := t3.mem_iff.2 (List.mem_map_of_mem (List.mem_of_getElem? hb))
          obtain ⟨z, hz1, hz2⟩ := List.mem_map.1 hmem
          obtain ⟨k, hk⟩ := List.getElem?_of_mem hz1
          refine ⟨out.length, out.length + 1 + k, ⟨j.id, now + j.steps⟩, z, by omega, ?_, ?_, rfl, hz2⟩
          · rw [t1, List.getElem?_append_left (by simp), List.getElem?_append_right (Nat.le_refl _)]; simp
          · rw [t1, List.getElem?_append_right (by simp <;> omega)]
            rw [show out.length + 1 + k - (out ++ [(⟨j.id, now + j.steps⟩ : Job)]).length = k by simp]
            exact hk
        | succ x =>
          rw [List.getElem?_cons_succ] at ha
          exact ih l (now + j.steps) _ (by omega) ht (by omega) (by omega) x y' a b (by omega) ha hb

/-- How many turns so many steps take. -/
def rnd (fuel s : Int) : Int := (s + fuel - 1) / fuel

theorem rnd_pos {fuel s : Int} (hf : 1 ≤ fuel) (hs : 1 ≤ s) : 1 ≤ rnd fuel s := by
  unfold rnd
  rw [Int.le_ediv_iff_mul_le (by omega)]; omega

theorem rnd_less {fuel s : Int} (hf : 1 ≤ fuel) : rnd fuel (s - fuel) = rnd fuel s - 1 := by
  unfold rnd
  have := Int.add_mul_ediv_right (s + fuel - 1) (-1) (c := fuel) (by omega)
  rw [show s - fuel + fuel - 1 = s + fuel - 1 + -1 * fuel by omega, this]
  omega

theorem planL_lag {fuel : Int} (hf : 1 ≤ fuel ∧ fuel ≤ 10000) : ∀ (m : Nat) (left : List Job) (now : Int) (out : List Job), sumN left ≤ m → Todo left → 0 ≤ now → now + sumN left ≤ 1000000 →
    ∀ (p : Nat) (a : Job), left[p]? = some a → ∃ x, x ∈ planL fuel m left now out ∧ x.id = a.id ∧ x.steps ≤ now + (p + 1) * fuel + (rnd fuel a.steps - 1) * (left.length * fuel) := by
  intro m
  induction m with
  | zero =>
    intro left now out hm htd _ _ p a ha
    obtain rfl := sum_pos htd hm
    simp at ha
  | succ m ih =>
    intro left now out hm htd h0 h1 p a ha
    cases left with
    | nil => simp at ha
    | cons j l =>
      obtain ⟨g1, g2, g3⟩ := todo_cons htd
      have hs : sumN (j :: l) = j.steps.toNat + sumN l := rfl
      have ha1 : 1 ≤ a.steps := (htd a (List.mem_of_getElem? ha)).1
      have hr := rnd_pos hf.1 ha1
      rcases plan_turn (m := m) (out := out) hf htd h0 h1 with ⟨hgt, e, ht, hsum⟩ | ⟨hle, e, ht⟩
      · have ihh := ih (l ++ [⟨j.id, j.steps - fuel⟩]) (now + fuel) out (by omega) ht (by omega) (by omega)
        rw [e]
        have hlen : ((l ++ [(⟨j.id, j.steps - fuel⟩ : Job)]).length : Int) = ((j :: l).length : Int) := by simp
        rw [hlen] at ihh
        obtain ⟨C, hC⟩ : ∃ C, C = ((j :: l).length : Int) * fuel := ⟨_, rfl⟩
        rw [← hC] at ihh ⊢
        cases p with
        | zero =>
          simp only [List.getElem?_cons_zero, Option.some.injEq] at ha
          subst ha
          obtain ⟨x, x1, x2, x3⟩ := ihh l.length ⟨j.id, j.steps - fuel⟩ (by simp)
          refine ⟨x, x1, x2, ?_⟩
          rw [rnd_less hf.1] at x3
          have hC2 : C = ((l.length : Int) + 1) * fuel := by rw [hC]; simp
          rw [← hC2] at x3
          have e3 : (rnd fuel j.steps - 1 - 1) * C = (rnd fuel j.steps - 1) * C - C := by rw [Int.sub_mul _ 1 C, Int.one_mul]
          rw [e3] at x3
          have e4 : (((0 : Nat) : Int) + 1) * fuel = fuel := by simp
          rw [e4]
          omega
        | succ p =>
          rw [List.getElem?_cons_succ] at ha
          obtain ⟨x, x1, x2, x3⟩ := ihh p a (by rw [List.getElem?_append_left (lt_of_get ha)]; exact ha)
          refine ⟨x, x1, x2, ?_⟩
          have e4 : (((p + 1 : Nat) : Int) + 1) * fuel = ((p : Int) + 1) * fuel + fuel := by
            rw [Int.natCast_add, Int.add_mul _ 1 fuel]; simp
          rw [e4]
          omega
      · rw [e]
        obtain ⟨C, hC⟩ : ∃ C, C = ((j :: l).length : Int) * fuel := ⟨_, rfl⟩
        rw [← hC]
        have hC1 : (l.length : Int) * fuel + fuel = C := by
          rw [hC]
          show (l.length : Int) * fuel + fuel = ((l.length + 1 : Nat) : Int) * fuel
          rw [Int.natCast_add, Int.add_mul]; simp
        cases p with
        | zero =>
          simp only [List.getElem?_cons_zero, Option.some.injEq] at ha
          subst ha
          obtain ⟨tail, t1, _⟩ := planL_spec hf m l (now + j.steps) (out ++ [⟨j.id, now + j.steps⟩]) (by omega) ht (by omega) (by omega)
          refine ⟨⟨j.id, now + j.steps⟩, by rw [t1]; simp, rfl, ?_⟩
          show now + j.steps ≤ _
          have hCn : 0 ≤ C := by
            have : 0 ≤ (l.length : Int) * fuel := Int.mul_nonneg (Int.natCast_nonneg _) (by omega)
            omega
          have : 0 ≤ (rnd fuel j.steps - 1) * C := Int.mul_nonneg (by omega) hCn
          have e4 : (((0 : Nat) : Int) + 1) * fuel = fuel := by simp
          rw [e4]
          omega
        | succ p =>
          rw [List.getElem?_cons_succ] at ha
          obtain ⟨x, x1, x2, x3⟩ := ih l (now + j.steps) (out ++ [⟨j.id, now + j.steps⟩]) (by omega) ht (by omega) (by omega) p a ha
          refine ⟨x, x1, x2, ?_⟩
          have e4 : (((p + 1 : Nat) : Int) + 1) * fuel = ((p : Int) + 1) * fuel + fuel := by
            rw [Int.natCast_add, Int.add_mul _ 1 fuel]; simp
          rw [e4]
          have : (rnd fuel a.steps - 1) * ((l.length : Int) * fuel) ≤ (rnd fuel a.steps - 1) * C := Int.mul_le_mul_of_nonneg_left (by omega) (by omega)
          omega
end Go.Proofs.Ytjaghpkmbgcabaa.P
