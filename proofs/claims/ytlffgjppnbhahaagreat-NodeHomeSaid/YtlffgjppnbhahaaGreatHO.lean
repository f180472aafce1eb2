/- An oracle by what is known of each symbol: bounds, and numbers that it is not. -/
import Derived.Test.YtlffgjppnbhahaaGreatWB
set_option linter.unusedSimpArgs false
set_option linter.unusedVariables false
set_option maxHeartbeats 1000000
namespace Go.Cx

/-- What is known of a number. -/
structure Kn where
  lo : Int
  hi : Int
  ex : List Int

def Kn.fits (k : Kn) (v : Int) : Prop := k.lo ≤ v ∧ v ≤ k.hi ∧ ∀ x, x ∈ k.ex → v ≠ x

def Kn.eq (k : Kn) (m : Int) : Option Bool :=
  bif decide (m < k.lo) || decide (k.hi < m) || k.ex.any (fun x => decide (x = m)) then some false
  else bif decide (k.lo = m) && decide (k.hi = m) then some true else none

def Kn.lt (k : Kn) (m : Int) : Option Bool :=
  bif decide (k.hi < m) then some true else bif decide (m ≤ k.lo) then some false else none

def Kn.gt (k : Kn) (m : Int) : Option Bool :=
  bif decide (m < k.lo) then some true else bif decide (k.hi ≤ m) then some false else none

theorem Kn.eq_ok {k : Kn} {v m : Int} (h : k.fits v) {q : Bool} (hq : k.eq m = some q) : (v == m) = q := by
  obtain ⟨h1, h2, h3⟩ := h
  unfold Kn.eq at hq
  cases hc : (decide (m < k.lo) || decide (k.hi < m) || k.ex.any (fun x => decide (x = m))) with
  | true =>
    rw [hc] at hq
    cases hq
    simp only [Bool.or_eq_true, decide_eq_true_eq, List.any_eq_true] at hc
    have : v ≠ m := by
      rcases hc with (hc | hc) | ⟨x, hx, hc⟩
      · omega
      · omega
      · subst hc; exact h3 x hx
    simpa using this
  | false =>
    rw [hc, cond_false] at hq
    cases hd : (decide (k.lo = m) && decide (k.hi = m)) with
    | true =>
      rw [hd] at hq
      cases hq
      simp only [Bool.and_eq_true, decide_eq_true_eq] at hd
      have : v = m := by omega
      simpa using this
    | false => rw [hd] at hq; cases hq

theorem Kn.lt_ok {k : Kn} {v m : Int} (h : k.fits v) {q : Bool} (hq : k.lt m = some q) : decide (v < m) = q := by
  obtain ⟨h1, h2, h3⟩ := h
  unfold Kn.lt at hq
  cases hc : decide (k.hi < m) with
  | true =>
    rw [hc] at hq
    cases hq
    have hc : k.hi < m := by simpa using hc
    simp; omega
  | false =>
    rw [hc, cond_false] at hq
    cases hd : decide (m ≤ k.lo) with
    | true =>
      rw [hd] at hq
      cases hq
      have hd : m ≤ k.lo := by simpa using hd
      simp; omega
    | false => rw [hd] at hq; cases hq

theorem Kn.gt_ok {k : Kn} {v m : Int} (h : k.fits v) {q : Bool} (hq : k.gt m = some q) : decide (v > m) = q := by
  obtain ⟨h1, h2, h3⟩ := h
  unfold Kn.gt at hq
  cases hc : decide (m < k.lo) with
  | true =>
    rw [hc] at hq
    cases hq
    have hc : m < k.lo := by simpa using hc
    simp; omega
  | false =>
    rw [hc, cond_false] at hq
    cases hd : decide (k.hi ≤ m) with
    | true =>
      rw [hd] at hq
      cases hq
      have hd : k.hi ≤ m := by simpa using hd
      simp; omega
    | false => rw [hd] at hq; cases hq

def bo (o : Option Bool) (neg : Bool) : Option CV :=
  match o with
  | some q => some (.lit (.bool (bif neg then !q else q)))
  | none => none

/-- A symbol beside a literal, or itself. -/
def symLit (x y : CV) (f : Nat → Int → Option CV) : Option CV :=
  match x with
  | .sym n => match y with
    | .lit (.int k m) => bif decide (k = kd n) then f n m else none
    | _ => none
  | _ => none

def symSym (x y : CV) (c : CV) (f : Option CV) : Option CV :=
  match x with
  | .sym n => match y with
    | .sym m => bif Nat.beq n m then some c else none
    | _ => f
  | _ => f

/-- The oracle; 'd' and 'r': what symbol 1 leaves behind a division. -/
def orK (K : Nat → Kn) (d r : Int) (op : BinOp) (x y : CV) : Option CV :=
  match op with
  | .andNot => match x with
    | .sym n => match y with
      | .lit (.int .u64 _) => bif Nat.beq n 0 then some (.sym 1) else none
      | _ => none
    | _ => none
  | .rem => symLit x y fun n m => bif Nat.beq n 1 && decide (m = d) then some (.lit (.int .u64 r)) else none
  | .eql => symSym x y (.lit (.bool true)) (match x with
    | .sym _ => symLit x y fun n m => bo ((K n).eq m) false
    | _ => symLit y x fun n m => bo ((K n).eq m) false)
  | .neq => symSym x y (.lit (.bool false)) (match x with
    | .sym _ => symLit x y fun n m => bo ((K n).eq m) true
    | _ => symLit y x fun n m => bo ((K n).eq m) true)
  | .lss => symLit x y fun n m => bo ((K n).lt m) false
  | .geq => symLit x y fun n m => bo ((K n).lt m) true
  | .gtr => symLit x y fun n m => bo ((K n).gt m) false
  | .leq => symLit x y fun n m => bo ((K n).gt m) true
  | _ => none

theorem symLit_ok {x y v : CV} {f : Nat → Int → Option CV} (h : symLit x y f = some v) : ∃ n m, x = .sym n ∧ y = .lit (.int (kd n) m) ∧ f n m = some v := by
  unfold symLit at h
  split at h
  · rename_i n
    split at h
    · rename_i k m
      cases hk : decide (k = kd n) with
      | true =>
        rw [hk] at h
        have : k = kd n := by simpa using hk
        subst this
        exact ⟨n, m, rfl, rfl, h⟩
      | false => rw [hk] at h; cases h
    · cases h
  · cases h

theorem bo_ok {o : Option Bool} {neg : Bool} {v : CV} (h : bo o neg = some v) : ∃ q, o = some q ∧ v = .lit (.bool (bif neg then !q else q)) := by
  unfold bo at h
  split at h
  · cases h; exact ⟨_, rfl, rfl⟩
  · cases h

theorem orK_ok {ρ : Nat → Int} {K : Nat → Kn} {d r : Int} (hK : ∀ n, (K n).fits (ρ n)) (h1 : ρ 1 = IntKind.u64.wrap (ρ 0)) (hd : d ≠ 0) (hr : (ρ 1).tmod d = r) : OraOk ρ (orK K d r) := by
  intro op x y v h
  have fin : (∃ k a b v', ival ρ x = some (k, a) ∧ ival ρ y = some (k, b) ∧ VS ρ v v' ∧ intB op k a b = .ok v') → op ≠ .andNot →
      (op ≠ .andNot → ∃ k a b v', ival ρ x = some (k, a) ∧ ival ρ y = some (k, b) ∧ VS ρ v v' ∧ intB op k a b = .ok v') ∧ (op = .andNot → ∃ n k m, x = .sym n ∧ y = .lit (.int k m) ∧ VS ρ v (.int k (k.wrap (ρ n)))) := fun a b => ⟨fun _ => a, fun e => (b e).elim⟩
  have eqs : ∀ (neg : Bool) (x y v : CV), symSym x y (.lit (.bool (!neg))) (match x with
    | .sym _ => symLit x y fun n m => bo ((K n).eq m) neg
    | _ => symLit y x fun n m => bo ((K n).eq m) neg) = some v → ∃ k a b, ival ρ x = some (k, a) ∧ ival ρ y = some (k, b) ∧ v = .lit (.bool (bif neg then !(a == b) else (a == b))) := by
    intro neg x y v h
    have one : ∀ {x y : CV}, (symLit x y fun n m => bo ((K n).eq m) neg) = some v → ∃ n m, x = .sym n ∧ y = .lit (.int (kd n) m) ∧ v = .lit (.bool (bif neg then !(ρ n == m) else (ρ n == m))) := fun g => by
      obtain ⟨n, m, rfl, rfl, g2⟩ := symLit_ok g
      obtain ⟨q, hq, rfl⟩ := bo_ok g2
      have := Kn.eq_ok (hK n) hq
      exact ⟨n, m, rfl, rfl, by rw [this]⟩
    unfold symSym at h
    split at h
    · rename_i n
      split at h
      · rename_i m
        cases hn : Nat.beq n m with
        | true =>
          rw [hn] at h
          cases h
          have := Nat.eq_of_beq_eq_true hn
          subst this
          refine ⟨kd n, ρ n, ρ n, rfl, rfl, ?_⟩
          cases neg <;> simp
        | false => rw [hn] at h; cases h
      · obtain ⟨n', m, e1, e2, e3⟩ := one h
        cases e1
        subst e2 e3
        exact ⟨kd n, ρ n, m, rfl, rfl, rfl⟩
    · rename_i hx
      split at h
      · rename_i n; exact (hx n rfl).elim
      · obtain ⟨n', m, e1, e2, e3⟩ := one h
        subst e1 e2 e3
        refine ⟨kd n', m, ρ n', rfl, rfl, ?_⟩
        have : (ρ n' == m) = (m == ρ n') := by rw [Bool.eq_iff_iff]; simp only [beq_iff_eq]; exact eq_comm
        rw [this]
  unfold orK at h
  split at h
  · split at h
    · rename_i k
      split at h
      · rename_i m
        cases hk : Nat.beq k 0 with
        | false => rw [hk] at h; cases h
        | true =>
          rw [hk] at h
          cases h
          have := Nat.eq_of_beq_eq_true hk
          subst this
          exact ⟨fun hne => (hne rfl).elim, fun _ => ⟨0, .u64, m, rfl, rfl, .inr ⟨1, rfl, by rw [h1]; rfl⟩⟩⟩
      · cases h
    · cases h
  · obtain ⟨n, m, rfl, rfl, g⟩ := symLit_ok h
    clear h
    have h := g
    clear g
    cases hk : (Nat.beq n 1 && decide (m = d)) with
    | false => rw [hk] at h; cases h
    | true =>
      rw [hk] at h
      cases h
      rw [Bool.and_eq_true] at hk
      have e1 := Nat.eq_of_beq_eq_true hk.1
      have e2 : m = d := by simpa using hk.2
      subst e1 e2
      refine fin ⟨.u64, ρ 1, m, _, rfl, rfl, .inl rfl, ?_⟩ (by simp)
      have hdb : (m != 0) = true := by simpa using hd
      simp only [intB]
      rw [hdb, hr]
      rfl
  · obtain ⟨k, a, b, e1, e2, rfl⟩ := eqs false x y v h
    exact fin ⟨k, a, b, _, e1, e2, .inl rfl, rfl⟩ (by simp)
  · obtain ⟨k, a, b, e1, e2, rfl⟩ := eqs true x y v h
    exact fin ⟨k, a, b, _, e1, e2, .inl rfl, rfl⟩ (by simp)
  · obtain ⟨n, m, rfl, rfl, g⟩ := symLit_ok h
    clear h
    obtain ⟨q, hq, rfl⟩ := bo_ok g
    have := Kn.lt_ok (hK n) hq
    exact fin ⟨_, _, _, _, rfl, rfl, .inl rfl, by simp only [intB, this, cond_false]⟩ (by simp)
  · obtain ⟨n, m, rfl, rfl, g⟩ := symLit_ok h
    clear h
    obtain ⟨q, hq, rfl⟩ := bo_ok g
    have := Kn.lt_ok (hK n) hq
    refine fin ⟨_, _, _, _, rfl, rfl, .inl rfl, ?_⟩ (by simp)
    have e : decide (ρ n ≥ m) = !decide (ρ n < m) := by rw [Bool.eq_iff_iff]; simp
    simp only [intB, e, this, cond_true]
  · obtain ⟨n, m, rfl, rfl, g⟩ := symLit_ok h
    clear h
    obtain ⟨q, hq, rfl⟩ := bo_ok g
    have := Kn.gt_ok (hK n) hq
    exact fin ⟨_, _, _, _, rfl, rfl, .inl rfl, by simp only [intB, this, cond_false]⟩ (by simp)
  · obtain ⟨n, m, rfl, rfl, g⟩ := symLit_ok h
    clear h
    obtain ⟨q, hq, rfl⟩ := bo_ok g
    have := Kn.gt_ok (hK n) hq
    refine fin ⟨_, _, _, _, rfl, rfl, .inl rfl, ?_⟩ (by simp)
    have e : decide (ρ n ≤ m) = !decide (ρ n > m) := by rw [Bool.eq_iff_iff]; simp
    simp only [intB, e, this, cond_true]
  · cases h

/-- All 64-bit numbers. -/
def big : Kn := ⟨-9223372036854775808, 9223372036854775807, []⟩
def just (n : Int) : Kn := ⟨n, n, []⟩

end Go.Cx
