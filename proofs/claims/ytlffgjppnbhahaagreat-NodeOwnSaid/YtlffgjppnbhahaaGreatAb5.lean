/- The operations that make no memory and write none: operands, arithmetic, tests, tuples, addresses, loads, lengths. No program is named here. -/
import Derived.Test.YtlffgjppnbhahaaGreatAb4
set_option linter.unusedSimpArgs false
set_option linter.unusedVariables false
set_option maxHeartbeats 1000000
namespace Go.Ab

/-- A constant cell. -/
def constC : Value → D
  | .slice none 0 0 => .nil
  | v => .p (.lit v)

/-- A constant. -/
def constD : Value → D
  | .slice none 0 0 => .nil
  | .agg vs => .agg (vs.toList.map constC)
  | v => .p (.lit v)

theorem V.constC {H : HV} {loc : Nat → Loc} {obs : List Ob} (v : Value) : V H loc obs v (constC v) := by
  unfold Ab.constC
  split
  · exact .nil
  · exact .p _ _ (.lit _)

theorem V.cells_const {H : HV} {loc : Nat → Loc} {obs : List Ob} (vs : Array Value) : V H loc obs (.agg vs) (.agg (vs.toList.map Ab.constC)) := by
  refine .agg vs _ (by simp) fun i v d h1 h2 => ?_
  rw [List.getElem?_map, Array.getElem?_toList, h1] at h2
  cases h2
  exact V.constC v

theorem V.constD {H : HV} {loc : Nat → Loc} {obs : List Ob} (v : Value) : V H loc obs v (constD v) := by
  unfold Ab.constD
  split
  · exact .nil
  · exact V.cells_const _
  · exact .p _ _ (.lit _)

/-- An operand. -/
def St.ev (st : St) : Operand → D
  | .tmp t => st.tm t
  | .const v => constD v
  | .func f => .fn f []
  | .global _ => .none

theorem Rel.ev {M : En} {H0 : HV} {w0 : World} {nt : Nat} {H : HV} {loc : Nat → Loc} {w : World} {st : St} {a : Act} (r : Rel M H0 w0 nt H loc w st a) (x : Operand) :
    V H loc st.ob (a.eval x) (st.ev x) := by
  cases x with
  | tmp t => exact r.tm t
  | const v => exact V.constD v
  | global g => exact .none _
  | func f => exact .fn f #[] [] rfl (fun i v d h1 h2 => by simp at h2)

theorem V.lit_inv {H : HV} {loc : Nat → Loc} {obs : List Ob} {v x : Value} (h : V H loc obs v (.p (.lit x))) : v = x := by
  cases h with
  | p v y h => cases h; rfl

abbrev iD (n : Int) : D := .p (.lit (.int .i64 n))
abbrev bD (b : Bool) : D := .p (.lit (.bool b))

/-- Whole numbers. -/
def intBin (op : BinOp) (k : IntKind) (a b : Int) (K : D → Prop) : Prop :=
  match op with
  | .add => K (.p (.lit (.int k (k.wrap (a + b)))))
  | .sub => K (.p (.lit (.int k (k.wrap (a - b)))))
  | .mul => K (.p (.lit (.int k (k.wrap (a * b)))))
  | .quo => b ≠ 0 ∧ K (.p (.lit (.int k (k.wrap (a.tdiv b)))))
  | .rem => b ≠ 0 ∧ K (.p (.lit (.int k (a.tmod b))))
  | .and => K (.p (.lit (.int k (bits .and k a b))))
  | .or => K (.p (.lit (.int k (bits .or k a b))))
  | .xor => K (.p (.lit (.int k (bits .xor k a b))))
  | .eql => K (bD (a == b))
  | .neq => K (bD (a != b))
  | .lss => K (bD (decide (a < b)))
  | .leq => K (bD (decide (a ≤ b)))
  | .gtr => K (bD (decide (a > b)))
  | .geq => K (bD (decide (a ≥ b)))
  | _ => False

/-- Cells of structs that '==' tells apart one by one. -/
def cellEq : List D → List D → Option Bool
  | [], [] => some true
  | .p (.lit (.int k a)) :: l, .p (.lit (.int k' b)) :: l' => if k = k' then (cellEq l l').map (a == b && ·) else none
  | .p (.lit (.string a)) :: l, .p (.lit (.string b)) :: l' => (cellEq l l').map (a == b && ·)
  | .p (.lit (.bool a)) :: l, .p (.lit (.bool b)) :: l' => (cellEq l l').map (a == b && ·)
  | _, _ => none

/-- What an operator answers. 'flatT t': a struct or array type whose cells are compared one by one. -/
def abin (flatT : TypeId → Bool) (op : BinOp) (t : TypeId) (x y : D) (K : D → Prop) : Prop :=
  match x, y with
  | .p (.lit (.int k a)), .p (.lit (.int k' b)) =>
    match op with
    | .shl => 0 ≤ b ∧ K (.p (.lit (.int k (k.wrap (a * 2 ^ (min b.toNat k.bits))))))
    | .shr => 0 ≤ b ∧ K (.p (.lit (.int k (a.fdiv (2 ^ (min b.toNat k.bits))))))
    | op => k = k' ∧ intBin op k a b K
  | .p (.lit (.string a)), .p (.lit (.string b)) =>
    match op with
    | .eql => K (bD (a.toList == b.toList))
    | .neq => K (bD (!(a.toList == b.toList)))
    | .add => ((a.size + b.size : Nat) : Int) ≤ 9223372036854775807 ∧ K (.p (.lit (.string (a ++ b))))
    | _ => False
  | _, _ => False

theorem abin_sound {P : Program} {flatT : TypeId → Bool} {op : BinOp} {t : TypeId} {x y : D} {K : D → Prop} (h : abin flatT op t x y K) {H : HV} {loc : Nat → Loc} {obs : List Ob} {vx vy : Value} (hx : V H loc obs vx x) (hy : V H loc obs vy y) (w : World) :
    ∃ v d, (binOp op t vx vy).run P w = .ok v w ∧ K d ∧ V H loc obs v d := by
  unfold abin at h
  split at h
  · rename_i k a k' b
    have := hx.lit_inv; subst this
    have := hy.lit_inv; subst this
    split at h
    · refine ⟨_, _, ?_, h.2, .p _ _ (.lit _)⟩
      simp [binOp, Op.shift, show ¬ b < 0 by omega]
    · refine ⟨_, _, ?_, h.2, .p _ _ (.lit _)⟩
      simp [binOp, Op.shift, show ¬ b < 0 by omega]
    · rename_i h1 h2
      obtain ⟨rfl, h⟩ := h
      cases op <;> simp only [intBin] at h
      case add => exact ⟨_, _, by simp [binOp, Op.intArith], h, .p _ _ (.lit _)⟩
      case sub => exact ⟨_, _, by simp [binOp, Op.intArith], h, .p _ _ (.lit _)⟩
      case mul => exact ⟨_, _, by simp [binOp, Op.intArith], h, .p _ _ (.lit _)⟩
      case quo => exact ⟨_, _, by simp [binOp, Op.intDiv, h.1], h.2, .p _ _ (.lit _)⟩
      case rem => exact ⟨_, _, by simp [binOp, Op.intDiv, h.1], h.2, .p _ _ (.lit _)⟩
      case and => exact ⟨.int k (bits .and k a b), _, by simp [binOp, Op.intBits]; rfl, h, .p _ _ (.lit _)⟩
      case or => exact ⟨.int k (bits .or k a b), _, by simp [binOp, Op.intBits]; rfl, h, .p _ _ (.lit _)⟩
      case xor => exact ⟨.int k (bits .xor k a b), _, by simp [binOp, Op.intBits]; rfl, h, .p _ _ (.lit _)⟩
      all_goals first
        | exact h.elim
        | exact ⟨_, _, by simp only [binOp, Op.intCmp, ne_eq, not_true_eq_false, if_false, Sem.run_pure], h, .p _ _ (.lit _)⟩
  · rename_i a b
    have := hx.lit_inv; subst this
    have := hy.lit_inv; subst this
    split at h
    · exact ⟨_, _, by simp only [binOp, Op.stringOp, Sem.run_pure], h, .p _ _ (.lit _)⟩
    · exact ⟨_, _, by simp only [binOp, Op.stringOp, Sem.run_pure], h, .p _ _ (.lit _)⟩
    · have := h.1
      refine ⟨.string (a ++ b), _, ?_, h.2, .p _ _ (.lit _)⟩
      simp only [binOp, Op.stringOp, IntKind.max, IntKind.signed, IntKind.bits]
      rw [if_neg (by simp; omega)]; rfl
    · exact h.elim
  · exact h.elim

end Go.Ab
