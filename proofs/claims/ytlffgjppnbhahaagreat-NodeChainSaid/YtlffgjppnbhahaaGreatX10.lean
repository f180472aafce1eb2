/- Nil checks, conversions, methods: each operation. No program is named here. -/
import Derived.Test.YtlffgjppnbhahaaGreatX9
set_option linter.unusedSimpArgs false
set_option linter.unusedVariables false
set_option maxHeartbeats 1000000
namespace Go.Cx

section
variable {P : Program} {orb : BinOp → CV → CV → Option CV} {ρ : Nat → Int} {loc : Lc} {s : St} {a : Act} {w : World} {o : Oper} {r : Out}

/-- What is said of a method. -/
structure MeOk (P : Program) (t : TypeId) (name : String) (f : FuncId) : Prop where
  ex : ∃ (i : TypeInfo) (d : TypeDesc) (m : Method), P.info? t = some i ∧ P.underlying t = some d ∧ i.methods.find? (·.name == name) = some m ∧ m.path.toList = [] ∧ m.func = some (f, isPtrD d)

theorem findMe_ok {name : String} {p : Bool} {f : FuncId} : ∀ {l : List Method}, findMe name p l = .ok f → ∃ m, l.find? (·.name == name) = some m ∧ m.path.toList = [] ∧ m.func = some (f, p)
  | [], h => by cases h
  | m :: l, h => by
    unfold findMe at h
    cases hn : (m.name == name) with
    | true =>
      rw [hn] at h
      obtain ⟨h1, h⟩ := R.if_ok.1 h
      obtain ⟨g, h2, h⟩ := R.bind_ok.1 h
      obtain ⟨h3, h⟩ := R.if_ok.1 h
      cases h
      refine ⟨m, by simp [hn], by simpa using h1, ?_⟩
      rw [R.of_ok.1 h2]
      have : g.2 = p := by simpa using h3
      rw [← this]
    | false =>
      rw [hn] at h
      obtain ⟨m', h1, h2⟩ := findMe_ok h
      exact ⟨m', by simp [hn, h1], h2⟩

theorem methodP_ok {t : TypeId} {name : String} {f : FuncId} (h : methodP P t name = .ok f) : MeOk P t name f := by
  obtain ⟨i, h1, h⟩ := R.bind_ok.1 h
  obtain ⟨d, h2, h⟩ := R.bind_ok.1 h
  obtain ⟨m, h3, h4⟩ := findMe_ok h
  refine ⟨i, d, m, R.of_ok.1 h1, R.of_ok.1 h2, ?_, h4⟩
  rw [← h3]
  simp

theorem run_method {t : TypeId} {name : String} {f : FuncId} (h : MeOk P t name f) (v : Value) (n : Nat) (w : World) : (method (n + 1) t v name).run P w = .ok (f, v) w := by
  obtain ⟨i, d, m, h1, h2, h3, h4, h5⟩ := h.ex
  unfold method
  rw [Sem.run_bind, show (typeInfo t).run P w = .ok i w by simp [typeInfo, h1]]
  simp only [Result.andThen_ok, h3, h4, follow, pure_bind, h5]
  rw [Sem.run_bind]
  have : (receiverAt t (.val v) (isPtrD d) (if m.path.isEmpty = true then some ((name.splitOn ".").getLastD name) else none)).run P w = .ok v w := by
    unfold receiverAt
    rw [Sem.run_bind, run_underlying h2]
    simp only [Result.andThen_ok]
    cases d <;> simp [isPtrD, Place.get]
  rw [this]
  rfl

theorem run_nilAhead {t : TypeId} {name : String} {f : FuncId} (h : MeOk P t name f) (v : Value) (n : Nat) (w : World) : (nilAhead (n + 1) t v name).run P w = .ok (some false) w := by
  obtain ⟨i, d, m, h1, h2, h3, h4, h5⟩ := h.ex
  unfold nilAhead
  rw [Sem.run_bind, show (typeInfo t).run P w = .ok i w by simp [typeInfo, h1]]
  simp only [Result.andThen_ok, h3, h4, followBlind, pure_bind, h5]
  cases hd : isPtrD d with
  | true => rfl
  | false =>
    rw [Sem.run_bind, run_underlying h2]
    simp only [Result.andThen_ok]
    cases d <;> first | rfl | (simp [isPtrD] at hd)

theorem o_nilCheck (hT : TmOk ρ loc s.tm a) (hM : Mem ρ loc s.hp.get w) {x : Operand} (ho : o.op = .nilCheck x) (h : execO P orb s o.op = .ok r) : OpPost ρ loc s w r ((execOp a.eval o).run P w) := by
  rw [ho] at h
  obtain ⟨v, h1, h⟩ := R.bind_ok.1 h
  obtain ⟨_, h2, h⟩ := R.bind_ok.1 h
  have hx := evO_ok hT h1
  refine OpPost.pure hM hx h ?_
  simp only [execOp, ho]
  cases v with
  | ptr id off =>
    simp only [V] at hx
    obtain ⟨p, _, hx⟩ := hx
    rw [hx]; rfl
  | ifc t x =>
    simp only [V] at hx
    obtain ⟨y, hx, _⟩ := hx
    rw [hx]; rfl
  | fn f fi ca =>
    simp only [V] at hx
    obtain ⟨b, c, hx, hb, _⟩ := hx
    rw [hx]
    cases f with
    | func g => rfl
    | method name =>
      simp only [nilOk] at h2
      split at h2
      · rename_i t x _
        obtain ⟨f, h3, h2⟩ := R.bind_ok.1 h2
        have hm := methodP_ok h3
        simp only [VL, V] at hb
        obtain ⟨y, l, hb1, ⟨u, hu, _⟩, hb2⟩ := hb
        have e0 : b[0]? = some (.iface t u) := by
          rw [← Array.getElem?_toList, hb1, hu]; rfl
        dsimp only
        rw [e0]
        have hn := run_nilAhead hm u (P.types.size + 99) w
        simp only [Sem.run_bind, run_program, Result.andThen_ok]
        rw [show P.types.size + Made.depth = P.types.size + 99 + 1 from rfl, hn]
        rfl
      · cases h2
    | _ => cases h2
  | _ => cases h2

end

end Go.Cx
