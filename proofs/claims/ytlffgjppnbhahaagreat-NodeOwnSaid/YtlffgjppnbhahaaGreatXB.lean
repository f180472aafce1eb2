/- Texts joined: X13, X14, X15, X16, X17, X18, X19, X20, X21, X22, X23, X24. -/
import Derived.Test.YtlffgjppnbhahaaGreatXA
import Derived.MapKept
import Derived.Deep.AppendSrc
import Derived.LoopN
import Derived.Tactics
import Derived.Orders
set_option linter.unusedSimpArgs false
set_option linter.unusedVariables false
set_option maxHeartbeats 1000000
/- Conversions and maps: each operation. No program is named here. -/
namespace Go.Cx
open Go.MapKept (run_getObj_map run_setObj_map run_findKey bytes_beq heap_set)

section
variable {P : Program} {orb : BinOp → CV → CV → Option CV} {ρ : Env} {loc loc' : Lc} {s : St} {a : Act} {w : World} {o : Oper} {r : Out}

theorem bytesOf_ok : ∀ {cs : List CV} {l : List UInt8} {vs : List Value}, bytesOf cs = .ok l → VL ρ loc cs vs → ∃ ns : List Nat, vs = (ns.map fun n => Value.int .u8 (Int.ofNat n)) ∧ l = ns.map UInt8.ofNat
  | [], l, vs, h, hv => by cases h; cases hv; exact ⟨[], rfl, rfl⟩
  | c :: cs, l, vs, h, hv => by
    unfold bytesOf at h
    split at h
    · rename_i n
      obtain ⟨l', h1, h⟩ := R.bind_ok.1 h
      cases h
      simp only [VL, V] at hv
      obtain ⟨u, us, rfl, rfl, hv⟩ := hv
      obtain ⟨ns, rfl, rfl⟩ := bytesOf_ok h1 hv
      exact ⟨n :: ns, rfl, rfl⟩
    · cases h

theorem push_all : ∀ (ns : List Nat) (b : Array UInt8), ((ns.map fun n => Int.ofNat n).foldl (fun r n => r.push (UInt8.ofNat n.toNat)) (ByteArray.mk b)) = ⟨b ++ (ns.map UInt8.ofNat).toArray⟩
  | [], b => by simp
  | n :: ns, b => by
    simp only [List.map_cons, List.foldl_cons]
    have : (ByteArray.mk b).push (UInt8.ofNat (Int.ofNat n).toNat) = ⟨b.push (UInt8.ofNat n)⟩ := rfl
    rw [this, push_all ns]
    congr 1
    apply Array.ext'
    simp

theorem o_convert (hO : OraOk ρ orb) (hT : TmOk ρ loc s.tm a) (hM : Mem ρ loc s.hp.get w) {t d : TypeId} {x : Operand} (ho : o.op = .convert t d x) (h : execO P orb s o.op = .ok r) : OpPost ρ loc s w r ((execOp a.eval o).run P w) := by
  rw [ho] at h
  obtain ⟨j, h1, g1⟩ := R.bind_ok.1 h
  obtain ⟨i, h2, g2⟩ := R.bind_ok.1 g1
  obtain ⟨v, h3, g3⟩ := R.bind_ok.1 g2
  clear h g1 g2
  have h := g3
  clear g3
  have hx := evO_ok hT h3
  have hj := (tiOf_ok h1).underlying w
  have hi := (tiOf_ok h2).underlying w
  split at h
  · rename_i k n
    split at h
    · rename_i k' hd
      rw [hd] at hi
      simp only [V] at hx
      refine OpPost.pure (v' := .int k' (k'.wrap n)) hM (by simp [V]) h ?_
      simp only [execOp, ho, hx]
      rw [run_val]
      unfold Go.convert
      rw [Sem.run_bind, hj]
      simp only [Result.andThen_ok]
      rw [Sem.run_bind, hi]
      rfl
    · cases h
  · rename_i n
    split at h
    · rename_i k' hd
      rw [hd] at hi
      obtain ⟨u, e1, h⟩ := R.bind_ok.1 h
      obtain ⟨n', k, m, e2, e3, e4⟩ := (hO _ _ _ _ (R.of_ok.1 e1)).2 rfl
      cases e2
      cases e3
      simp only [V] at hx
      refine OpPost.pure hM e4.v h ?_
      simp only [execOp, ho, hx]
      rw [run_val]
      unfold Go.convert
      rw [Sem.run_bind, hj]
      simp only [Result.andThen_ok]
      rw [Sem.run_bind, hi]
      rfl
    · cases h
  · rename_i id st off len cap ex
    split at h
    · rename_i hd
      obtain ⟨e, e1, h⟩ := R.bind_ok.1 h
      obtain ⟨k, e2, h⟩ := R.bind_ok.1 h
      split at h
      · rename_i hk
        obtain ⟨e3, h⟩ := R.if_ok.1 h
        obtain ⟨xs, e4, h⟩ := R.bind_ok.1 h
        obtain ⟨cs, e5, h⟩ := R.bind_ok.1 h
        obtain ⟨l, e6, h⟩ := R.bind_ok.1 h
        have e3 : st = 1 := Nat.eq_of_beq_eq_true e3
        subst e3
        have hje : j.desc = .slice e := by
          unfold elemD at e1
          split at e1
          · rename_i hd'; cases e1; exact hd'
          · cases e1
        simp only [V] at hx
        obtain ⟨p, ad, c, hp, hx, hc1, hc2, hc3, hc4⟩ := hx
        obtain ⟨q, hq, hh⟩ := hM.cells e4
        rw [hp] at hq; cases hq
        obtain ⟨vs, f1, f2, f3⟩ := hh.cut e5
        obtain ⟨ns, rfl, rfl⟩ := bytesOf_ok e6 f1
        have hl : (loadCells ad len).run P w = .ok ((ns.map fun n => Int.ofNat n).map (Value.int .u8)).toArray w := by
          have hm : (ns.map fun n => Int.ofNat n).map (Value.int .u8) = ns.map fun n => Value.int .u8 (Int.ofNat n) := by rw [List.map_map]; rfl
          rw [hm]
          rcases hc4 with h0 | ⟨h0, _⟩
          · have : len = 0 := by omega
            subst this
            have : ns = [] := by simpa using f2
            subst this
            rfl
          · rw [h0]
            exact run_cells f2 f3
        refine OpPost.pure (v' := .string ⟨(ns.map UInt8.ofNat).toArray⟩) hM (by simp [V]) h ?_
        obtain ⟨_, _, _, u1, _⟩ := (tiOf_ok h1).ex
        obtain ⟨_, _, _, u2, _⟩ := (tiOf_ok h2).ex
        obtain ⟨_, _, _, u3, _⟩ := (tiOf_ok e2).ex
        rw [hje] at u1
        rw [hd] at u2
        rw [hk] at u3
        simp only [execOp, ho, hx]
        rw [run_val, run_convert_bytes_string w t d e _ _ _ u1 u3 u2, run_bytesToString w ad len c _ hl]
        have := push_all ns #[]
        simp only [Array.empty_append] at this
        rw [show ByteArray.empty = ByteArray.mk #[] from rfl, this]
        rfl
      · cases h
    · cases h
  · cases h

/-- Entries, one for one. -/
def EL (ρ : Env) (loc : Lc) : List ME → List MapEntry → Prop
  | [], l => l = []
  | x :: es, l => ∃ y l', l = y :: l' ∧ V ρ loc x.k y.key ∧ V ρ loc x.v y.val ∧ y.born = x.b ∧ EL ρ loc es l'

theorem EL.iff : ∀ {es : List ME} {l : List MapEntry}, EL ρ loc es l ↔ l.length = es.length ∧ ∀ (i : Nat) x, es[i]? = some x → ∃ y, l[i]? = some y ∧ V ρ loc x.k y.key ∧ V ρ loc x.v y.val ∧ y.born = x.b
  | [], l => by
    simp only [EL]
    constructor
    · rintro rfl; exact ⟨rfl, fun i x h => by simp at h⟩
    · rintro ⟨h, _⟩; exact List.length_eq_zero_iff.1 h
  | x :: es, l => by
    simp only [EL]
    constructor
    · rintro ⟨y, l', rfl, h1, h2, h3, h4⟩
      obtain ⟨h5, h6⟩ := EL.iff.1 h4
      refine ⟨by simp [h5], fun i => ?_⟩
      cases i with
      | zero => rintro x' h; simp at h; subst h; exact ⟨y, rfl, h1, h2, h3⟩
      | succ i => rintro x' h; simp at h; simpa using h6 i x' h
    · rintro ⟨h, h'⟩
      cases l with
      | nil => simp at h
      | cons y l =>
        obtain ⟨y', e, h1, h2, h3⟩ := h' 0 x rfl
        simp at e; subst e
        exact ⟨y, l, rfl, h1, h2, h3, EL.iff.2 ⟨by simpa using h, fun i x' hx => by simpa using h' (i + 1) x' (by simpa using hx)⟩⟩

theorem Holds.el {p : Pl} {es : List ME} {c : Nat} (h : Holds ρ loc w p (.map es c)) : ∃ a : Array MapEntry, w.heap[p.b]? = some (.map a c) ∧ EL ρ loc es a.toList := by
  obtain ⟨a, h1, h2, h3⟩ := h
  exact ⟨a, h1, EL.iff.2 ⟨by simpa using h2, fun i x hx => by simpa using h3 i x hx⟩⟩

theorem Holds.of_el {p : Pl} {es : List ME} {c : Nat} {a : Array MapEntry} (h : w.heap[p.b]? = some (.map a c)) (he : EL ρ loc es a.toList) : Holds ρ loc w p (.map es c) := by
  obtain ⟨h2, h3⟩ := EL.iff.1 he
  exact ⟨a, h, by simpa using h2, fun i x hx => by simpa using h3 i x hx⟩

theorem keyI_ok {t : TypeId} {ki : TI × TypeId} (h : keyI P t = .ok ki) : ∃ (i : TI) (kt : TypeId), TOk P t i ∧ i.desc = .map kt ki.2 ∧ TOk P kt ki.1 := by
  obtain ⟨i, h1, h⟩ := R.bind_ok.1 h
  obtain ⟨ke, h2, h⟩ := R.bind_ok.1 h
  obtain ⟨k, h3, h⟩ := R.bind_ok.1 h
  cases h
  refine ⟨i, ke.1, tiOf_ok h1, ?_, tiOf_ok h3⟩
  unfold mapD at h2
  split at h2
  · rename_i hd; cases h2; exact hd
  · cases h2

theorem TOk.und {t : TypeId} {i : TI} (h : TOk P t i) : P.underlying t = some i.desc := by
  obtain ⟨_, _, _, u, _⟩ := h.ex
  exact u

theorem key_checked {kt : TypeId} {ki : TI} (hi : TOk P kt ki) {c : CV} (hk : isKey ki.desc c = true) {k : Value} (hv : V ρ loc c k) (e : Bool) (n : Nat) : (Instr.checkKey e (n + 1) kt k).run P w = .ok () w := by
  unfold Instr.checkKey
  rw [Sem.run_bind, hi.underlying w]
  simp only [Result.andThen_ok]
  unfold isKey at hk
  split at hk
  · simp only [V] at hv
    subst hv
    split at hk
    · rename_i hd; rw [hd]; split at hk
      · rfl
      · cases hk
    · rename_i hd; rw [hd]; split at hk
      · rfl
      · cases hk
    · cases hk
  · simp only [V] at hv
    subst hv
    split at hk
    · rename_i hd; rw [hd]; rfl
    · cases hk
  · cases hk

/-- Keys are compared as they are told. -/
theorem keyEq_ok (hO : OraOk ρ orb) {d : TypeDesc} {x y : CV} {q : Bool} (h : keyEq orb x y = .ok q) (hk : isKey d x = true) {u v : Value} (h1 : V ρ loc x u) (h2 : V ρ loc y v) : Instr.sameNow d u v = some q ∧ (q = true → u = v) := by
  have ora : (∃ k, d = .int k) → ∀ r, orb .eql x y = some (.lit (.bool r)) → Instr.sameNow d u v = some r ∧ (r = true → u = v) := fun ⟨k, hd⟩ r hr => by
    obtain ⟨k1, p, q, v', e1, e2, e3, e4⟩ := (hO _ _ _ _ hr).1 (by simp)
    have e3 : v' = .bool r := by
      rcases e3 with e3 | ⟨_, e3, _⟩
      · cases e3; rfl
      · cases e3
    subst e3
    have e5 := ival_ok e1 h1
    have e6 := ival_ok e2 h2
    subst e5 e6 hd
    simp only [intB] at e4
    cases e4
    refine ⟨by simp [Instr.sameNow], fun h => ?_⟩
    simp at h; rw [h]
  unfold keyEq at h
  split at h
  · rename_i a0
    simp only [V] at h1
    split at h
    · rename_i b0
      simp only [V] at h2
      split at h
      · rename_i k n
        split at h
        · rename_i k' m
          obtain ⟨e1, h⟩ := R.if_ok.1 h
          cases h
          have e1 : k = k' := by simpa using e1
          subst e1 h1 h2
          cases d <;> simp_all [isKey, Instr.sameNow]
        · cases h
      · split at h
        · cases h
          subst h1 h2
          cases d <;> simp_all [isKey, Instr.sameNow, bytes_beq]
        · cases h
      · cases h
    · rename_i m
      split at h
      · rename_i r hr
        cases h
        refine ora ?_ _ hr
        obtain ⟨k1, p, q, v', e1, e2, e3, e4⟩ := (hO _ _ _ _ hr).1 (by simp)
        have e5 := ival_ok (loc := loc) e1 (v := a0) (by simp [V])
        subst e5
        cases d <;> simp_all [isKey]
      · cases h
    · cases h
  · rename_i n
    have hd : ∃ k, d = .int k := by cases d <;> simp_all [isKey]
    split at h
    · rename_i m
      cases hn : Nat.beq n m with
      | true =>
        rw [hn] at h
        cases h
        have := Nat.eq_of_beq_eq_true hn
        subst this
        simp only [V] at h1 h2
        obtain ⟨k, rfl⟩ := hd
        subst h1 h2
        simp [Instr.sameNow]
      | false =>
        rw [hn, cond_false] at h
        split at h
        · rename_i r hr
          cases h
          exact ora hd _ hr
        · cases h
    · split at h
      · rename_i r hr
        cases h
        exact ora hd _ hr
      · cases h
    · cases h
  · cases h

theorem find_ok (hO : OraOk ρ orb) {d : TypeDesc} {x : CV} (hk : isKey d x = true) {u : Value} (hu : V ρ loc x u) : ∀ {es : List ME} {l : List MapEntry} {f : Option (Nat × CV)} (n : Nat), findM orb x es = .ok f → EL ρ loc es l →
    (f = none ∧ Instr.findNow d u l n = some none) ∨ ∃ j c e, f = some (j, c) ∧ l[j]? = some e ∧ Instr.findNow d u l n = some (some (n + j, e.val)) ∧ V ρ loc c e.val ∧ e.key = u ∧ es[j]?.map (·.v) = some c
  | [], l, f, n, h, he => by
    cases h; cases he
    exact .inl ⟨rfl, rfl⟩
  | x' :: es, l, f, n, h, he => by
    obtain ⟨q, h1, h⟩ := R.bind_ok.1 h
    obtain ⟨y, l', rfl, e1, e2, e3, e4⟩ := he
    obtain ⟨s1, s2⟩ := keyEq_ok hO h1 hk hu e1
    cases q with
    | true =>
      cases h
      exact .inr ⟨0, _, y, rfl, rfl, by simp [Instr.findNow, s1], e2, (s2 rfl).symm, rfl⟩
    | false =>
      obtain ⟨f', h2, h⟩ := R.bind_ok.1 h
      cases h
      rcases find_ok hO hk hu (n + 1) h2 e4 with ⟨rfl, h3⟩ | ⟨j, c, e, rfl, h3, h4, h5, h6, h7⟩
      · exact .inl ⟨rfl, by simp [Instr.findNow, s1, h3]⟩
      · exact .inr ⟨j + 1, c, e, rfl, by simpa using h3, by simp [Instr.findNow, s1, h4]; omega, h5, h6, by simpa using h7⟩

theorem zeroV_ok {t : TypeId} {i : TI} (hi : TOk P t i) {z : CV} (h : zeroV i = .ok z) : ∃ z', (zeroValue t).run P w = .ok z' w ∧ V ρ loc z z' := by
  obtain ⟨f, z', h1, h2, h3, h4, h5, h6, h7, h8, h9⟩ := hi.ex
  refine ⟨z', by simp [zeroValue, typeInfo, h1, h3], ?_⟩
  unfold zeroV at h
  cases ha : i.agg with
  | true =>
    rw [ha] at h h9
    cases h
    cases z' <;> simp [isAggV] at h9
    simp only [V]
    exact ⟨_, rfl, by rw [h6]; exact VL.lits _⟩
  | false =>
    rw [ha] at h h9
    have h := R.of_ok.1 h
    have : z'.cells = #[z'] := by cases z' <;> first | rfl | simp [isAggV] at h9
    rw [h6, this] at h
    simp [lits] at h
    subst h
    simp [V]

theorem o_lookup (hO : OraOk ρ orb) (hT : TmOk ρ loc s.tm a) (hM : Mem ρ loc s.hp.get w) {t : TypeId} {m k : Operand} {ok : Bool} (ho : o.op = .lookup t m k ok) (h : execO P orb s o.op = .ok r) : OpPost ρ loc s w r ((execOp a.eval o).run P w) := by
  rw [ho] at h
  obtain ⟨ki, h1, g1⟩ := R.bind_ok.1 h
  obtain ⟨ei, h2, g2⟩ := R.bind_ok.1 g1
  obtain ⟨mv, h3, g3⟩ := R.bind_ok.1 g2
  obtain ⟨kv, h4, g4⟩ := R.bind_ok.1 g3
  clear h g1 g2 g3
  obtain ⟨i, kt, t1, t2, t3⟩ := keyI_ok h1
  have hm := evO_ok hT h3
  have hk := evO_ok hT h4
  split at g4
  · rename_i id
    obtain ⟨h5, g5⟩ := R.if_ok.1 g4
    obtain ⟨mc, h6, g6⟩ := R.bind_ok.1 g5
    obtain ⟨f, h7, h⟩ := R.bind_ok.1 g6
    clear g4 g5 g6
    simp only [V] at hm
    obtain ⟨p, hp, hm⟩ := hm
    obtain ⟨q, hq, hh⟩ := hM.sat id _ (mapAt_ok h6)
    rw [hp] at hq; cases hq
    obtain ⟨ar, har, hel⟩ := hh.el
    have hu := t1.underlying w
    rw [t2] at hu
    have hck := key_checked (w := w) t3 h5 hk ar.isEmpty 9999
    rcases find_ok hO h5 hk 0 h7 hel with ⟨rfl, f1⟩ | ⟨j, c, e, rfl, f1, f2, f3, f4, f5⟩
    · obtain ⟨z, h8, h⟩ := R.bind_ok.1 h
      obtain ⟨z', z1, z2⟩ := zeroV_ok (w := w) (ρ := ρ) (loc := loc) (tiOf_ok h2) h8
      refine OpPost.pure (v' := if ok then .tuple #[z', .bool false] else z') hM ?_ h ?_
      · cases ok
        · exact z2
        · simp only [cond_true, if_true, V]
          exact ⟨_, rfl, .cons z2 (.cons (by simp [V]) .nil)⟩
      · simp only [execOp, ho, hm]
        rw [run_val]
        unfold Instr.lookup
        rw [Sem.run_bind, hu]
        simp only [Result.andThen_ok, bind_assoc]
        rw [Sem.run_bind, Go.MapKept.run_getObj_map har]
        simp only [Result.andThen_ok, pure_bind]
        rw [Sem.run_bind, hck]
        simp only [Result.andThen_ok]
        rw [Sem.run_bind, Go.MapKept.run_findKey t3.und f1]
        simp only [Result.andThen_ok]
        rw [Sem.run_bind, z1]
        rfl
    · refine OpPost.pure (v' := if ok then .tuple #[e.val, .bool true] else e.val) hM ?_ h ?_
      · cases ok
        · exact f3
        · simp only [cond_true, if_true, V]
          exact ⟨_, rfl, .cons f3 (.cons (by simp [V]) .nil)⟩
      · simp only [execOp, ho, hm]
        rw [run_val]
        unfold Instr.lookup
        rw [Sem.run_bind, hu]
        simp only [Result.andThen_ok, bind_assoc]
        rw [Sem.run_bind, Go.MapKept.run_getObj_map har]
        simp only [Result.andThen_ok, pure_bind]
        rw [Sem.run_bind, hck]
        simp only [Result.andThen_ok]
        rw [Sem.run_bind, Go.MapKept.run_findKey t3.und f2]
        rfl
  · cases g4

end

end Go.Cx
/- Maps that are written and walked over: each operation. No program is named here. -/
namespace Go.Cx
open Go.MapKept (run_getObj_map run_setObj_map run_findKey bytes_beq heap_set)

section
variable {P : Program} {orb : BinOp → CV → CV → Option CV} {ρ : Env} {loc loc' : Lc} {s : St} {a : Act} {w : World} {o : Oper} {r : Out}

theorem EL.modify {es : List ME} {l : List MapEntry} (h : EL ρ loc es l) (j : Nat) {f : ME → ME} {g : MapEntry → MapEntry}
    (hf : ∀ x y, es[j]? = some x → l[j]? = some y → V ρ loc x.k y.key → V ρ loc x.v y.val → y.born = x.b → V ρ loc (f x).k (g y).key ∧ V ρ loc (f x).v (g y).val ∧ (g y).born = (f x).b) : EL ρ loc (es.modify j f) (l.modify j g) := by
  obtain ⟨h1, h2⟩ := EL.iff.1 h
  refine EL.iff.2 ⟨by simp [h1], fun i x hx => ?_⟩
  rw [List.getElem?_modify] at hx ⊢
  cases he : es[i]? with
  | none => rw [he] at hx; simp at hx
  | some e =>
    rw [he] at hx
    obtain ⟨y, hy, k1, k2, k3⟩ := h2 i e he
    rw [hy]
    by_cases hj : j = i
    · subst hj
      simp at hx ⊢
      subst hx
      exact hf e y he hy k1 k2 k3
    · simp [hj] at hx ⊢
      subst hx
      exact ⟨k1, k2, k3⟩

theorem EL.push {es : List ME} {l : List MapEntry} (h : EL ρ loc es l) {x : ME} {y : MapEntry} (h1 : V ρ loc x.k y.key) (h2 : V ρ loc x.v y.val) (h3 : y.born = x.b) : EL ρ loc (es ++ [x]) (l ++ [y]) := by
  induction es generalizing l with
  | nil => cases h; exact ⟨y, [], rfl, h1, h2, h3, rfl⟩
  | cons z es ih =>
    obtain ⟨y', l', rfl, e1, e2, e3, e4⟩ := h
    exact ⟨y', _, rfl, e1, e2, e3, ih e4⟩

theorem EL.erase {es : List ME} {l : List MapEntry} (h : EL ρ loc es l) (j : Nat) : EL ρ loc (es.eraseIdx j) (l.eraseIdx j) := by
  induction es generalizing l j with
  | nil => cases h; simp [EL]
  | cons z es ih =>
    obtain ⟨y', l', rfl, e1, e2, e3, e4⟩ := h
    cases j with
    | zero => simpa using e4
    | succ j => exact ⟨y', _, rfl, e1, e2, e3, ih e4 j⟩

theorem EL.keep {es : List ME} {l : List MapEntry} (h : EL ρ loc es l) (f : Nat → Bool) : EL ρ loc (es.filter fun x => f x.b) (l.filter fun y => f y.born) := by
  induction es generalizing l with
  | nil => cases h; simp [EL]
  | cons z es ih =>
    obtain ⟨y', l', rfl, e1, e2, e3, e4⟩ := h
    rw [List.filter_cons, List.filter_cons, e3]
    split
    · exact ⟨y', _, rfl, e1, e2, e3, ih e4⟩
    · exact ih e4

/-- A map's object turns. -/
theorem map_set (hM : Mem ρ loc s.hp.get w) {id : Nat} {mc : List ME × Nat} (h6 : mapAt s.hp id = .ok mc) {p : Pl} (hp : loc id = some p) {ar : Array MapEntry} (har : w.heap[p.b]? = some (.map ar mc.2)) {es : List ME} {c : Nat} {ar' : Array MapEntry} (he : EL ρ loc es ar'.toList) (nx : Nat) :
    Step ρ loc s.hp.get nx w loc (s.hp.set id (.map es c)).get nx { w with heap := w.heap.setIfInBounds p.b (.map ar' c) } := by
  obtain ⟨q1, q2⟩ := heap_set (o' := .map ar' c) har
  exact Step.upd hM (mapAt_ok h6) hp (fun b hb => q2 b hb) (by simp) rfl rfl rfl (o' := .map es c) (Holds.of_el q1 he) (fun j => Tr.get_set _ _ _ _)

theorem same_bits {d : TypeDesc} {x : CV} (hk : isKey d x = true) {u : Value} (hu : V ρ loc x u) (n : Nat) : Instr.sameBits n u u = true := by
  unfold isKey at hk
  split at hk
  · simp only [V] at hu
    subst hu
    split at hk
    · split at hk
      · unfold Instr.sameBits; simp
      · cases hk
    · split at hk
      · unfold Instr.sameBits; simp [bytes_beq]
      · cases hk
    · cases hk
  · simp only [V] at hu
    subst hu
    unfold Instr.sameBits; simp
  · cases hk

theorem o_mapUpdate (hO : OraOk ρ orb) (hT : TmOk ρ loc s.tm a) (hM : Mem ρ loc s.hp.get w) {t : TypeId} {m k x : Operand} (ho : o.op = .mapUpdate t m k x) (h : execO P orb s o.op = .ok r) : OpPost ρ loc s w r ((execOp a.eval o).run P w) := by
  rw [ho] at h
  obtain ⟨ki, h1, g1⟩ := R.bind_ok.1 h
  obtain ⟨mv, h3, g3⟩ := R.bind_ok.1 g1
  obtain ⟨kv, h4, g4⟩ := R.bind_ok.1 g3
  obtain ⟨xv, h8, g8⟩ := R.bind_ok.1 g4
  clear h g1 g3 g4
  obtain ⟨i, kt, t1, t2, t3⟩ := keyI_ok h1
  have hm := evO_ok hT h3
  have hk := evO_ok hT h4
  have hx := evO_ok hT h8
  split at g8
  · rename_i id
    obtain ⟨h5, g5⟩ := R.if_ok.1 g8
    obtain ⟨mc, h6, g6⟩ := R.bind_ok.1 g5
    obtain ⟨f, h7, h⟩ := R.bind_ok.1 g6
    clear g8 g5 g6
    simp only [V] at hm
    obtain ⟨p, hp, hm⟩ := hm
    obtain ⟨q, hq, hh⟩ := hM.sat id _ (mapAt_ok h6)
    rw [hp] at hq; cases hq
    obtain ⟨ar, har, hel⟩ := hh.el
    have hu := t1.underlying w
    rw [t2] at hu
    have hck := key_checked (w := w) t3 h5 hk false 9999
    rcases find_ok hO h5 hk 0 h7 hel with ⟨rfl, f1⟩ | ⟨j, c, e, rfl, f1, f2, f3, f4, f5⟩
    · cases h
      intro _
      refine ⟨undef, _, loc, .inr ⟨?_, rfl⟩, by simp [none', V, undef], map_set hM h6 hp har (ar' := ar.push { key := a.eval k, val := a.eval x, born := mc.2 }) (c := mc.2 + 1) ?_ _⟩
      · simp only [execOp, ho, hm]
        unfold Instr.mapUpdate
        rw [Sem.run_bind, Sem.run_bind, hu]
        simp only [Result.andThen_ok]
        rw [Sem.run_bind, Go.MapKept.run_getObj_map har]
        simp only [Result.andThen_ok]
        rw [Sem.run_bind, hck]
        simp only [Result.andThen_ok]
        rw [Sem.run_bind, Go.MapKept.run_findKey t3.und f1]
        simp only [Result.andThen_ok]
        rw [Go.MapKept.run_setObj_map _ har]
        rfl
      · rw [Array.toList_push]
        exact hel.push hk hx rfl
    · cases h
      intro _
      refine ⟨undef, _, loc, .inr ⟨?_, rfl⟩, by simp [none', V, undef], map_set hM h6 hp har (ar' := ar.modify j fun e => { e with key := a.eval k, val := a.eval x }) (c := mc.2) ?_ _⟩
      · simp only [execOp, ho, hm]
        unfold Instr.mapUpdate
        rw [Sem.run_bind, Sem.run_bind, hu]
        simp only [Result.andThen_ok]
        rw [Sem.run_bind, Go.MapKept.run_getObj_map har]
        simp only [Result.andThen_ok]
        rw [Sem.run_bind, hck]
        simp only [Result.andThen_ok]
        rw [Sem.run_bind, Go.MapKept.run_findKey t3.und f2]
        simp only [Result.andThen_ok, Nat.zero_add]
        have hks : (Instr.keyThatStays ((ar[j]?.map (·.key)).getD (a.eval k)) (a.eval k)).run P w = .ok (a.eval k) w := by
          rw [Array.getElem?_toList] at f1
          rw [f1]
          unfold Instr.keyThatStays
          simp only [Option.map_some, Option.getD_some, f4]
          rw [if_pos (same_bits h5 hk _)]
          rfl
        rw [Sem.run_bind, hks]
        simp only [Result.andThen_ok]
        rw [Go.MapKept.run_setObj_map _ har]
        rfl
      · rw [Array.toList_modify]
        refine hel.modify j fun x' y' e1 e2 e3 e4 e5 => ⟨?_, hx, e5⟩
        rw [f1] at e2; cases e2
        rw [f4] at e3
        exact e3
  · cases g8

theorem o_range (hT : TmOk ρ loc s.tm a) (hM : Mem ρ loc s.hp.get w) {t : TypeId} {x : Operand} (ho : o.op = .range t x) (h : execO P orb s o.op = .ok r) : OpPost ρ loc s w r ((execOp a.eval o).run P w) := by
  rw [ho] at h
  obtain ⟨i, h1, g1⟩ := R.bind_ok.1 h
  obtain ⟨ke, h2, g2⟩ := R.bind_ok.1 g1
  obtain ⟨v, h3, g3⟩ := R.bind_ok.1 g2
  clear h g1 g2
  have hx := evO_ok hT h3
  split at g3
  · rename_i id
    obtain ⟨mc, h6, h⟩ := R.bind_ok.1 g3
    clear g3
    cases h
    simp only [V] at hx
    obtain ⟨p, hp, hx⟩ := hx
    obtain ⟨q, hq, hh⟩ := hM.sat id _ (mapAt_ok h6)
    rw [hp] at hq; cases hq
    obtain ⟨ar, har, hel⟩ := hh.el
    have hu := (tiOf_ok h1).underlying w
    have hd : i.desc = .map ke.1 ke.2 := by
      unfold mapD at h2
      split at h2
      · rename_i hd; cases h2; exact hd
      · cases h2
    rw [hd] at hu
    intro hf
    have hfn := hf _ (Nat.le_refl _) (by omega)
    refine ⟨.pointer (some ⟨w.heap.size, 0, none⟩), { w with heap := w.heap.push (.mapIter (some p.b) mc.2 #[] mc.2) }, fun j => if j = s.nx then some ⟨w.heap.size, 0, 0, none⟩ else loc j, .inl ?_, ?_, ?_⟩
    · simp only [execOp, ho, hx]
      rw [run_val]
      unfold Instr.range
      rw [Sem.run_bind, hu]
      simp only [Result.andThen_ok, bind_assoc]
      rw [Sem.run_bind, Go.MapKept.run_getObj_map har]
      rfl
    · simp only [V]
      exact ⟨⟨w.heap.size, 0, 0, none⟩, by simp, rfl⟩
    · refine Step.new (o := .iter id mc.2 [] mc.2) hM hfn (.mapIter (some p.b) mc.2 #[] mc.2) 0 rfl rfl ⟨p, ?_, ?_⟩ (fun j => Tr.get_set _ _ _ _)
      · have : id ≠ s.nx := fun e => by subst e; rw [hfn] at hp; cases hp
        simp only [if_neg this]
        exact hp
      · simp
  · cases g3

theorem left_el {es : List ME} {ar : Array MapEntry} (h : EL ρ loc es ar.toList) (seen : List Nat) : EL ρ loc (leftM seen es) (ar.filter fun e => !seen.toArray.contains e.born).toList := by
  have := h.keep fun b => !seen.contains b
  unfold leftM
  rw [Array.toList_filter]
  simpa using this

theorem o_next (hT : TmOk ρ loc s.tm a) (hM : Mem ρ loc s.hp.get w) {x : Operand} {st : Bool} (ho : o.op = .next x st) (h : execO P orb s o.op = .ok r) : OpPost ρ loc s w r ((execOp a.eval o).run P w) := by
  rw [ho] at h
  obtain ⟨h1, g1⟩ := R.if_ok.1 h
  obtain ⟨v, h3, g3⟩ := R.bind_ok.1 g1
  clear h g1
  have h1 : st = false := by simpa using h1
  subst h1
  have hx := evO_ok hT h3
  split at g3
  · rename_i id
    unfold nextV at g3
    split at g3
    · rename_i m since seen last hid
      obtain ⟨mc, h6, g4⟩ := R.bind_ok.1 g3
      obtain ⟨h7, h⟩ := R.if_ok.1 g4
      clear g3 g4
      simp only [V] at hx
      obtain ⟨p, hp, hx⟩ := hx
      obtain ⟨q, hq, mq, hm1, hm2⟩ := hM.sat id _ hid
      rw [hp] at hq; cases hq
      obtain ⟨q, hq, hh⟩ := hM.sat m _ (mapAt_ok h6)
      rw [hm1] at hq; cases hq
      obtain ⟨ar, har, hel⟩ := hh.el
      have gob : (getObj p.b).run P w = .ok (.mapIter (some mq.b) since seen.toArray last) w := by simp [getObj, Sem.run, hm2]
      have hgone : (!seen.toArray.isEmpty && !ar.isEmpty && ar.all fun e => decide (e.born ≥ last)) = false := by
        rcases Bool.or_eq_true_iff.1 h7 with h8 | h8
        · rcases Bool.or_eq_true_iff.1 h8 with h9 | h9
          · have : seen = [] := by simpa using h9
            subst this
            simp
          · have : mc.1 = [] := by simpa using h9
            rw [this] at hel
            have : ar = #[] := by
              have h10 : ar.toList = [] := hel
              exact Array.ext' (by simpa using h10)
            subst this
            simp
        · obtain ⟨e, he1, he2⟩ := List.any_eq_true.1 h8
          have he2 : e.b < last := Nat.le_of_ble_eq_true he2
          obtain ⟨j, hj⟩ := List.getElem?_of_mem he1
          obtain ⟨y, hy, _, _, hb⟩ := (EL.iff.1 hel).2 j e hj
          have : ar.all (fun e => decide (e.born ≥ last)) = false := by
            rw [Bool.eq_false_iff]
            intro hall
            rw [Array.getElem?_toList] at hy
            obtain ⟨hlt, he⟩ := Array.getElem?_eq_some_iff.1 hy
            have := (Array.all_eq_true.1 hall) j hlt
            rw [he] at this
            simp at this
            omega
          rw [this]
          simp
      have hl := left_el hel seen
      have start : ∀ (R' : Result Next), (((do
          let left := ar.filter fun e => !seen.toArray.contains e.born
          let old := left.filter (·.born < since)
          let new := left.filter (·.born ≥ since)
          let candidates := (if old.isEmpty then #[none] else #[]) ++ (old ++ new).map some
          match candidates[← choose (.mapNext candidates.size)]? with
          | some (some e) =>
            setObj p.b (.mapIter (some mq.b) since (seen.toArray.push e.born) mc.2)
            pure (.tuple #[.bool true, e.key, e.val])
          | some none => pure (.tuple #[.bool false])
          | none => stuck "Next: no such candidate" : Sem Value).run P w).andThen fun v w => .ok (.value v) w) = R' → (execOp a.eval o).run P w = R' := by
        intro R' hR
        rw [← hR]
        simp only [execOp, ho, hx]
        rw [run_val]
        unfold Instr.next
        show ((getObj p.b >>= _ : Sem Value).run P w).andThen _ = _
        rw [Sem.run_bind, gob]
        simp only [Result.andThen_ok]
        rw [Sem.run_bind, Go.MapKept.run_getObj_map har]
        simp only [Result.andThen_ok]
        rw [if_neg (by rw [hgone]; simp)]
        rfl
      split at h
      · rename_i hnil
        rw [hnil] at hl
        have hl' : (ar.filter fun e => !seen.toArray.contains e.born) = #[] := by
          have h10 : (ar.filter fun e => !seen.toArray.contains e.born).toList = [] := hl
          exact Array.ext' (by simpa using h10)
        refine OpPost.pure (v' := .tuple #[.bool false]) hM (by simp only [V]; exact ⟨_, rfl, .cons (by simp [V]) .nil⟩) h (start _ ?_)
        rw [hl']
        simp [choose, Sem.run, Question.forced]
      · rename_i e hone
        rw [hone] at hl
        obtain ⟨h8, h⟩ := R.if_ok.1 h
        have h8 : e.b < since := Nat.le_of_ble_eq_true h8
        cases h
        obtain ⟨y, l', e1, e2, e3, e4, e5⟩ := hl
        cases e5
        have hl' : (ar.filter fun e => !seen.toArray.contains e.born) = #[y] := Array.ext' (by simpa using e1)
        intro _
        refine ⟨.tuple #[.bool true, y.key, y.val], { w with heap := w.heap.setIfInBounds p.b (.mapIter (some mq.b) since (seen.toArray.push y.born) mc.2) }, loc, .inl (start _ ?_), ?_, ?_⟩
        · rw [hl']
          have hlt : y.born < since := by omega
          have hge : ¬ since ≤ y.born := by omega
          simp [choose, Sem.run, Question.forced, hlt, setObj, hm2]
        · simp only [V]
          exact ⟨_, rfl, .cons (by simp [V]) (.cons e2 (.cons e3 .nil))⟩
        · obtain ⟨q1, q2⟩ := heap_set (o' := .mapIter (some mq.b) since (seen.toArray.push y.born) mc.2) hm2
          refine Step.upd hM hid hp (fun b hb => q2 b hb) (by simp) rfl rfl rfl (o' := .iter m since (seen ++ [e.b]) mc.2) ⟨mq, hm1, ?_⟩ (fun j => Tr.get_set _ _ _ _)
          rw [q1, e4]
          simp
      · cases h
    · cases g3
  · cases g3

theorem find_el {es : List ME} {l : List MapEntry} (h : EL ρ loc es l) (b : Nat) {x : ME} (hx : es.find? (fun x => Nat.beq x.b b) = some x) : ∃ y, l.find? (fun y => y.born == b) = some y ∧ V ρ loc x.k y.key ∧ V ρ loc x.v y.val := by
  induction es generalizing l with
  | nil => simp at hx
  | cons z es ih =>
    obtain ⟨y', l', rfl, e1, e2, e3, e4⟩ := h
    rw [List.find?_cons] at hx ⊢
    have e5 : (y'.born == b) = Nat.beq z.b b := by rw [e3, Bool.eq_iff_iff]; simp
    cases hb : Nat.beq z.b b with
    | true =>
      rw [hb] at hx e5
      rw [e5]
      cases hx
      exact ⟨y', rfl, e1, e2⟩
    | false =>
      rw [hb] at hx e5
      rw [e5]
      exact ih e4 hx

theorem o_entry (hT : TmOk ρ loc s.tm a) (hM : Mem ρ loc s.hp.get w) {x : Operand} (ho : o.op = .entry x) (h : execO P orb s o.op = .ok r) : OpPost ρ loc s w r ((execOp a.eval o).run P w) := by
  rw [ho] at h
  obtain ⟨v, h3, g3⟩ := R.bind_ok.1 h
  clear h
  have hx := evO_ok hT h3
  split at g3
  · rename_i id
    unfold entryV at g3
    split at g3
    · rename_i m since seen last hid
      obtain ⟨mc, h6, g4⟩ := R.bind_ok.1 g3
      obtain ⟨b, h7, g5⟩ := R.bind_ok.1 g4
      obtain ⟨h8, g6⟩ := R.if_ok.1 g5
      obtain ⟨e, h9, h⟩ := R.bind_ok.1 g6
      clear g3 g4 g5 g6
      simp only [V] at hx
      obtain ⟨p, hp, hx⟩ := hx
      obtain ⟨q, hq, mq, hm1, hm2⟩ := hM.sat id _ hid
      rw [hp] at hq; cases hq
      obtain ⟨q, hq, hh⟩ := hM.sat m _ (mapAt_ok h6)
      rw [hm1] at hq; cases hq
      obtain ⟨ar, har, hel⟩ := hh.el
      have gob : (getObj p.b).run P w = .ok (.mapIter (some mq.b) since seen.toArray last) w := by simp [getObj, Sem.run, hm2]
      obtain ⟨y, hy, y1, y2⟩ := find_el hel b (R.of_ok.1 h9)
      have h8 := Nat.eq_of_beq_eq_true h8
      refine OpPost.pure (v' := .tuple #[y.key, y.val]) hM (by simp only [V]; exact ⟨_, rfl, .cons y1 (.cons y2 .nil)⟩) h ?_
      have hback : seen.toArray.back? = some b := by
        have := R.of_ok.1 h7
        rw [List.back?_toArray]
        exact this
      have hfind : ar.find? (fun y => y.born == b) = some y := by
        rw [← Array.find?_toList]; exact hy
      simp only [execOp, ho, hx]
      rw [run_val]
      unfold Instr.entry
      show ((getObj p.b >>= _ : Sem Value).run P w).andThen _ = _
      rw [Sem.run_bind, gob]
      simp only [Result.andThen_ok, hback]
      rw [Sem.run_bind, Go.MapKept.run_getObj_map har]
      simp only [Result.andThen_ok]
      rw [if_neg (by simp [h8]), hfind]
      rfl
    · cases g3
  · cases g3

end

end Go.Cx
/- append: room or none, known or not. No program is named here. -/
namespace Go.Cx

section
variable {P : Program} {ρ : Env} {loc loc' : Lc} {h h' : Nat → Option OB} {nx : Nat} {w w' : World}

theorem Fr.drew : Fr loc h w loc h w.drew := ⟨rfl, rfl, rfl, Nat.le_refl _, fun _ _ _ => rfl, fun _ hb => .inl hb, fun _ _ _ _ _ g _ => .inl g⟩

theorem Mem.drew (m : Mem ρ loc h w) : Mem ρ loc h w.drew :=
  ⟨m.tree.step Fr.drew, fun id o ho => by
    obtain ⟨p, hp, hh⟩ := m.sat id o ho
    exact ⟨p, hp, hh.mono (.refl _) rfl⟩, m.inj⟩

theorem Step.drew (m : Mem ρ loc h w) : Step ρ loc h nx w loc h nx w.drew :=
  ⟨m.drew, Nat.le_refl _, fun _ _ => rfl, Fr.drew⟩

theorem Fr.less (f : Fr loc h w loc' h' w') {h'' : Nat → Option OB} (he : ∀ j o, h'' j = some o → h' j = some o) : Fr loc h w loc' h'' w' :=
  ⟨f.os, f.tape, f.output, f.size, f.kept, fun b hb => f.own b (Dom.less he hb), fun id p v A F hp hk => (f.trees id p v A F hp hk).imp_right fun ⟨g1, g2⟩ => ⟨g1, fun b hb => ⟨(g2 b hb).1, (g2 b hb).2.1, fun hd => (g2 b hb).2.2 (Dom.less he hd)⟩⟩⟩

theorem Step.less (s : Step ρ loc h nx w loc' h' nx w') {h'' : Nat → Option OB} (he : ∀ j o, h'' j = some o → h' j = some o) : Step ρ loc h nx w loc' h'' nx w' :=
  ⟨s.mem.less he, s.le, s.ext, s.fr.less he⟩

theorem Step.less' {nx' : Nat} (s : Step ρ loc h nx w loc' h' nx' w') {h'' : Nat → Option OB} (he : ∀ j o, h'' j = some o → h' j = some o) : Step ρ loc h nx w loc' h'' nx' w' :=
  ⟨s.mem.less he, s.le, s.ext, s.fr.less he⟩

/-- An object is given up, and its block lies on under a new number. -/
theorem Step.adopt (m : Mem ρ loc h w) {id : Nat} {o o' : OB} {p q : Pl} (hid : h id = some o) (hl : loc id = some p) (hf : loc nx = none) (hq : q.b = p.b) (hqk : q.k = none) (hw : ∀ b, b ≠ p.b → w'.heap[b]? = w.heap[b]?)
    (hs : w'.heap.size = w.heap.size) (h1 : w'.os = w.os) (h2 : w'.tape = w.tape) (h3 : w'.output = w.output) (hloc : loc' = fun j => if j = nx then some q else loc j) (ho : Holds ρ loc' w' q o')
    (he : ∀ j, h' j = if j = nx then some o' else if j = id then none else h j) : Step ρ loc h nx w loc' h' (nx + 1) w' := by
  have hll : LLe loc loc' := fun j p hj => by
    rw [hloc]
    dsimp only
    split
    · rename_i e; subst e; rw [hf] at hj; cases hj
    · exact hj
  have hlo : ∀ j, j ≠ nx → loc' j = loc j := fun j hj => by rw [hloc]; exact if_neg hj
  have hln : loc' nx = some q := by rw [hloc]; exact if_pos rfl
  have old : ∀ (j : Nat) (x : OB) (t : Pl), h' j = some x → loc' j = some t → (j = nx ∧ t = q) ∨ (j ≠ nx ∧ j ≠ id ∧ h j = some x ∧ loc j = some t ∧ t.b ≠ p.b) := by
    intro j x t hx ht
    rw [he] at hx
    split at hx
    · rename_i e; subst e
      rw [hln] at ht; cases ht
      exact .inl ⟨rfl, rfl⟩
    · rename_i e
      split at hx
      · cases hx
      · rename_i e'
        rw [hlo j e] at ht
        exact .inr ⟨e, e', hx, ht, fun hb => e' (m.inj j id x o t p hx hid ht hl hb)⟩
  have fr : Fr loc h w loc' h' w' := by
    refine ⟨h1, h2, h3, by omega, fun b hb hn => hw b fun e => hn ⟨id, o, p, hid, hl, e.symm⟩, ?_, fun i t v A F ht hk => ?_⟩
    · rintro b ⟨j, x, t, hx, ht, rfl⟩
      rcases old j x t hx ht with ⟨a1, a2⟩ | ⟨a1, a2, a3, a4, a5⟩
      · subst a2; exact .inl ⟨id, o, p, hid, hl, hq.symm⟩
      · exact .inl ⟨j, x, t, a3, a4, rfl⟩
    · by_cases e : i = nx
      · subst e; rw [hln] at ht; cases ht; rw [hqk] at hk; cases hk
      · rw [← hlo i e]; exact .inl ht
  refine ⟨⟨m.tree.step fr, fun j x hx => ?_, fun i j x y t u hx hy ht hu e => ?_⟩, by omega, fun j hj => hlo j (by omega), fr⟩
  · by_cases e : j = nx
    · subst e
      rw [he, if_pos rfl] at hx
      cases hx
      exact ⟨q, hln, ho⟩
    · have hx2 := hx
      rw [he, if_neg e] at hx2
      split at hx2
      · cases hx2
      · obtain ⟨t, ht, hh⟩ := m.sat j x hx2
        have hne : t.b ≠ p.b := fun hb => by
          have := m.inj j id x o t p hx2 hid ht hl hb
          contradiction
        exact ⟨t, hll _ _ ht, hh.mono hll (hw _ hne)⟩
  · rcases old i x t hx ht with ⟨a1, a2⟩ | ⟨a1, a2, a3, a4, a5⟩ <;> rcases old j y u hy hu with ⟨b1, b2⟩ | ⟨b1, b2, b3, b4, b5⟩
    · omega
    · subst a2; exact (b5 (e.symm.trans hq)).elim
    · subst b2; exact (a5 (e.trans hq)).elim
    · exact m.inj i j x y t u a3 b3 a4 b4 e

/-- Cells are stored in a row. -/
theorem store_raw {b : Nat} {c : Array Value} {e : TypeId} (hc : w.heap[b]? = some (.cells c e (0, 0))) {x : Nat} {vs : List Value} (hx : x + vs.length ≤ c.size) (h1 : ∀ v ∈ vs, v.oneCell' = true) :
    ∃ (w' : World) (c' : Array Value), (storeCells ⟨b, x, none⟩ vs).run P w = .ok () w' ∧ w'.heap[b]? = some (.cells c' e (0, 0)) ∧ c'.size = c.size ∧ (∀ b', b' ≠ b → w'.heap[b']? = w.heap[b']?) ∧ w'.heap.size = w.heap.size ∧ w'.os = w.os ∧ w'.tape = w.tape ∧ w'.output = w.output ∧
      ∀ k : Nat, c'[k]? = if x ≤ k ∧ k < x + vs.length then vs[k - x]? else c[k]? := by
  have h3 := run_storeCells_at (P := P) b x e vs 0 c w hc (by omega) h1
  simp only [Nat.add_zero] at h3
  refine ⟨_, _, h3, setRow_heap w b c _ e _ hc, by simp; omega, fun b' hb => setRow_other w _ b' _ hb, setRow_size _ _ _, rfl, rfl, rfl, fun k => ?_⟩
  rw [List.getElem?_toArray]
  by_cases a1 : k < x
  · rw [List.append_assoc, List.getElem?_append_left (by simp; omega), List.getElem?_take, if_pos a1, if_neg (by omega)]
    simp
  · by_cases a2 : k < x + vs.length
    · rw [List.append_assoc, List.getElem?_append_right (by simp; omega), List.getElem?_append_left (by simp; omega), if_pos (by omega)]
      congr 1; simp; omega
    · rw [List.append_assoc, List.getElem?_append_right (by simp; omega), List.getElem?_append_right (by simp; omega), List.getElem?_drop, if_neg (by omega)]
      simp only [List.length_take, Array.length_toList, Array.getElem?_toList]
      congr 1; omega

theorem append_zero {t tx ty e : TypeId} {j : TI} (ht : P.underlying t = some (.slice e)) (hj : TOk P e j) (b : Option Addr) (l c : Nat) (hl : l ≤ c) {x : Value} (hs : Src P j.size tx x 0 [] w) :
    (Builtin.append_ #[t, tx] ty #[.slice b l c, x]).run P w = .ok (.slice b l c) w := by
  obtain ⟨i, z, hi, _, _, h4, _⟩ := hj.ex
  have hc := hs.cells
  rw [← h4] at hc
  rcases hs.kind with ⟨e', hk⟩ | hk <;> cases b <;> simp [Builtin.append_, run_underlying ht, run_underlying hk, sizeOf, typeInfo, hi, hs.len, hl, hc, storeCells]

theorem append_room {t tx ty e : TypeId} {j : TI} (ht : P.underlying t = some (.slice e)) (hj : TOk P e j) (b o l c : Nat) {x : Value} {n : Nat} {news : List Value} (hs : Src P j.size tx x n news w) (hl : l + n ≤ c)
    (hst : (storeCells ⟨b, o + l * j.size, none⟩ news).run P w = .ok () w') : (Builtin.append_ #[t, tx] ty #[.slice (some ⟨b, o, none⟩) l c, x]).run P w = .ok (.slice (some ⟨b, o, none⟩) (l + n) c) w' := by
  obtain ⟨i, z, hi, _, _, h4, _⟩ := hj.ex
  have hc := hs.cells
  rw [← h4] at hc hst
  rcases hs.kind with ⟨e', hk⟩ | hk <;> simp [Builtin.append_, run_underlying ht, run_underlying hk, sizeOf, typeInfo, hi, hs.len, hl, hc, addr_add, hst]

theorem grown_ge (w : World) (need cap : Nat) (e : TypeId) (h63 : (need : Int) ≤ 9223372036854775807) : need ≤ grownCap w need cap e := by
  unfold grownCap
  simp only [Question.cut]
  omega

/-- A new row: old elements and new ones. -/
theorem append_grow {hp : Tr OB} (m : Mem ρ loc hp.get w) (hf : loc nx = none) {t tx ty e : TypeId} {j : TI} (ht : P.underlying t = some (.slice e)) (hj : TOk P e j) (base : Option Addr) (l c : Nat) {olds : List Value} {x : Value} {n : Nat} {news : List Value}
    (hold : (Builtin.firstCells j.size l (.slice base l c)).run P w.drew = .ok olds.toArray w.drew) (hol : olds.length = l * j.size) (hs : Src P j.size tx x n news w) (hg : c < l + n) (hb : fitsA j.bytes (l + n) = true)
    {cs : List CV} (hcs : VL ρ loc cs (olds ++ news)) :
    ∃ v w' loc', (Builtin.append_ #[t, tx] ty #[.slice base l c, x]).run P w = .ok v w' ∧ V ρ loc' (.sl nx j.size 0 (l + n) (l + n) false) v ∧ Step ρ loc hp.get nx w loc' (hp.set nx (.cells cs)).get (nx + 1) w' := by
  obtain ⟨i, z, hi, _, hz, h4, h5, h6, h7, h8, h9⟩ := hj.ex
  unfold fitsA at hb
  rw [Bool.and_eq_true] at hb
  have b1 : (l + n) * j.bytes ≤ 2 ^ 46 := Nat.le_of_ble_eq_true hb.1
  have b2 : l + n ≤ 2 ^ 46 := Nat.le_of_ble_eq_true hb.2
  have h63 : ((l + n : Nat) : Int) ≤ 9223372036854775807 := by omega
  have hfit : Builtin.nextslicecap (l + n) c * i.bytes ≤ 281474976710656 := by
    rw [h8]
    calc _ ≤ 2 * (l + n) * j.bytes := Nat.mul_le_mul_right _ (nextslicecap_le hg)
      _ ≤ 281474976710656 := by rw [Nat.mul_assoc]; omega
  rw [← h4] at hold hs
  have hrun := run_append_grow_src (P := P) w t tx ty e i z ht hi hz base l c olds hold x n news hs hg h63 hfit
  have hge := grown_ge w (l + n) c e h63
  generalize grownCap w (l + n) c e = g at hrun hge
  have hnl : news.length = n * j.size := by rw [hs.newsLen, h4]
  have hstep := (newCells (s := ⟨.e, hp, 0⟩) m.drew hf e hcs (Builtin.zeroCells z.cells (g - (l + n))).toList)
  refine ⟨_, _, fun k => if k = nx then some ⟨w.heap.size, 0, ((olds ++ news) ++ (Builtin.zeroCells z.cells (g - (l + n))).toList).length, none⟩ else loc k, hrun, ?_, ?_⟩
  · simp only [V]
    refine ⟨⟨w.heap.size, 0, ((olds ++ news) ++ (Builtin.zeroCells z.cells (g - (l + n))).toList).length, none⟩, ⟨w.heap.size, 0, none⟩, g, by simp, rfl, hge, by simp, hge, .inr ⟨rfl, ?_⟩⟩
    show 0 + 0 + g * j.size ≤ ((olds ++ news) ++ (Builtin.zeroCells z.cells (g - (l + n))).toList).length
    simp only [List.length_append, hol, hnl, Builtin.zeroCells, Array.length_toList, Array.size_map, Array.size_range, h5]
    rw [← Nat.add_mul, ← Nat.add_mul]
    have : l + n + (g - (l + n)) = g := by omega
    rw [this]; omega
  · have e1 : (w.drew.alloc (.cells ((olds ++ news).toArray ++ Builtin.zeroCells z.cells (g - (l + n))) e)) = { w.drew with heap := w.drew.heap.push (.cells ((olds ++ news) ++ (Builtin.zeroCells z.cells (g - (l + n))).toList).toArray e) } := by
      have : (olds ++ news).toArray ++ Builtin.zeroCells z.cells (g - (l + n)) = ((olds ++ news) ++ (Builtin.zeroCells z.cells (g - (l + n))).toList).toArray := by
        apply Array.ext'
        simp
      rw [this]
      rfl
    rw [e1]
    exact (Step.drew m).trans hstep

end

end Go.Cx
/- The language's own functions: len, max, min, append, copy, clear, delete. No program is named here. -/
namespace Go.Cx
open Go.MapKept (run_getObj_map run_setObj_map run_findKey bytes_beq heap_set)

section
variable {P : Program} {orb : BinOp → CV → CV → Option CV} {ρ : Env} {loc loc' : Lc} {s : St} {w : World} {r : Out}

theorem nilLen_ok {v : Value} {n : Nat} (h : nilLen v = .ok n) : v = .slice none 0 0 ∧ n = 0 := by
  unfold nilLen at h
  split at h
  · obtain ⟨h1, h⟩ := R.if_ok.1 h
    cases h
    rw [Bool.and_eq_true] at h1
    have e1 := Nat.eq_of_beq_eq_true h1.1
    have e2 := Nat.eq_of_beq_eq_true h1.2
    subst e1 e2
    exact ⟨rfl, rfl⟩
  · cases h

theorem args_ok {hp : Tr OB} (hM : Mem ρ loc hp.get w) {size : Nat} {y : CV} {c : Nat × List CV} (h : argsCells size hp y = .ok c) {u : Value} (hu : V ρ loc y u) {tx e' : TypeId} (hk : P.underlying tx = some (.slice e')) :
    ∃ news, Src P size tx u c.1 news w ∧ VL ρ loc c.2 news ∧ (∃ b l k, u = .slice b l k ∧ l = c.1) ∧ ∀ m, m ≤ c.1 → (Builtin.firstCells size m u).run P w = .ok (news.take (m * size)).toArray w := by
  cases y with
  | lit v =>
    obtain ⟨n, h1, h⟩ := R.bind_ok.1 h
    cases h
    obtain ⟨rfl, _⟩ := nilLen_ok h1
    simp only [V] at hu
    subst hu
    exact ⟨[], Src.ofNil w hk 0, .nil, ⟨_, _, _, rfl, rfl⟩, fun m hm => by simp [Builtin.firstCells]⟩
  | sl id s off len cap ex =>
    simp only [V] at hu
    obtain ⟨p, ad, k, hp', rfl, hc1, hc2, hc3, hc4⟩ := hu
    simp only [argsCells] at h
    cases h0 : Nat.beq len 0 with
    | true =>
      rw [h0, cond_true] at h
      cases h
      have := Nat.eq_of_beq_eq_true h0
      subst this
      exact ⟨[], Src.ofSlice w hk ad 0 k [] (by simp) (fun j u hj => by simp at hj) (fun u hu => by cases hu), .nil, ⟨_, _, _, rfl, rfl⟩, fun m hm => by
        have : m = 0 := by simpa using hm
        subst this
        simp [Builtin.firstCells, loadCells, loadCellsFrom]⟩
    | false =>
      rw [h0, cond_false] at h
      obtain ⟨h1, h⟩ := R.if_ok.1 h
      obtain ⟨xs, h2, h⟩ := R.bind_ok.1 h
      obtain ⟨cs, h3, h⟩ := R.bind_ok.1 h
      obtain ⟨h4, h⟩ := R.if_ok.1 h
      cases h
      have h1 := Nat.eq_of_beq_eq_true h1
      subst h1
      have h0 := Nat.ne_of_beq_eq_false h0
      obtain ⟨q, hq, hh⟩ := hM.cells h2
      rw [hp'] at hq; cases hq
      obtain ⟨vs, f1, f2, f3⟩ := hh.cut h3
      have had : ad = ⟨p.b, p.o + off, none⟩ := by
        rcases hc4 with h' | h'
        · omega
        · exact h'.1
      exact ⟨vs, Src.ofSlice w hk ad len k vs f2 (fun j u hj => by rw [had, addr_add]; exact f3 j u hj) (ones_ok f1 h4), f1, ⟨_, _, _, rfl, rfl⟩, fun m hm => run_firstCells_some w _ _ ad _ _ _ (by
        have : m * s ≤ len * s := Nat.mul_le_mul_right _ hm
        rw [List.length_take, f2]; dsimp only at hm; omega) (fun j u hj => by
        rw [List.getElem?_take] at hj
        split at hj
        · rw [had, addr_add]; exact f3 j u hj
        · cases hj)⟩
  | _ => cases h

/-- What a value-yielding function leads to. -/
def ValPost (ρ : Env) (loc : Lc) (s : St) (w : World) (r : Out) (res : Result Value) : Prop :=
  ∃ v hp nx, r = .val v hp nx ∧ (Free loc s.nx nx → ∃ v' w' loc', res = .ok v' w' ∧ V ρ loc' v v' ∧ Step ρ loc s.hp.get s.nx w loc' hp.get nx w')

theorem ValPost.pure (hM : Mem ρ loc s.hp.get w) {v : CV} {v' : Value} (h : V ρ loc v v') (hr : Out.pure s v = .ok r) {res : Result Value} (he : res = .ok v' w) : ValPost ρ loc s w r res := by
  cases hr
  exact ⟨_, _, _, rfl, fun _ => ⟨v', w, loc, he, h, .refl hM⟩⟩

theorem append_ok (hM : Mem ρ loc s.hp.get w) {t tx ty : TypeId} {x y : CV} {vx vy : Value} (hx : V ρ loc x vx) (hy : V ρ loc y vy) {ei : TI} (h1 : elemI P t = .ok ei) {ui : TI} (h2 : elemI P tx = .ok ui) {c : Nat × List CV} (h3 : argsCells ei.size s.hp y = .ok c)
    (h : appendV ei.size ei.bytes s.hp s.nx c.1 c.2 x = .ok r) : ValPost ρ loc s w r ((Builtin.append_ #[t, tx] ty #[vx, vy]).run P w) := by
  obtain ⟨i, e, t1, t2, t3⟩ := elemI_ok h1
  obtain ⟨i', e', t1', t2', _⟩ := elemI_ok h2
  have ht := t1.und
  rw [t2] at ht
  have hk := t1'.und
  rw [t2'] at hk
  obtain ⟨news, hs, hv, _, _⟩ := args_ok hM h3 hy hk
  obtain ⟨n, cs⟩ := c
  dsimp only at h hs hv
  have nothing : n = 0 → news = [] := fun h0 => by
    have := hs.newsLen
    subst h0
    simpa using this
  unfold appendV at h
  split at h
  · rename_i v
    obtain ⟨_, g1, h⟩ := R.bind_ok.1 h
    obtain ⟨rfl, _⟩ := nilLen_ok g1
    simp only [V] at hx
    subst hx
    cases h0 : Nat.beq n 0 with
    | true =>
      rw [h0, cond_true] at h
      cases h
      have h0 := Nat.eq_of_beq_eq_true h0
      have := nothing h0
      subst this h0
      exact ⟨_, _, _, rfl, fun _ => ⟨_, w, loc, append_zero ht t3 none 0 0 (Nat.le_refl _) hs, by simp [V], .refl hM⟩⟩
    | false =>
      rw [h0, cond_false] at h
      obtain ⟨hb, h⟩ := R.if_ok.1 h
      cases h
      have h0 := Nat.ne_of_beq_eq_false h0
      refine ⟨_, _, _, rfl, fun hf => ?_⟩
      have := append_grow (ty := ty) hM (hf _ (Nat.le_refl _) (by omega)) ht t3 none 0 0 (olds := []) (by simp [Builtin.firstCells]) (by simp) hs (by omega) (by simpa using hb) (cs := cs) (by simpa using hv)
      simpa using this
  · rename_i id st off len cap ex
    obtain ⟨g1, h⟩ := R.if_ok.1 h
    have g1 := Nat.eq_of_beq_eq_true g1
    subst g1
    simp only [V] at hx
    obtain ⟨p, ad, k, hp, rfl, hc1, hc2, hc3, hc4⟩ := hx
    cases h0 : Nat.beq n 0 with
    | true =>
      rw [h0, cond_true] at h
      cases h
      have h0 := Nat.eq_of_beq_eq_true h0
      have := nothing h0
      subst this h0
      exact ⟨_, _, _, rfl, fun _ => ⟨_, w, loc, append_zero ht t3 _ _ _ hc3 hs, by simp only [V]; exact ⟨p, ad, k, hp, rfl, hc1, hc2, hc3, hc4⟩, .refl hM⟩⟩
    | false =>
      rw [h0, cond_false] at h
      have h0 := Nat.ne_of_beq_eq_false h0
      cases hroom : Nat.ble (len + n) cap with
      | true =>
        rw [hroom, cond_true] at h
        obtain ⟨hp', g2, h⟩ := R.bind_ok.1 h
        cases h
        have hroom := Nat.le_of_ble_eq_true hroom
        obtain ⟨had, hfit⟩ : ad = ⟨p.b, p.o + off, none⟩ ∧ p.o + off + k * ei.size ≤ p.n := by
          rcases hc4 with h' | h'
          · omega
          · exact h'
        obtain ⟨w', g3, g4⟩ := wr_ok (P := P) (nx := s.nx) hM g2 hp hv
        refine ⟨_, _, _, rfl, fun _ => ⟨.slice (some ⟨p.b, p.o + off, none⟩) (len + n) k, w', loc, ?_, ?_, g4⟩⟩
        · rw [had]
          exact append_room ht t3 _ _ _ _ hs (by omega) (by rw [Nat.add_assoc]; exact g3)
        · simp only [V]
          exact ⟨p, _, k, hp, rfl, hc1, hc2, by omega, .inr ⟨rfl, hfit⟩⟩
      | false =>
        rw [hroom, cond_false] at h
        obtain ⟨hb, h⟩ := R.if_ok.1 h
        have hroom : ¬ len + n ≤ cap := fun h' => by rw [Nat.ble_eq_true_of_le h'] at hroom; cases hroom
        cases hz : (Nat.beq len 0 && ex) with
        | true =>
          rw [hz, cond_true] at h
          cases h
          rw [Bool.and_eq_true] at hz
          obtain ⟨hz1, hz2⟩ := hz
          have hz1 := Nat.eq_of_beq_eq_true hz1
          subst hz1
          have hk' := hc2 hz2
          refine ⟨_, _, _, rfl, fun hf => ?_⟩
          have := append_grow (ty := ty) hM (hf _ (Nat.le_refl _) (by omega)) ht t3 (some ad) 0 k (olds := []) (by simp [Builtin.firstCells, loadCells, loadCellsFrom]) (by simp) hs (by omega) hb (cs := cs) (by simpa using hv)
          simpa using this
        | false =>
          rw [hz, cond_false] at h
          obtain ⟨xs, g2, h⟩ := R.bind_ok.1 h
          obtain ⟨old, g3, h⟩ := R.bind_ok.1 h
          obtain ⟨g4, h⟩ := R.if_ok.1 h
          cases h
          refine ⟨_, _, _, rfl, fun hf => ?_⟩
          have hfn := hf _ (Nat.le_refl _) (by omega)
          obtain ⟨q, hq, hh⟩ := hM.cells g2
          rw [hp] at hq; cases hq
          obtain ⟨olds, f1, f2, f3⟩ := hh.cut g3
          have hold : ∀ w'' : World, (∀ (j : Nat) v, olds[j]? = some v → w''.cell? ⟨p.b, p.o + off + j, none⟩ = some v) → (Builtin.firstCells ei.size len (.slice (some ad) len k)).run P w'' = .ok olds.toArray w'' := fun w'' hw => by
            by_cases hl : len = 0
            · subst hl
              have : olds = [] := by simpa using f2
              subst this
              simp [Builtin.firstCells, loadCells, loadCellsFrom]
            · have had : ad = ⟨p.b, p.o + off, none⟩ := by
                rcases hc4 with h' | h'
                · omega
                · exact h'.1
              exact run_firstCells_some w'' _ _ ad _ _ olds f2 (fun j v hj => by rw [had, addr_add]; exact hw j v hj)
          cases ex with
          | true =>
            have hk' := hc2 rfl
            exact append_grow (ty := ty) hM hfn ht t3 (some ad) len k (hold w.drew (fun j v hj => f3 j v hj)) f2 hs (by omega) hb (f1.append hv)
          | false =>
            rw [cond_false]
            by_cases hr : len + n ≤ k
            · -- there was room
              obtain ⟨had, hfit⟩ : ad = ⟨p.b, p.o + off, none⟩ ∧ p.o + off + k * ei.size ≤ p.n := by
                rcases hc4 with h' | h'
                · omega
                · exact h'
              obtain ⟨q, hq, c, ec, q1, q2, q3, q4⟩ := hM.cells g2
              rw [hp] at hq; cases hq
              have hnl : news.length = n * ei.size := hs.newsLen
              have hmul : (len + n) * ei.size ≤ k * ei.size := Nat.mul_le_mul_right _ hr
              have hadd : (len + n) * ei.size = len * ei.size + n * ei.size := Nat.add_mul _ _ _
              obtain ⟨w', c', s1, s2, s3, s4, s5, s6, s7, s8, s9⟩ := store_raw (P := P) q1 (x := p.o + off + len * ei.size) (vs := news) (by omega) hs.one
              let loc' : Lc := fun j => if j = s.nx then some ⟨p.b, p.o + off, p.n, none⟩ else loc j
              have hll : LLe loc loc' := fun j t hj => by
                show (if j = s.nx then _ else loc j) = _
                split
                · rename_i e; subst e; rw [hfn] at hj; cases hj
                · exact hj
              refine ⟨.slice (some ⟨p.b, p.o + off, none⟩) (len + n) k, w', loc', by rw [had]; exact append_room ht t3 _ _ _ _ hs hr s1, ?_, Step.adopt (o' := .cells (old ++ cs)) (q := ⟨p.b, p.o + off, p.n, none⟩) hM (cellsAt_ok g2) hp hfn rfl rfl s4 s5 s6 s7 s8 rfl ?_ ?_⟩
              · simp only [V]
                exact ⟨⟨p.b, p.o + off, p.n, none⟩, _, k, if_pos rfl, rfl, hr, by simp, hr, .inr ⟨rfl, by simpa using hfit⟩⟩
              · have hvl := (f1.append hv)
                have hll2 := hvl.length
                have hlo := f1.length
                have hcs := hv.length
                refine ⟨c', ec, s2, by rw [s3]; exact q2, ?_, fun i x hx => ?_⟩
                · show p.o + off + (old ++ cs).length ≤ p.n
                  rw [List.length_append]; omega
                · obtain ⟨v, v1, v2⟩ := hvl.get hx
                  refine ⟨v, ?_, V.mono hll _ _ v2⟩
                  show c'[p.o + off + i]? = some v
                  rw [s9]
                  by_cases hi : i < len * ei.size
                  · rw [if_neg (by omega)]
                    rw [List.getElem?_append_left (by omega)] at v1
                    have := f3 i v v1
                    simp [World.cell?, q1] at this
                    exact this
                  · have hi2 : i < (olds ++ news).length := (List.getElem?_eq_some_iff.1 v1).1
                    rw [List.length_append] at hi2
                    rw [if_pos (by omega), ← v1, List.getElem?_append_right (by omega)]
                    congr 1; omega
              · intro j
                rw [Tr.get_set, Tr.get_del]
            · -- there was none
              have hdel : ∀ j o, (s.hp.del id).get j = some o → s.hp.get j = some o := fun j o hj => by
                rw [Tr.get_del] at hj
                split at hj
                · cases hj
                · exact hj
              have st := (Step.refl (nx := s.nx) hM).less hdel
              obtain ⟨v, w', loc', r1, r2, r3⟩ := append_grow (ty := ty) st.mem hfn ht t3 (some ad) len k (hold w.drew (fun j v hj => f3 j v hj)) f2 hs (by omega) hb (f1.append hv)
              exact ⟨v, w', loc', r1, r2, st.trans r3⟩
  · cases h

end

end Go.Cx
/- The language's own functions, all of them; calls. No program is named here. -/
namespace Go.Cx
open Go.MapKept (run_getObj_map run_setObj_map run_findKey bytes_beq heap_set)

section
variable {P : Program} {orb : BinOp → CV → CV → Option CV} {ρ : Env} {loc loc' : Lc} {s : St} {a : Act} {w : World} {o : Oper} {r : Out}

theorem mm_ok {mx : Bool} {x y v : CV} (h : mm mx x y = .ok v) : ∃ k a k' b, x = .lit (.int k a) ∧ y = .lit (.int k' b) ∧ v = .lit (.int k (bif mx then (bif decide (b > a) then b else a) else (bif decide (b < a) then b else a))) := by
  unfold mm at h
  split at h
  · cases h; exact ⟨_, _, _, _, rfl, rfl, rfl⟩
  · cases h

theorem two {x y : CV} {vs : List Value} (h : VL ρ loc [x, y] vs) : ∃ a b, vs = [a, b] ∧ V ρ loc x a ∧ V ρ loc y b := by
  simp only [VL] at h
  obtain ⟨a, l, rfl, h1, b, l', rfl, h2, rfl⟩ := h
  exact ⟨a, b, rfl, h1, h2⟩

theorem storeCells_nil (ad : Addr) (w : World) : (storeCells ad []).run P w = .ok () w := by
  simp [storeCells]

theorem copy_ok (hM : Mem ρ loc s.hp.get w) {ts : Array TypeId} {as : Array Value} {t tx ty : TypeId} {x y : CV} {vx vy : Value} (ht0 : ts[0]? = some t) (hx0 : as[0]? = some vx) (hy0 : as[1]? = some vy) (hx : V ρ loc x vx) (hy : V ρ loc y vy)
    {ei : TI} (h1 : elemI P t = .ok ei) {c : Nat × List CV} (h3 : argsCells ei.size s.hp y = .ok c) (h : (match x with
    | .sl id st off len _ _ => bif Nat.beq (min c.1 len) 0 then Out.pure s (intV 0) else
      R.if "stride" (Nat.beq st ei.size) ((wr s.hp id off (c.2.take (min c.1 len * st))).bind fun hp => .ok (.val (intV (min c.1 len)) hp s.nx))
    | .lit v => (nilLen v).bind fun _ => Out.pure s (intV 0)
    | _ => .no "copy") = .ok r) : ValPost ρ loc s w r ((Builtin.copy_ ts ty as).run P w) := by
  obtain ⟨i, e, t1, t2, t3⟩ := elemI_ok h1
  have ht := t1.und
  rw [t2] at ht
  obtain ⟨news, hs, hv, ⟨b, l, k, rfl, hl⟩, hpart⟩ := args_ok hM h3 hy ht
  have hu := t1.underlying w
  rw [t2] at hu
  have hsz := t3.sizeOf w
  have run : ∀ {base : Option Addr} {len cap : Nat} {R' : Result Value}, vx = .slice base len cap → (((match base with
      | some a => storeCells a (news.take (min c.1 len * ei.size))
      | none => pure () : Sem Unit).run P w).andThen fun _ w => .ok (goInt (min c.1 len : Nat)) w) = R' → (Builtin.copy_ ts ty as).run P w = R' := by
    rintro base len cap R' rfl hR
    have hf := hpart (min c.1 len) (Nat.min_le_left _ _)
    rw [← hR]
    have hl' : Nat.min l len = min c.1 len := by rw [hl]
    unfold Builtin.copy_
    simp only [ht0, hx0, hy0]
    rw [Sem.run_bind, hu]
    simp only [Result.andThen_ok, Builtin.lenOf, pure_bind]
    rw [Sem.run_bind, hsz]
    simp only [Result.andThen_ok, hl']
    rw [Sem.run_bind, hf]
    simp only [Result.andThen_ok]
    cases base <;> first | rfl | (rw [Sem.run_bind]; rfl)
  cases x with
  | lit v =>
    obtain ⟨_, g1, h⟩ := R.bind_ok.1 h
    obtain ⟨rfl, _⟩ := nilLen_ok g1
    simp only [V] at hx
    subst hx
    exact ValPost.pure hM (v' := .int .i64 0) (by simp [intV, V]) h (run rfl (by simp [goInt]))
  | sl id st off len cap ex =>
    simp only [V] at hx
    obtain ⟨p, ad, k', hp, rfl, hc1, hc2, hc3, hc4⟩ := hx
    dsimp only at h
    cases h0 : Nat.beq (min c.1 len) 0 with
    | true =>
      rw [h0, cond_true] at h
      have h0 := Nat.eq_of_beq_eq_true h0
      refine ValPost.pure hM (v' := .int .i64 0) (by simp [intV, V]) h (run rfl ?_)
      rw [h0]
      simp [storeCells_nil, goInt]
    | false =>
      rw [h0, cond_false] at h
      have h0 := Nat.ne_of_beq_eq_false h0
      obtain ⟨g1, h⟩ := R.if_ok.1 h
      obtain ⟨hp', g2, h⟩ := R.bind_ok.1 h
      cases h
      have g1 := Nat.eq_of_beq_eq_true g1
      subst g1
      have had : ad = ⟨p.b, p.o + off, none⟩ := by
        rcases hc4 with h' | h'
        · omega
        · exact h'.1
      obtain ⟨w', g3, g4⟩ := wr_ok (P := P) (nx := s.nx) hM g2 hp (hv.take (min c.1 len * ei.size))
      refine ⟨_, _, _, rfl, fun _ => ⟨.int .i64 (min c.1 len : Nat), w', loc, run rfl ?_, by simp [intV, V], g4⟩⟩
      rw [had]
      dsimp only
      rw [g3]
      rfl
  | _ => cases h

theorem clear_ok (hM : Mem ρ loc s.hp.get w) {ts : Array TypeId} {as : Array Value} {t ty : TypeId} {x : CV} {vx : Value} (ht0 : ts[0]? = some t) (hx0 : as[0]? = some vx) (hx : V ρ loc x vx) {ei : TI} (h1 : elemI P t = .ok ei)
    (h : (match x with
    | .sl id st off len _ _ => bif Nat.beq len 0 then Out.pure s none' else
      R.if "stride" (Nat.beq st ei.size) ((wr s.hp id off (repL ei.zero len)).bind fun hp => .ok (.val none' hp s.nx))
    | .lit v => (nilLen v).bind fun _ => Out.pure s none'
    | _ => .no "clear") = .ok r) : ValPost ρ loc s w r ((Builtin.clear_ ts ty as).run P w) := by
  obtain ⟨i, e, t1, t2, t3⟩ := elemI_ok h1
  have hu := t1.underlying w
  rw [t2] at hu
  obtain ⟨z, z1, z2, z3⟩ := t3.zeroValue w
  cases x with
  | lit v =>
    obtain ⟨_, g1, h⟩ := R.bind_ok.1 h
    obtain ⟨rfl, _⟩ := nilLen_ok g1
    simp only [V] at hx
    subst hx
    refine ValPost.pure hM (v' := .tuple #[]) (by simp [none', V]) h ?_
    unfold Builtin.clear_
    simp only [ht0, hx0]
    rw [Sem.run_bind, hu]
    rfl
  | sl id st off len cap ex =>
    simp only [V] at hx
    obtain ⟨p, ad, k', hp, rfl, hc1, hc2, hc3, hc4⟩ := hx
    dsimp only at h
    cases h0 : Nat.beq len 0 with
    | true =>
      rw [h0, cond_true] at h
      have h0 := Nat.eq_of_beq_eq_true h0
      subst h0
      refine ValPost.pure hM (v' := .tuple #[]) (by simp [none', V]) h ?_
      unfold Builtin.clear_
      simp only [ht0, hx0]
      rw [Sem.run_bind, hu]
      rfl
    | false =>
      rw [h0, cond_false] at h
      have h0 := Nat.ne_of_beq_eq_false h0
      obtain ⟨g1, h⟩ := R.if_ok.1 h
      obtain ⟨hp', g2, h⟩ := R.bind_ok.1 h
      cases h
      have g1 := Nat.eq_of_beq_eq_true g1
      subst g1
      have had : ad = ⟨p.b, p.o + off, none⟩ := by
        rcases hc4 with h' | h'
        · omega
        · exact h'.1
      have hz : VL ρ loc (repL ei.zero len) (Builtin.zeroCells z.cells len).toList := by
        rw [z2]
        exact rep_cells z.cells len
      obtain ⟨w', g3, g4⟩ := wr_ok (P := P) (nx := s.nx) hM g2 hp hz
      refine ⟨_, _, _, rfl, fun _ => ⟨.tuple #[], w', loc, ?_, by simp [none', V], g4⟩⟩
      cases len with
      | zero => omega
      | succ len =>
        unfold Builtin.clear_
        simp only [ht0, hx0]
        rw [Sem.run_bind, hu]
        simp only [Result.andThen_ok]
        rw [Sem.run_bind, z1]
        simp only [Result.andThen_ok, had]
        rw [Sem.run_bind, g3]
        rfl
  | _ => cases h

theorem delete_ok (hO : OraOk ρ orb) (hM : Mem ρ loc s.hp.get w) {ts : Array TypeId} {as : Array Value} {t ty : TypeId} {x k : CV} {vx vk : Value} (ht0 : ts[0]? = some t) (hx0 : as[0]? = some vx) (hk0 : as[1]? = some vk) (hx : V ρ loc x vx) (hk : V ρ loc k vk)
    {ki : TI × TypeId} (h1 : keyI P t = .ok ki) (h : (match x with
    | .mp id => R.if "delete: key" (isKey ki.1.desc k) ((mapAt s.hp id).bind fun m => (findM orb k m.1).bind fun o => match o with
      | some p => R.ok (Out.val none' (s.hp.set id (.map (m.1.eraseIdx p.1) m.2)) s.nx)
      | none => Out.pure s none')
    | _ => .no "delete") = .ok r) : ValPost ρ loc s w r ((Builtin.delete_ ts ty as).run P w) := by
  obtain ⟨i, kt, t1, t2, t3⟩ := keyI_ok h1
  have hu := t1.underlying w
  rw [t2] at hu
  cases x with
  | mp id =>
    obtain ⟨h5, g5⟩ := R.if_ok.1 h
    obtain ⟨mc, h6, g6⟩ := R.bind_ok.1 g5
    obtain ⟨f, h7, g7⟩ := R.bind_ok.1 g6
    clear h g5 g6
    have h := g7
    clear g7
    simp only [V] at hx
    obtain ⟨p, hp, rfl⟩ := hx
    obtain ⟨q, hq, hh⟩ := hM.sat id _ (mapAt_ok h6)
    rw [hp] at hq; cases hq
    obtain ⟨ar, har, hel⟩ := hh.el
    have hck := key_checked (w := w) t3 h5 hk ar.isEmpty 9999
    have run : ∀ {f : Option (Nat × Value)} {R' : Result Value}, Instr.findNow ki.1.desc vk ar.toList 0 = some f → (((match f with
        | some (i, _) => setObj p.b (.map (ar.eraseIdxIfInBounds i) mc.2)
        | none => setObj p.b (.map ar mc.2) : Sem Unit).run P w).andThen fun _ w => .ok (.tuple #[]) w) = R' → (Builtin.delete_ ts ty as).run P w = R' := by
      intro f R' hf hR
      rw [← hR]
      unfold Builtin.delete_
      simp only [ht0, hx0, hk0]
      rw [Sem.run_bind, hu]
      simp only [Result.andThen_ok]
      rw [Sem.run_bind, Go.MapKept.run_getObj_map har]
      simp only [Result.andThen_ok]
      rw [Sem.run_bind, hck]
      simp only [Result.andThen_ok]
      rw [Sem.run_bind, Go.MapKept.run_findKey t3.und hf]
      simp only [Result.andThen_ok]
      cases f <;> (dsimp only; rw [Sem.run_bind]; rfl)
    rcases find_ok hO h5 hk 0 h7 hel with ⟨rfl, f1⟩ | ⟨j, c, e, rfl, f1, f2, f3, f4, f5⟩
    · cases h
      refine ⟨_, _, _, rfl, fun _ => ⟨.tuple #[], { w with heap := w.heap.setIfInBounds p.b (.map ar mc.2) }, loc, run f1 ?_, by simp [none', V], ?_⟩⟩
      · dsimp only
        rw [Go.MapKept.run_setObj_map _ har]
        rfl
      · obtain ⟨q1, q2⟩ := heap_set (o' := .map ar mc.2) har
        refine Step.upd hM (mapAt_ok h6) hp (fun b hb => q2 b hb) (by simp) rfl rfl rfl (o' := .map mc.1 mc.2) (Holds.of_el q1 hel) (fun j => ?_)
        split
        · rename_i e; subst e; exact mapAt_ok h6
        · rfl
    · cases h
      refine ⟨_, _, _, rfl, fun _ => ⟨.tuple #[], _, loc, run f2 ?_, by simp [none', V], map_set hM h6 hp har (ar' := ar.eraseIdxIfInBounds j) (c := mc.2) ?_ _⟩⟩
      · dsimp only
        rw [Nat.zero_add, Go.MapKept.run_setObj_map _ har]
        rfl
      · have := hel.erase j
        have e1 : (ar.eraseIdxIfInBounds j).toList = ar.toList.eraseIdx j := by
          unfold Array.eraseIdxIfInBounds
          split
          · simp
          · rename_i hj
            rw [List.eraseIdx_of_length_le (by simpa using hj)]
        rw [e1]
        exact this
  | _ => cases h

theorem len_ok (hM : Mem ρ loc s.hp.get w) {ts : Array TypeId} {as : Array Value} {t ty : TypeId} {x : CV} {vx : Value} (ht0 : ts[0]? = some t) (hx0 : as[0]? = some vx) (hx : V ρ loc x vx) {i : TI} (h1 : tiOf P t = .ok i) {n : Nat}
    (h2 : lenV s.hp i.desc x = .ok n) (h : Out.pure s (intV n) = .ok r) : ValPost ρ loc s w r ((Builtin.len_ ts ty as).run P w) := by
  have hu := (tiOf_ok h1).underlying w
  refine ValPost.pure hM (v' := .int .i64 n) (by simp [intV, V]) h ?_
  unfold Builtin.len_
  simp only [ht0, hx0]
  rw [Sem.run_bind, hu]
  simp only [Result.andThen_ok]
  unfold lenV at h2
  split at h2
  · simp only [V] at hx
    subst hx
    split at h2
    · split at h2
      · rename_i hd; cases h2; rw [hd]; rfl
      · cases h2
    · split at h2
      · rename_i hd; cases h2; rw [hd]; rfl
      · cases h2
    · split at h2
      · rename_i hd; cases h2; rw [hd]; rfl
      · cases h2
    · cases h2
  · simp only [V] at hx
    obtain ⟨p, ad, k', hp, rfl, _⟩ := hx
    split at h2
    · rename_i hd; cases h2; rw [hd]; rfl
    · cases h2
  · rename_i id
    split at h2
    · rename_i hd
      obtain ⟨mc, h6, h2⟩ := R.bind_ok.1 h2
      cases h2
      simp only [V] at hx
      obtain ⟨p, hp, rfl⟩ := hx
      obtain ⟨q, hq, hh⟩ := hM.sat id _ (mapAt_ok h6)
      rw [hp] at hq; cases hq
      obtain ⟨ar, har, hsz, _⟩ := hh
      rw [hd]
      dsimp only
      rw [Sem.run_bind, Go.MapKept.run_getObj_map har]
      simp only [Result.andThen_ok]
      rw [← hsz]
      rfl
    · cases h2
  · cases h2

end

end Go.Cx
/- Calls; and every operation: what the executor says of it is so. No program is named here. -/
namespace Go.Cx

section
variable {P : Program} {orb : BinOp → CV → CV → Option CV} {ρ : Env} {loc loc' : Lc} {s : St} {a : Act} {w : World} {o : Oper} {r : Out}

theorem run_callFunc {g : FuncId} (h : okF P g = true) (vs : Array Value) : (callFunc g vs).run P w = .ok (.enter g vs) w := by
  unfold okF at h
  split at h
  · rename_i fn hf
    rw [Bool.and_eq_true] at h
    unfold callFunc
    rw [Sem.run_bind, run_program]
    simp only [Result.andThen_ok, hf]
    rw [if_neg (by simpa using h.2), if_neg (by simpa [Option.isNone_iff_eq_none, Option.isSome_iff_ne_none] using h.1)]
    rfl
  · cases h

theorem ValPost.op {res : Result Value} (h : ValPost ρ loc s w r res) {res' : Result Next} (he : res' = res.andThen fun v w => .ok (.value v) w) : OpPost ρ loc s w r res' := by
  obtain ⟨v, hp, nx, rfl, h⟩ := h
  intro hf
  obtain ⟨v', w', loc', e, h1, h2⟩ := h hf
  exact ⟨v', w', loc', .inl (by rw [he, e]; rfl), h1, h2⟩

theorem o_call (hO : OraOk ρ orb) (hT : TmOk ρ loc s.tm a) (hM : Mem ρ loc s.hp.get w) {c : Call} (ho : o.op = .call c) (h : execO P orb s o.op = .ok r) : OpPost ρ loc s w r ((execOp a.eval o).run P w) := by
  rw [ho] at h
  obtain ⟨args, h1, h2⟩ := R.bind_ok.1 h
  clear h
  have hargs := evL_ok hT h1
  have hal : (c.args.map a.eval).toList = c.args.toList.map a.eval := by simp
  have arg : ∀ {i : Nat} {x : CV}, args[i]? = some x → ∃ u, (c.args.map a.eval)[i]? = some u ∧ V ρ loc x u := fun hx => by
    obtain ⟨u, e1, e2⟩ := hargs.get hx
    exact ⟨u, by rw [← Array.getElem?_toList, hal]; exact e1, e2⟩
  cases hc : c.callee with
  | builtin b =>
    rw [hc] at h2
    have hrun : (execOp a.eval o).run P w = (builtin b c.argTypes o.type (c.args.map fun | .const _ => true | _ => false) (c.args.map a.eval)).run P w := by
      simp only [execOp, ho, resolve, hc, pure_bind, invoke]
      rfl
    rw [hrun]
    have tsl : ∀ {i : Nat} {t : TypeId}, c.argTypes.toList[i]? = some t → c.argTypes[i]? = some t := fun h => by simpa using h
    cases b with
    | len =>
      obtain ⟨x, g1, h3⟩ := R.bind_ok.1 h2
      obtain ⟨t, g2, h4⟩ := R.bind_ok.1 h3
      obtain ⟨i, g3, h5⟩ := R.bind_ok.1 h4
      obtain ⟨n, g4, h6⟩ := R.bind_ok.1 h5
      obtain ⟨u, u1, u2⟩ := arg (R.of_ok.1 g1)
      exact (len_ok (ty := o.type) hM (tsl (R.of_ok.1 g2)) u1 u2 g3 g4 h6).op (run_val _ _)
    | max =>
      simp only [builtinV] at h2
      split at h2
      · obtain ⟨v, g1, h3⟩ := R.bind_ok.1 h2
        obtain ⟨k, p, k', q, rfl, rfl, rfl⟩ := mm_ok g1
        obtain ⟨u, v, e, u1, u2⟩ := two hargs
        simp only [V] at u1 u2
        subst u1 u2
        refine (ValPost.pure (res := (Builtin.max_ c.argTypes o.type (c.args.map a.eval)).run P w) hM (v' := .int k (if q > p then q else p)) ?_ h3 ?_).op (run_val _ _)
        · simp only [V, cond_true]
          by_cases hq : q > p <;> simp [hq]
        · unfold Builtin.max_
          rw [hal, e]
          rfl
      · cases h2
    | min =>
      simp only [builtinV] at h2
      split at h2
      · obtain ⟨v, g1, h3⟩ := R.bind_ok.1 h2
        obtain ⟨k, p, k', q, rfl, rfl, rfl⟩ := mm_ok g1
        obtain ⟨u, v, e, u1, u2⟩ := two hargs
        simp only [V] at u1 u2
        subst u1 u2
        refine (ValPost.pure (res := (Builtin.min_ c.argTypes o.type (c.args.map a.eval)).run P w) hM (v' := .int k (if q < p then q else p)) ?_ h3 ?_).op (run_val _ _)
        · simp only [V, cond_false]
          by_cases hq : q < p <;> simp [hq]
        · unfold Builtin.min_
          rw [hal, e]
          rfl
      · cases h2
    | append =>
      obtain ⟨x, g1, h3⟩ := R.bind_ok.1 h2
      obtain ⟨y, g2, h4⟩ := R.bind_ok.1 h3
      obtain ⟨t, g3, h5⟩ := R.bind_ok.1 h4
      obtain ⟨tx, g4, h6⟩ := R.bind_ok.1 h5
      obtain ⟨ei, g5, h7⟩ := R.bind_ok.1 h6
      obtain ⟨ui, g6, h8⟩ := R.bind_ok.1 h7
      obtain ⟨cc, g7, h9⟩ := R.bind_ok.1 h8
      obtain ⟨u, u1, u2⟩ := arg (R.of_ok.1 g1)
      obtain ⟨v, v1, v2⟩ := arg (R.of_ok.1 g2)
      refine (append_ok (ty := o.type) hM u2 v2 g5 g6 g7 h9).op ?_
      have : Builtin.append_ c.argTypes o.type (c.args.map a.eval) = Builtin.append_ #[t, tx] o.type #[u, v] := by
        unfold Builtin.append_
        rw [tsl (R.of_ok.1 g3), tsl (R.of_ok.1 g4), u1, v1]
        rfl
      rw [← this]
      exact run_val _ _
    | copy =>
      obtain ⟨x, g1, h3⟩ := R.bind_ok.1 h2
      obtain ⟨y, g2, h4⟩ := R.bind_ok.1 h3
      obtain ⟨t, g3, h5⟩ := R.bind_ok.1 h4
      obtain ⟨ei, g5, h6⟩ := R.bind_ok.1 h5
      obtain ⟨cc, g7, h7⟩ := R.bind_ok.1 h6
      obtain ⟨u, u1, u2⟩ := arg (R.of_ok.1 g1)
      obtain ⟨v, v1, v2⟩ := arg (R.of_ok.1 g2)
      exact (copy_ok (tx := t) (ty := o.type) hM (tsl (R.of_ok.1 g3)) u1 v1 u2 v2 g5 g7 h7).op (run_val _ _)
    | clear =>
      obtain ⟨x, g1, h3⟩ := R.bind_ok.1 h2
      obtain ⟨t, g3, h4⟩ := R.bind_ok.1 h3
      obtain ⟨ei, g5, h5⟩ := R.bind_ok.1 h4
      obtain ⟨u, u1, u2⟩ := arg (R.of_ok.1 g1)
      exact (clear_ok (ty := o.type) hM (tsl (R.of_ok.1 g3)) u1 u2 g5 h5).op (run_val _ _)
    | delete =>
      obtain ⟨x, g1, h3⟩ := R.bind_ok.1 h2
      obtain ⟨k, g2, h4⟩ := R.bind_ok.1 h3
      obtain ⟨t, g3, h5⟩ := R.bind_ok.1 h4
      obtain ⟨ki, g5, h6⟩ := R.bind_ok.1 h5
      obtain ⟨u, u1, u2⟩ := arg (R.of_ok.1 g1)
      obtain ⟨v, v1, v2⟩ := arg (R.of_ok.1 g2)
      cases x with
      | mp id => exact (delete_ok (ty := o.type) hO hM (tsl (R.of_ok.1 g3)) u1 v1 u2 v2 g5 h6).op (run_val _ _)
      | _ => cases h6
    | _ => cases h2
  | value f =>
    rw [hc] at h2
    obtain ⟨v, g1, h3⟩ := R.bind_ok.1 h2
    have hv := evO_ok hT g1
    split at h3
    · obtain ⟨g2, h4⟩ := R.if_ok.1 h3
      cases h4
      simp only [V] at hv
      obtain ⟨x, y, e, v1, v2⟩ := hv
      refine ⟨x ++ c.args.map a.eval ++ y, ?_, ?_⟩
      · simp only [execOp, ho, resolve, hc, Deferred.ofValue, e, pure_bind, invoke]
        exact run_callFunc g2 _
      · simp only [Array.toList_append, hal]
        exact (v1.append hargs).append v2
    · cases h3
  | invoke rc name =>
    rw [hc] at h2
    obtain ⟨v, g1, h3⟩ := R.bind_ok.1 h2
    have hv := evO_ok hT g1
    split at h3
    · rename_i t x
      obtain ⟨f, g2, h4⟩ := R.bind_ok.1 h3
      obtain ⟨g3, h5⟩ := R.if_ok.1 h4
      cases h5
      simp only [V] at hv
      obtain ⟨u, e, u1⟩ := hv
      refine ⟨#[u] ++ c.args.map a.eval, ?_, ?_⟩
      · simp only [execOp, ho, resolve, hc, pure_bind, invoke]
        have h0 : (#[a.eval rc] ++ c.args.map a.eval)[0]? = some (a.eval rc) := by
          rw [Array.getElem?_append_left (by simp)]; rfl
        rw [h0]
        have h1 : (#[a.eval rc] ++ c.args.map a.eval).extract 1 (#[a.eval rc] ++ c.args.map a.eval).size = c.args.map a.eval := by
          apply Array.ext'
          simp
          rw [List.take_of_length_le (by simp)]
        rw [h1, e]
        unfold callMethod
        dsimp only
        rw [Sem.run_bind, run_program]
        simp only [Result.andThen_ok]
        rw [Sem.run_bind, show P.types.size + Made.depth = (P.types.size + 99) + 1 from rfl, run_method (methodP_ok g2) u _ w]
        simp only [Result.andThen_ok]
        exact run_callFunc g3 _
      · simp only [Array.toList_append, hal]
        exact .cons u1 hargs
    · cases h3

theorem exec_ok (hO : OraOk ρ orb) (hT : TmOk ρ loc s.tm a) (hM : Mem ρ loc s.hp.get w) (h : execO P orb s o.op = .ok r) : OpPost ρ loc s w r ((execOp a.eval o).run P w) := by
  cases ho : o.op with
  | move x => exact o_move hT hM (.inl ho) h
  | assign x => exact o_move hT hM (.inr ho) h
  | pick c x y => exact o_pick hT hM ho h
  | alloc t => exact o_alloc hT hM ho h
  | box t x => exact o_box hT hM ho h
  | build t ps => exact o_build hT hM ho h
  | buildSlice t n ps => exact o_buildSlice hT hM ho h
  | load t x => exact o_load hT hM ho h
  | store t x y => exact o_store hT hM ho h
  | nilCheck x => exact o_nilCheck hT hM ho h
  | binOp op t x y t' => exact o_binOp hO hT hM ho h
  | unOp op t x => exact o_unOp hT hM ho h
  | convert t d x => exact o_convert hO hT hM ho h
  | makeInterface t x => exact o_makeInterface hT hM ho h
  | makeFunc f fi ca => exact o_makeFunc hT hM ho h
  | makeMap t x => exact o_makeMap hT hM ho h
  | slice t x lo hi mx => exact o_slice hT hM ho h
  | fieldAddr t x f => exact o_fieldAddr hT hM ho h
  | indexAddr t x ix => exact o_indexAddr hT hM ho h
  | index t x ix => exact o_index hT hM ho h
  | lookup t m k ok => exact o_lookup hO hT hM ho h
  | mapUpdate t m k x => exact o_mapUpdate hO hT hM ho h
  | range t x => exact o_range hT hM ho h
  | next x st => exact o_next hT hM ho h
  | entry x => exact o_entry hT hM ho h
  | extract x i => exact o_extract hT hM ho h
  | call c => exact o_call hO hT hM ho h
  | _ => rw [ho] at h; cases h

end

end Go.Cx
/- Lists of operations, code, calls: what the executor says is so, if it is so of regions whose order is drawn. No program is named here. -/
namespace Go.Cx

/-- Nothing lies yet at these numbers, nor at any beyond. -/
def FreeAll (loc : Lc) (nx : Nat) : Prop := ∀ id, nx ≤ id → loc id = none

structure ActOk (nt : Nat) (a : Act) : Prop where
  size : a.tmps.size = nt
  defers : a.defers = []

def dstD (nt : Nat) : Option Tmp → Bool
  | some d => Nat.blt d nt
  | none => true

def dstO (nt : Nat) (l : List Oper) : Bool := l.all fun o => dstD nt o.dst

def dstC (nt : Nat) : Code → Bool
  | .region _ ops _ => dstO nt ops.toList
  | .seq x y => dstC nt x && dstC nt y
  | .cond _ x y => dstC nt x && dstC nt y
  | .block _ b => dstC nt b
  | .loop b => dstC nt b
  | _ => true

/-- A call does what the executor says. -/
def CallOk (P : Program) (ρ : Env) (call : Callee) : Prop :=
  ∀ f args hp nx v hp' nx', call f args hp nx = .ok (v, hp', nx') → ∀ (loc : Lc) (w : World) (vs : Array Value), Mem ρ loc hp.get w → VL ρ loc args vs.toList → FreeAll loc nx →
    Calls P f vs w fun e w' => ∃ v' loc', e = .returned v' ∧ V ρ loc' v v' ∧ Step ρ loc hp.get nx w loc' hp'.get nx' w'

section
variable {P : Program} {orb : BinOp → CV → CV → Option CV} {ρ : Env} {call : Callee} {loc loc' : Lc} {s : St} {a : Act} {w w' : World} {o : Oper} {nt : Nat}

theorem FreeAll.free {nx : Nat} (h : FreeAll loc nx) (nx' : Nat) : Free loc nx nx' := fun id h1 _ => h id h1

theorem Step.freeAll {h h' : Nat → Option OB} {nx nx' : Nat} (st : Step ρ loc h nx w loc' h' nx' w') (hf : FreeAll loc nx) : FreeAll loc' nx' := fun id h1 => by
  rw [st.ext id (.inr h1)]
  exact hf id (Nat.le_trans st.le h1)

theorem ActOk.put (h : ActOk nt a) (d : Option Tmp) (v : Value) : ActOk nt (a.put d v) := by
  cases d with
  | none => exact h
  | some d => exact ⟨by simp [Act.put, h.size], h.defers⟩

theorem put_get (a : Act) (d : Tmp) (v : Value) (hd : d < a.tmps.size) (t : Tmp) : (a.put (some d) v).tmps.getD t undef = if t = d then v else a.tmps.getD t undef := by
  simp only [Act.put, Array.getD_eq_getD_getElem?, Array.getElem?_setIfInBounds]
  by_cases e : d = t
  · subst e; simp [hd]
  · rw [if_neg e, if_neg (fun h => e h.symm)]

theorem TmOk.put {tm : Tr CV} (h : TmOk ρ loc tm a) {d : Option Tmp} (hd : dstD nt d = true) (ha : ActOk nt a) {v : CV} {v' : Value} (hv : V ρ loc v v') : TmOk ρ loc (putD tm d v) (a.put d v') := by
  cases d with
  | none => exact h
  | some d =>
    have hd : d < nt := Nat.le_of_ble_eq_true hd
    intro t u hu
    rw [put_get a d v' (by rw [ha.size]; exact hd) t]
    simp only [putD, Tr.get_set] at hu
    split
    · rename_i e
      rw [if_pos e] at hu
      cases hu
      exact hv
    · rename_i e
      rw [if_neg e] at hu
      exact h t u hu

theorem wanted_ok {tm : Tr CV} (h : TmOk ρ loc tm a) {ops : Array Oper} {q : Bool} (hq : wantedV tm ops.toList o = .ok q) : Region.wanted o (yielded ops a.tmps) = q := by
  unfold wantedV at hq
  unfold Region.wanted
  split at hq
  · rename_i hg
    cases hq
    rw [hg]
  · rename_i g hg
    obtain ⟨oj, h1, hq⟩ := R.bind_ok.1 hq
    obtain ⟨d, h2, hq⟩ := R.bind_ok.1 hq
    obtain ⟨v, h3, hq⟩ := R.bind_ok.1 hq
    obtain ⟨j, want⟩ := g
    rw [hg]
    have h4 := h d v (R.of_ok.1 h3)
    have h1 : ops[j]? = some oj := by simpa using R.of_ok.1 h1
    have h2 := R.of_ok.1 h2
    dsimp only at *
    have hy : yielded ops a.tmps j = match a.tmps.getD d undef with | .bool b => some b | _ => none := by
      unfold yielded
      rw [h1]
      simp only [Option.bind_some, h2, Array.getD_eq_getD_getElem?]
      cases a.tmps[d]? <;> simp [undef]
      rename_i v
      cases v <;> rfl
    split at hq
    · rename_i b
      cases hq
      simp only [V] at h4
      rw [hy, h4]
      simp
    · cases hq
      simp only [V] at h4
      rw [hy, h4]
      rfl
    · cases hq

/-- One operation that is wanted. -/
def execU (P : Program) (orb : BinOp → CV → CV → Option CV) (call : Callee) (o : Op) (s : St) : R (CV × Tr OB × Nat) :=
  (execO P orb s o).bind fun r => match r with
    | .val v hp nx => .ok (v, hp, nx)
    | .enter f args => call f args s.hp s.nx

theorem run_one (hO : OraOk ρ orb) (hC : CallOk P ρ call) (hT : TmOk ρ loc s.tm a) (hM : Mem ρ loc s.hp.get w) {v : CV} {hp : Tr OB} {nx : Nat} (h : execU P orb call o.op s = .ok (v, hp, nx)) (hf : FreeAll loc s.nx)
    {next : Act → World → Prop} {Q : Exit → Act → World → Prop} (hn : ∀ v' w' loc', V ρ loc' v v' → Step ρ loc s.hp.get s.nx w loc' hp.get nx w' → next (a.put o.dst v') w') : o.wp P a w next Q := by
  obtain ⟨r, h1, h2⟩ := R.bind_ok.1 h
  have hp' := exec_ok (o := o) hO hT hM h1
  unfold Oper.wp
  split at h2
  · cases h2
    obtain ⟨v', w', loc', e, hv, hs⟩ := hp' (hf.free _)
    rcases e with e | ⟨e, rfl⟩
    · rw [e, Oper.upon_value]
      exact hn _ _ _ hv hs
    · rw [e, Oper.upon_skip]
      exact hn _ _ _ hv hs
  · obtain ⟨vs, e, hv⟩ := hp'
    rw [e, Oper.upon_enter]
    refine (hC _ _ _ _ _ _ _ h2 loc w vs hM hv hf).mono ?_
    rintro e w' ⟨v', loc', rfl, h3, h4⟩
    exact hn _ _ _ h3 h4

/-- Where code, or a list of operations, leads to. -/
def Post (ρ : Env) (nt : Nat) (loc : Lc) (h : Nat → Option OB) (nx : Nat) (w : World) (s' : St) (a' : Act) (w' : World) : Prop :=
  ∃ loc', TmOk ρ loc' s'.tm a' ∧ Step ρ loc h nx w loc' s'.hp.get s'.nx w' ∧ FreeAll loc' s'.nx ∧ ActOk nt a'

theorem Post.trans {h : Nat → Option OB} {nx : Nat} {w0 : World} {loc0 : Lc} (st : Step ρ loc0 h nx w0 loc s.hp.get s.nx w) {s' : St} {a' : Act} (p : Post ρ nt loc s.hp.get s.nx w s' a' w') : Post ρ nt loc0 h nx w0 s' a' w' := by
  obtain ⟨loc', h1, h2, h3, h4⟩ := p
  exact ⟨loc', h1, st.trans h2, h3, h4⟩

theorem ops_ok (hO : OraOk ρ orb) (hC : CallOk P ρ call) {ops : Array Oper} : ∀ {l : List Oper} {s s' : St} {loc : Lc} {a : Act} {w : World}, execOps P orb call ops.toList l s = .ok s' → dstO nt l = true → TmOk ρ loc s.tm a → Mem ρ loc s.hp.get w → FreeAll loc s.nx → ActOk nt a →
    wpList P ops (fun e a' w' => e = .normal ∧ Post ρ nt loc s.hp.get s.nx w s' a' w') l a w
  | [], s, s', loc, a, w, h, hd, hT, hM, hf, ha => by
    cases h
    exact ⟨rfl, loc, hT, .refl hM, hf, ha⟩
  | o :: l, s, s', loc, a, w, h, hd, hT, hM, hf, ha => by
    obtain ⟨r, h1, h2⟩ := R.bind_ok.1 h
    obtain ⟨q, h3, h4⟩ := R.bind_ok.1 h1
    have hw := wanted_ok hT h3
    have hd' : dstD nt o.dst = true ∧ dstO nt l = true := by simpa [dstO] using hd
    unfold wpList
    rw [hw]
    cases q with
    | true =>
      rw [if_pos rfl]
      rw [cond_true] at h4
      obtain ⟨v, hp, nx⟩ := r
      refine .inl (run_one (o := o) (v := v) (hp := hp) (nx := nx) hO hC hT hM h4 hf fun v' w' loc' hv hs => ?_)
      have := ops_ok hO hC h2 hd'.2 (TmOk.put (hT.mono (hs.lle (hf.free _))) hd'.1 ha hv) hs.mem (hs.freeAll hf) (ha.put o.dst v')
      exact wpList_imp (fun e a' w' ⟨e1, e2⟩ => ⟨e1, Post.trans (s := ⟨s.tm, hp, nx⟩) hs e2⟩) this
    | false =>
      rw [if_neg (by simp)]
      rw [cond_false] at h4
      cases h4
      have := ops_ok (s := ⟨putD s.tm o.dst none', s.hp, s.nx⟩) hO hC h2 hd'.2 (hT.put hd'.1 ha (by simp [none', V, undef])) hM hf (ha.put o.dst undef)
      exact this
where
  wpList_imp {ops : Array Oper} {Q Q' : Exit → Act → World → Prop} (hq : ∀ e a w, Q e a w → Q' e a w) {l : List Oper} {a : Act} {w : World} (h : wpList P ops Q l a w) : wpList P ops Q' l a w := by
    induction l generalizing a w with
    | nil => exact hq _ _ _ h
    | cons o rest ih =>
      unfold wpList at h ⊢
      split
      · rename_i hw
        rw [if_pos hw] at h
        rcases h with h | ⟨h, a', w', h2⟩
        · refine .inl ?_
          unfold Oper.wp at h ⊢
          generalize (execOp a.eval o).run P w = r at h ⊢
          cases r with
          | ok n w' =>
            cases n <;> simp only [Oper.upon] at h ⊢ <;> first | exact h.elim | exact ih h | skip
            case enter f args =>
              refine h.mono fun e w' he => ?_
              cases e with
              | returned v => exact ih he
              | panicked c => exact hq _ _ _ he
              | outgrown => obtain ⟨a, w, hx⟩ := he; exact ⟨a, w, hq _ _ _ hx⟩
            case row r args => exact h.mono fun v w' he => ih he
          | halt x w' => cases x <;> simp only [Oper.upon] at h ⊢ <;> first | exact h.elim | exact hq _ _ _ h
        · exact .inr ⟨h, a', w', hq _ _ _ h2⟩
      · rename_i hw
        rw [if_neg hw] at h
        exact ih h

/-- A region whose order is drawn does what the executor says. -/
def DrawOk (P : Program) (ρ : Env) (nt : Nat) (draw : List Oper → St → R St) : Prop :=
  ∀ id (ops : Array Oper) s s', draw ops.toList s = .ok s' → dstO nt ops.toList = true → ∀ loc a w, TmOk ρ loc s.tm a → Mem ρ loc s.hp.get w → FreeAll loc s.nx → ActOk nt a →
    (Code.region id ops true).wp P (fun e a' w' => e = .normal ∧ Post ρ nt loc s.hp.get s.nx w s' a' w') a w

/-- A rule for loops is right. -/
def LoopOk (P : Program) (ρ : Env) (nt : Nat) (lp : Loops) : Prop :=
  ∀ b s e s', lp b s = some (.ok (e, s')) → dstC nt b = true → ∀ loc a w, TmOk ρ loc s.tm a → Mem ρ loc s.hp.get w → FreeAll loc s.nx → ActOk nt a →
    (Code.loop b).wp P (fun e' a' w' => e' = e ∧ Post ρ nt loc s.hp.get s.nx w s' a' w') a w

theorem code_ok (hO : OraOk ρ orb) (hC : CallOk P ρ call) {draw : List Oper → St → R St} (hD : DrawOk P ρ nt draw) {lp : Loops} (hL : LoopOk P ρ nt lp) (fuel : Nat) : ∀ (c : Code) (s : St) (e : Exit) (s' : St), execC P orb call draw lp fuel c s = .ok (e, s') → dstC nt c = true →
    ∀ loc a w, TmOk ρ loc s.tm a → Mem ρ loc s.hp.get w → FreeAll loc s.nx → ActOk nt a → c.wp P (fun e' a' w' => e' = e ∧ Post ρ nt loc s.hp.get s.nx w s' a' w') a w := by
  intro c
  induction c with
  | skip =>
    intro s e s' h hd loc a w hT hM hf ha
    cases h
    exact wp_skip ⟨rfl, loc, hT, .refl hM, hf, ha⟩
  | exit id =>
    intro s e s' h hd loc a w hT hM hf ha
    cases h
    exact wp_exit ⟨rfl, loc, hT, .refl hM, hf, ha⟩
  | ret =>
    intro s e s' h hd loc a w hT hM hf ha
    cases h
    exact wp_ret ⟨rfl, loc, hT, .refl hM, hf, ha⟩
  | region id ops d =>
    intro s e s' h hd loc a w hT hM hf ha
    obtain ⟨s1, h1, h⟩ := R.bind_ok.1 h
    cases h
    rw [R.mark_ok] at h1
    cases d with
    | true => exact hD id ops s s' h1 hd loc a w hT hM hf ha
    | false => exact wp_region_list (ops_ok hO hC h1 hd hT hM hf ha)
  | seq x y ihx ihy =>
    intro s e s' h hd loc a w hT hM hf ha
    obtain ⟨r, h1, h2⟩ := R.bind_ok.1 h
    obtain ⟨e1, s1⟩ := r
    have hd : dstC nt x = true ∧ dstC nt y = true := by simpa [dstC] using hd
    refine wp_seq (wp_mono (ihx s e1 s1 h1 hd.1 loc a w hT hM hf ha) ?_)
    rintro e' a' w' ⟨rfl, p⟩
    dsimp only at h2
    have other : e' ≠ .normal → R.ok (e', s1) = R.ok (e, s') → Exit.then (y.wp P fun e' a' w' => e' = e ∧ Post ρ nt loc s.hp.get s.nx w s' a' w') (fun e' a' w' => e' = e ∧ Post ρ nt loc s.hp.get s.nx w s' a' w') e' a' w' := fun hne he => by
      cases he
      cases e <;> first | exact (hne rfl).elim | exact ⟨rfl, p⟩
    cases e' with
    | normal =>
      obtain ⟨loc', p1, p2, p3, p4⟩ := p
      refine wp_mono (ihy s1 e s' h2 hd.2 loc' a' w' p1 p2.mem p3 p4) ?_
      rintro e2 a2 w2 ⟨rfl, q⟩
      exact ⟨rfl, Post.trans p2 q⟩
    | _ => exact other (by simp) h2
  | cond c x y ihx ihy =>
    intro s e s' h hd loc a w hT hM hf ha
    obtain ⟨v, h1, h2⟩ := R.bind_ok.1 h
    have hd : dstC nt x = true ∧ dstC nt y = true := by simpa [dstC] using hd
    have hv := evO_ok hT h1
    split at h2
    · simp only [V] at hv
      exact wp_cond_true hv (ihx s e s' h2 hd.1 loc a w hT hM hf ha)
    · simp only [V] at hv
      exact wp_cond_false hv (ihy s e s' h2 hd.2 loc a w hT hM hf ha)
    · cases h2
  | block id b ih =>
    intro s e s' h hd loc a w hT hM hf ha
    obtain ⟨r, h1, h2⟩ := R.bind_ok.1 h
    obtain ⟨e1, s1⟩ := r
    cases h2
    refine wp_block (wp_mono (ih s e1 s1 h1 hd loc a w hT hM hf ha) ?_)
    rintro e' a' w' ⟨rfl, p⟩
    cases e' with
    | exit id' =>
      simp only [Exit.inBlock, inB]
      by_cases e : id' = id
      · subst e
        simp [p]
      · rw [if_neg e]
        have : Nat.beq id' id = false := by
          cases hb : Nat.beq id' id with
          | false => rfl
          | true => exact (e (Nat.eq_of_beq_eq_true hb)).elim
        simp [this, p]
    | _ => exact ⟨rfl, p⟩
  | loop b ih =>
    intro s e s' h hd loc a w hT hM hf ha
    unfold execC at h
    split at h
    · rename_i r hr
      subst h
      exact hL b s e s' hr hd loc a w hT hM hf ha
    refine wp_loop_rounds fuel ?_
    change loopN (execC P orb call draw lp fuel b) fuel s = .ok (e, s') at h
    have key : ∀ (n : Nat) (s : St) (loc : Lc) (a : Act) (w : World), loopN (execC P orb call draw lp fuel b) n s = .ok (e, s') → TmOk ρ loc s.tm a → Mem ρ loc s.hp.get w → FreeAll loc s.nx → ActOk nt a →
        ∀ (Q : Exit → Act → World → Prop), (∀ a' w', Post ρ nt loc s.hp.get s.nx w s' a' w' → Q e a' w') → Code.rounds P b Q n a w := by
      intro n
      induction n with
      | zero => intro s loc a w h; cases h
      | succ n ihn =>
        intro s loc a w h hT hM hf ha Q hQ
        obtain ⟨r, h1, h2⟩ := R.bind_ok.1 h
        obtain ⟨e1, s1⟩ := r
        rw [rounds_succ]
        refine wp_mono (ih s e1 s1 h1 hd loc a w hT hM hf ha) ?_
        rintro e' a' w' ⟨rfl, p⟩
        dsimp only at h2
        cases e' with
        | normal =>
          obtain ⟨loc', p1, p2, p3, p4⟩ := p
          exact ihn s1 loc' a' w' h2 p1 p2.mem p3 p4 Q fun a2 w2 q => hQ a2 w2 (Post.trans p2 q)
        | _ => cases h2; exact hQ a' w' p
    exact key fuel s loc a w h hT hM hf ha _ fun a' w' p => ⟨rfl, p⟩
  | _ => intro s e s' h; cases h

end

end Go.Cx
/- What is needed for regions whose order is drawn: masks, new objects, who writes what. No program is named here. -/
namespace Go.Cx

/-- What edges lead to. -/
theorem maskOf_bit (acc : List Nat) (b : Nat) : ∀ (es : List Edge), (maskOf acc es).testBit b = true ↔ ∃ e, e ∈ es ∧ Region.binds .any e = true ∧ (b = e.on ∨ (acc.getD e.on 0).testBit b = true)
  | [] => by simp [maskOf]
  | e :: es => by
    have ih := maskOf_bit acc b es
    unfold maskOf at ih ⊢
    rw [List.foldr_cons]
    cases hb : Region.binds .any e with
    | true =>
      simp only [cond_true, Nat.testBit_or, Bool.or_eq_true, ih, Nat.testBit_two_pow, decide_eq_true_eq, List.mem_cons]
      constructor
      · rintro ((⟨e', h1, h2⟩ | h) | h)
        · exact ⟨e', .inr h1, h2⟩
        · exact ⟨e, .inl rfl, hb, .inl h.symm⟩
        · exact ⟨e, .inl rfl, hb, .inr h⟩
      · rintro ⟨e', h1 | h1, h2, h3⟩
        · subst h1
          rcases h3 with h3 | h3
          · exact .inl (.inr h3.symm)
          · exact .inr h3
        · exact .inl (.inl ⟨e', h1, h2, h3⟩)
    | false =>
      simp only [cond_false, ih, List.mem_cons]
      constructor
      · rintro ⟨e', h1, h2⟩; exact ⟨e', .inr h1, h2⟩
      · rintro ⟨e', h1 | h1, h2, h3⟩
        · subst h1; rw [hb] at h2; cases h2
        · exact ⟨e', h1, h2, h3⟩

theorem maskOf_congr {acc acc' : List Nat} : ∀ {es : List Edge}, (∀ e, e ∈ es → Region.binds .any e = true → acc.getD e.on 0 = acc'.getD e.on 0) → maskOf acc es = maskOf acc' es
  | [], _ => rfl
  | e :: es, h => by
    have ih := maskOf_congr (es := es) fun e' he => h e' (.tail _ he)
    unfold maskOf at ih ⊢
    rw [List.foldr_cons, List.foldr_cons, ih]
    cases hb : Region.binds .any e with
    | true => rw [h e (.head _) hb]
    | false => rfl

theorem masks_old : ∀ (l : List Oper) (acc : List Nat) (i : Nat), i < acc.length → (masks acc l).getD i 0 = acc.getD i 0
  | [], acc, i, h => rfl
  | o :: l, acc, i, h => by
    unfold masks
    rw [masks_old l _ i (by simp; omega)]
    simp [List.getD_eq_getElem?_getD, List.getElem?_append_left h]

theorem backE_at : ∀ {l : List Oper} {n : Nat}, backE n l = true → ∀ {k : Nat} {o : Oper}, l[k]? = some o → ∀ e, e ∈ o.after.toList → Region.binds .any e = true → e.on < n + k
  | [], n, _, k, o, hk => by simp at hk
  | o' :: l, n, h, k, o, hk => by
    unfold backE at h
    rw [Bool.and_eq_true] at h
    intro e he hb
    cases k with
    | zero =>
      simp at hk
      subst hk
      have := List.all_eq_true.1 h.1 e he
      rw [hb] at this
      simpa using this
    | succ k =>
      have := backE_at h.2 (by simpa using hk) e he hb
      omega

theorem masks_at : ∀ {l : List Oper} {acc : List Nat}, backE acc.length l = true → ∀ {k : Nat} {o : Oper}, l[k]? = some o → (masks acc l).getD (acc.length + k) 0 = maskOf (masks acc l) o.after.toList
  | [], acc, _, k, o, hk => by simp at hk
  | o' :: l, acc, h, k, o, hk => by
    have hb := backE_at h hk
    unfold backE at h
    rw [Bool.and_eq_true] at h
    cases k with
    | zero =>
      simp at hk
      subst hk
      unfold masks
      rw [masks_old l _ _ (by simp)]
      have : (acc ++ [maskOf acc o'.after.toList]).getD (acc.length + 0) 0 = maskOf acc o'.after.toList := by simp [List.getD_eq_getElem?_getD]
      rw [this]
      refine maskOf_congr fun e he h2 => ?_
      have hlt := hb e he h2
      rw [masks_old l _ _ (by simp; omega)]
      simp [List.getD_eq_getElem?_getD, List.getElem?_append_left (show e.on < acc.length by omega)]
    | succ k =>
      unfold masks
      have := masks_at (l := l) (acc := acc ++ [maskOf acc o'.after.toList]) (by simpa using h.2) (k := k) (o := o) (by simpa using hk)
      rw [← this]
      congr 1
      simp; omega

theorem slotHp_get {nx0 m : Nat} {hp : Tr OB} : ∀ {pend : List (Nat × OB)} {j : Nat} {o : OB}, (slotHp nx0 m pend hp).get j = some o → (∃ a, (a, o) ∈ pend ∧ m.testBit a = true ∧ j = nx0 + a) ∨ hp.get j = some o
  | [], j, o, h => .inr h
  | (a, ob) :: pend, j, o, h => by
    unfold slotHp at h
    rw [List.foldr_cons] at h
    cases hb : m.testBit a with
    | true =>
      rw [hb, cond_true, Tr.get_set] at h
      split at h
      · rename_i e
        cases h
        exact .inl ⟨a, .head _, hb, e⟩
      · rcases slotHp_get h with ⟨a', h1, h2, h3⟩ | h
        · exact .inl ⟨a', .tail _ h1, h2, h3⟩
        · exact .inr h
    | false =>
      rw [hb, cond_false] at h
      rcases slotHp_get h with ⟨a', h1, h2, h3⟩ | h
      · exact .inl ⟨a', .tail _ h1, h2, h3⟩
      · exact .inr h

theorem slotHp_old {nx0 m : Nat} {hp : Tr OB} : ∀ {pend : List (Nat × OB)} {j : Nat}, (hp.get j).isSome = true ∨ (∃ a o, (a, o) ∈ pend ∧ m.testBit a = true ∧ j = nx0 + a) → ((slotHp nx0 m pend hp).get j).isSome = true
  | [], j, h => by
    rcases h with h | ⟨a, o, h, _⟩
    · exact h
    · cases h
  | (a, ob) :: pend, j, h => by
    unfold slotHp
    rw [List.foldr_cons]
    have ih := fun h => slotHp_old (nx0 := nx0) (m := m) (hp := hp) (pend := pend) (j := j) h
    unfold slotHp at ih
    cases hb : m.testBit a with
    | true =>
      rw [cond_true, Tr.get_set]
      split
      · rfl
      · rename_i e
        refine ih ?_
        rcases h with h | ⟨a', o, h1, h2, h3⟩
        · exact .inl h
        · cases h1 with
          | head => exact (e h3).elim
          | tail _ h1 => exact .inr ⟨a', o, h1, h2, h3⟩
    | false =>
      rw [cond_false]
      refine ih ?_
      rcases h with h | ⟨a', o, h1, h2, h3⟩
      · exact .inl h
      · cases h1 with
        | head => rw [hb] at h2; cases h2
        | tail _ h1 => exact .inr ⟨a', o, h1, h2, h3⟩

theorem slotAll_get {nx0 : Nat} {hp : Tr OB} : ∀ {pend : List (Nat × OB)} {j : Nat} {o : OB}, (slotAll nx0 pend hp).get j = some o → (∃ a, (a, o) ∈ pend ∧ j = nx0 + a) ∨ hp.get j = some o
  | [], j, o, h => .inr h
  | (a, ob) :: pend, j, o, h => by
    unfold slotAll at h
    rw [List.foldr_cons, Tr.get_set] at h
    split at h
    · rename_i e
      cases h
      exact .inl ⟨a, .head _, e⟩
    · rcases slotAll_get h with ⟨a', h1, h3⟩ | h
      · exact .inl ⟨a', .tail _ h1, h3⟩
      · exact .inr h

theorem noSlot_at {nx0 m : Nat} {hp : Tr OB} : ∀ {n : Nat}, noSlot nx0 m hp n = true → ∀ a, a < n → m.testBit a = false → hp.get (nx0 + a) = none
  | 0, _, a, h, _ => by omega
  | n + 1, h, a, ha, hm => by
    unfold noSlot at h
    rw [Bool.and_eq_true] at h
    by_cases e : a = n
    · subst e
      have := h.1
      rw [hm] at this
      simpa using this
    · exact noSlot_at h.2 a (by omega) hm

/-- Who writes a temporary. -/
def dstAt (all : List Oper) (k : Nat) : Option Tmp := (all[k]?).bind (·.dst)

theorem writer_none {t : Tmp} : ∀ {l : List Oper} {i : Nat}, writer t l i = none → ∀ k, dstAt l k ≠ some t
  | [], i, h, k => by simp [dstAt]
  | o :: l, i, h, k => by
    unfold writer at h
    cases hd : o.dst with
    | none =>
      rw [hd] at h
      cases k with
      | zero => simp [dstAt, hd]
      | succ k => have := writer_none h k; simpa [dstAt] using this
    | some d =>
      rw [hd] at h
      dsimp only at h
      cases hb : Nat.beq d t with
      | true => rw [hb, cond_true] at h; cases h
      | false =>
        rw [hb, cond_false] at h
        have hne := Nat.ne_of_beq_eq_false hb
        cases k with
        | zero => simp [dstAt, hd]; exact hne
        | succ k => have := writer_none h k; simpa [dstAt] using this

theorem writer_some {t : Tmp} : ∀ {l : List Oper} {i w : Nat}, writer t l i = some w → i ≤ w ∧ dstAt l (w - i) = some t
  | [], i, w, h => by cases h
  | o :: l, i, w, h => by
    unfold writer at h
    have rec' : writer t l (i + 1) = some w → i ≤ w ∧ dstAt (o :: l) (w - i) = some t := fun h => by
      obtain ⟨h1, h2⟩ := writer_some h
      refine ⟨by omega, ?_⟩
      rw [show w - i = (w - (i + 1)) + 1 by omega]
      simpa [dstAt] using h2
    cases hd : o.dst with
    | none => rw [hd] at h; exact rec' h
    | some d =>
      rw [hd] at h
      dsimp only at h
      cases hb : Nat.beq d t with
      | true =>
        rw [hb, cond_true] at h
        cases h
        have := Nat.eq_of_beq_eq_true hb
        subst this
        exact ⟨Nat.le_refl _, by simp [dstAt, hd]⟩
      | false => rw [hb, cond_false] at h; exact rec' h

theorem once_at : ∀ {l : List Oper}, onceW l = true → ∀ {j k : Nat} {t : Tmp}, dstAt l j = some t → dstAt l k = some t → j = k
  | [], _, j, k, t, h, _ => by simp [dstAt] at h
  | o :: l, h, j, k, t, hj, hk => by
    have htail : onceW l = true := by
      unfold onceW at h
      split at h
      · rw [Bool.and_eq_true] at h; exact h.2
      · exact h
    have hhead : ∀ i, dstAt (o :: l) 0 = some t → dstAt (o :: l) (i + 1) = some t → False := fun i h0 hi => by
      have h0 : o.dst = some t := by simpa [dstAt] using h0
      unfold onceW at h
      rw [h0] at h
      dsimp only at h
      rw [Bool.and_eq_true] at h
      have := writer_none (by simpa using h.1) i
      exact this (by simpa [dstAt] using hi)
    cases j with
    | zero => cases k with
      | zero => rfl
      | succ k => exact (hhead k hj hk).elim
    | succ j => cases k with
      | zero => exact (hhead j hk hj).elim
      | succ k => rw [once_at htail (j := j) (k := k) (by simpa [dstAt] using hj) (by simpa [dstAt] using hk)]

theorem restr_ok {all : List Oper} {ms : List Nat} {i m : Nat} {tm : Tr CV} : ∀ {l : List Tmp} {r : Tr CV}, restr all ms i m tm l = .ok r → ∀ t v, r.get t = some v → tm.get t = some v ∧ (match writer t all 0 with
      | none => true
      | some w => bif Nat.blt w i then m.testBit w else Nat.beq w i || (ms.getD w 0).testBit i) = true
  | [], r, h, t, v, hv => by cases h; cases hv
  | t' :: l, r, h, t, v, hv => by
    obtain ⟨r', h1, h2⟩ := R.bind_ok.1 h
    obtain ⟨h3, h4⟩ := R.if_ok.1 h2
    cases h4
    split at hv
    · rename_i u hu
      rw [Tr.get_set] at hv
      split at hv
      · rename_i e
        cases hv
        subst e
        exact ⟨hu, h3⟩
      · exact restr_ok h1 t v hv
    · exact restr_ok h1 t v hv

section
variable {P : Program} {orb : BinOp → CV → CV → Option CV}

theorem pure_still {s : St} {v v' : CV} {hp : Tr OB} {nx : Nat} (h : Out.pure s v = .ok (.val v' hp nx)) : hp = s.hp ∧ nx = s.nx := by
  cases h; exact ⟨rfl, rfl⟩

theorem exec_still {s : St} {o : Op} (hc : clOf o = .pure ∨ clOf o = .read) {v : CV} {hp : Tr OB} {nx : Nat} (h : execO P orb s o = .ok (.val v hp nx)) : hp = s.hp ∧ nx = s.nx := by
  have key : ∀ {α : Type} {x : R α} {f : α → R Out}, x.bind f = .ok (.val v hp nx) → (∀ a, f a = .ok (.val v hp nx) → hp = s.hp ∧ nx = s.nx) → hp = s.hp ∧ nx = s.nx := fun h hf => by
    obtain ⟨a, _, h⟩ := R.bind_ok.1 h
    exact hf a h
  have kif : ∀ {w : String} {b : Bool} {x : R Out}, R.if w b x = .ok (.val v hp nx) → (x = .ok (.val v hp nx) → hp = s.hp ∧ nx = s.nx) → hp = s.hp ∧ nx = s.nx := fun h hf => hf (R.if_ok.1 h).2
  cases o <;> first | (rcases hc with hc | hc <;> cases hc; done) | skip
  case call c =>
    change callV P orb s c = _ at h
    unfold callV at h
    cases hce : c.callee with
    | builtin b =>
      simp only [clOf, hce] at hc
      cases b <;> first | (rcases hc with hc | hc <;> cases hc; done) | skip
      all_goals
        rw [hce] at h
        refine key h fun args h => ?_
        simp only [builtinV] at h
        repeat' first
          | exact pure_still h
          | (refine key h fun _ h => ?_)
          | (split at h)
          | cases h
    | _ => simp only [clOf, hce] at hc; rcases hc with hc | hc <;> cases hc
  all_goals
    unfold execO at h
    repeat' first
      | exact pure_still h
      | (refine key h fun _ h => ?_)
      | (refine kif h fun h => ?_)
      | (unfold entryV at h)
      | (split at h)
      | cases h

end

end Go.Cx
/- Regions whose order is drawn: the pass in the order of the text, step by step. No program is named here. -/
namespace Go.Cx

theorem le_ind {i : Nat} {motive : (j : Nat) → i ≤ j → Prop} (base : motive i (Nat.le_refl i)) (succ : ∀ j (h : i ≤ j), motive j h → motive (j + 1) (Nat.le_succ_of_le h)) : ∀ (j : Nat) (h : i ≤ j), motive j h := by
  intro j h
  obtain ⟨k, rfl⟩ := Nat.exists_eq_add_of_le h
  induction k with
  | zero => exact base
  | succ k ih => exact succ (i + k) (Nat.le_add_right i k) (ih (Nat.le_add_right i k))

theorem eqVal_eq {a b : Value} (h : eqVal a b = true) : a = b := by
  unfold eqVal at h
  split at h
  · split at h
    · simp at h; rw [h]
    · cases h
  · split at h
    · simp at h; rw [h.1, h.2]
    · cases h
  · split at h
    · rename_i x _ y
      unfold bytesEq at h
      obtain ⟨x⟩ := x
      obtain ⟨y⟩ := y
      simp at h
      rw [h]
    · cases h
  · split at h
    · rfl
    · cases h
  · split at h
    · rw [Bool.and_eq_true] at h
      rw [Nat.eq_of_beq_eq_true h.1, Nat.eq_of_beq_eq_true h.2]
    · cases h
  · split at h
    · rfl
    · cases h
  · split at h
    · rfl
    · cases h
  · split at h
    · rfl
    · cases h
  · cases h

mutual
theorem eqCV_eq : ∀ (x y : CV), eqCV x y = true → x = y
  | .lit a, y, h => by
    cases y <;> simp only [eqCV] at h <;> first | cases h; done | rw [eqVal_eq h]
  | .sym a, y, h => by
    cases y <;> simp only [eqCV] at h <;> first | cases h; done | rw [Nat.eq_of_beq_eq_true h]
  | .ptr a b, y, h => by
    cases y <;> simp only [eqCV] at h <;> first | cases h; done | skip
    rw [Bool.and_eq_true] at h
    rw [Nat.eq_of_beq_eq_true h.1, Nat.eq_of_beq_eq_true h.2]
  | .sl a b c d e f, y, h => by
    cases y <;> simp only [eqCV] at h <;> first | cases h; done | skip
    simp only [Bool.and_eq_true] at h
    obtain ⟨⟨⟨⟨⟨h1, h2⟩, h3⟩, h4⟩, h5⟩, h6⟩ := h
    rw [Nat.eq_of_beq_eq_true h1, Nat.eq_of_beq_eq_true h2, Nat.eq_of_beq_eq_true h3, Nat.eq_of_beq_eq_true h4, Nat.eq_of_beq_eq_true h5, beq_iff_eq.1 h6]
  | .mp a, y, h => by
    cases y <;> simp only [eqCV] at h <;> first | cases h; done | rw [Nat.eq_of_beq_eq_true h]
  | .it a, y, h => by
    cases y <;> simp only [eqCV] at h <;> first | cases h; done | rw [Nat.eq_of_beq_eq_true h]
  | .opq a b, y, h => by
    cases y <;> simp only [eqCV] at h <;> first | cases h; done | skip
    rw [Bool.and_eq_true] at h
    rw [Nat.eq_of_beq_eq_true h.1, Nat.eq_of_beq_eq_true h.2]
  | .ifc t v, y, h => by
    cases y <;> simp only [eqCV] at h <;> first | cases h; done | skip
    rw [Bool.and_eq_true] at h
    rw [Nat.eq_of_beq_eq_true h.1, eqCV_eq v _ h.2]
  | .agg cs, y, h => by
    cases y <;> simp only [eqCV] at h <;> first | cases h; done | rw [eqCVs_eq cs _ h]
  | .tup cs, y, h => by
    cases y <;> simp only [eqCV] at h <;> first | cases h; done | rw [eqCVs_eq cs _ h]
  | .fn _ _ _, _, h => by simp only [eqCV] at h; cases h
theorem eqCVs_eq : ∀ (x y : List CV), eqCVs x y = true → x = y
  | [], y, h => by cases y <;> simp only [eqCVs] at h <;> first | rfl | cases h
  | a :: l, y, h => by
    cases y with
    | nil => simp only [eqCVs] at h; cases h
    | cons b m =>
      simp only [eqCVs, Bool.and_eq_true] at h
      rw [eqCV_eq a b h.1, eqCVs_eq l m h.2]
end

/-- What one operation of the pass was. -/
inductive Kd (P : Program) (orb : BinOp → CV → CV → Option CV) (call : Callee) (nx0 : Nat) (all : List Oper) (ms : List Nat) (i : Nat) (o : Oper) (tm : Tr CV) (d : DS) : DS → Prop
  | skip : wantedV tm all o = .ok false → Kd P orb call nx0 all ms i o tm d { d with tm := putD d.tm o.dst none' }
  | pure (v : CV) (hp : Tr OB) (nx : Nat) : wantedV tm all o = .ok true → clOf o.op = .pure → execO P orb ⟨tm, .e, 0⟩ o.op = .ok (.val v hp nx) → Kd P orb call nx0 all ms i o tm d { d with tm := putD d.tm o.dst v }
  | alloc (v : CV) (hp : Tr OB) (ob : OB) : wantedV tm all o = .ok true → execO P orb ⟨tm, .e, nx0 + i⟩ o.op = .ok (.val v hp (nx0 + i + 1)) → hp.get (nx0 + i) = some ob →
      Kd P orb call nx0 all ms i o tm d { d with tm := putD d.tm o.dst v, pend := (i, ob) :: d.pend }
  | read (v : CV) (hp : Tr OB) (nx : Nat) : wantedV tm all o = .ok true → clOf o.op = .read → execO P orb ⟨tm, slotHp nx0 (ms.getD i 0) d.pend d.hp, 0⟩ o.op = .ok (.val v hp nx) → readsBack P orb nx0 (ms.getD i 0) o.op tm v d.hist = .ok () →
      Kd P orb call nx0 all ms i o tm d { d with tm := putD d.tm o.dst v, reads := ⟨i, o.op, tm, ms.getD i 0, v⟩ :: d.reads }
  | eff (v : CV) (hp : Tr OB) (nx : Nat) : wantedV tm all o = .ok true → (∀ e rest, d.hist = e :: rest → (ms.getD i 0).testBit e.i = true) → execU P orb call o.op ⟨tm, slotHp nx0 (ms.getD i 0) d.pend d.hp, d.nx⟩ = .ok (v, hp, nx) →
      readsOn P orb nx0 (ms.getD i 0) (left? (ms.getD i 0) d.pend) hp d.reads = .ok () → noSlot nx0 (ms.getD i 0) hp all.length = true →
      Kd P orb call nx0 all ms i o tm d ⟨putD d.tm o.dst v, hp, nx, left? (ms.getD i 0) d.pend, ⟨i, d.hp, d.pend⟩ :: d.hist, d.reads⟩

section
variable {P : Program} {orb : BinOp → CV → CV → Option CV} {call : Callee} {nx0 : Nat} {all : List Oper} {ms : List Nat}

theorem stepD_kd {i : Nat} {o : Oper} {d d' : DS} (h : stepD P orb call nx0 all ms i o d = .ok d') : ∃ tm, restr all ms i (ms.getD i 0) d.tm (tmpsOf o.op.operands.toList ++ guardT all o) = .ok tm ∧ Kd P orb call nx0 all ms i o tm d d' := by
  obtain ⟨tm, h1, h⟩ := R.bind_ok.1 h
  obtain ⟨w, h2, h⟩ := R.bind_ok.1 h
  refine ⟨tm, h1, ?_⟩
  cases w with
  | false => cases h; exact .skip h2
  | true =>
    rw [Bool.not_true, cond_false] at h
    split at h
    · rename_i hc
      obtain ⟨r, h3, h⟩ := R.bind_ok.1 h
      split at h
      · cases h; exact .pure _ _ _ h2 hc h3
      · cases h
    · obtain ⟨r, h3, h⟩ := R.bind_ok.1 h
      split at h
      · obtain ⟨h4, h⟩ := R.if_ok.1 h
        obtain ⟨ob, h5, h⟩ := R.bind_ok.1 h
        cases h
        have h4 := Nat.eq_of_beq_eq_true h4
        subst h4
        exact .alloc _ _ _ h2 h3 (R.of_ok.1 h5)
      · cases h
    · rename_i hc
      obtain ⟨r, h3, h⟩ := R.bind_ok.1 h
      split at h
      · obtain ⟨u, h4, h⟩ := R.bind_ok.1 h
        cases h
        exact .read _ _ _ h2 hc h3 h4
      · cases h
    · obtain ⟨h3, h⟩ := R.if_ok.1 h
      obtain ⟨r, h4, h⟩ := R.bind_ok.1 h
      obtain ⟨x, h5, h⟩ := R.bind_ok.1 h
      obtain ⟨u, h6, h⟩ := R.bind_ok.1 h
      obtain ⟨h7, h⟩ := R.if_ok.1 h
      cases h
      obtain ⟨v, hp, nx⟩ := x
      refine .eff v hp nx h2 (fun e rest he => by rw [he] at h3; exact h3) ?_ h6 h7
      unfold execU
      exact R.bind_ok.2 ⟨r, h4, h5⟩

/-- The pass, state by state. -/
theorem passD_tr : ∀ {l : List Oper} {i : Nat} {d d' : DS}, passD P orb call nx0 all ms i l d = .ok d' →
    ∃ D : Nat → DS, D i = d ∧ D (i + l.length) = d' ∧ ∀ k o, l[k]? = some o → stepD P orb call nx0 all ms (i + k) o (D (i + k)) = .ok (D (i + k + 1))
  | [], i, d, d', h => by
    cases h
    exact ⟨fun _ => d, rfl, rfl, fun k o hk => by simp at hk⟩
  | o :: l, i, d, d', h => by
    obtain ⟨d1, h1, h2⟩ := R.bind_ok.1 h
    rw [R.mark_ok] at h1
    obtain ⟨D, e1, e2, e3⟩ := passD_tr h2
    refine ⟨fun j => if j = i then d else D j, if_pos rfl, ?_, fun k o' hk => ?_⟩
    · dsimp only
      rw [if_neg (by simp), ← e2]
      congr 1
      simp; omega
    · cases k with
      | zero =>
        simp at hk
        subst hk
        dsimp only
        rw [if_pos (by omega), if_neg (by omega)]
        rw [show i + 0 + 1 = i + 1 by omega, e1]
        exact h1
      | succ k =>
        dsimp only
        rw [if_neg (by omega), if_neg (by omega)]
        have := e3 k o' (by simpa using hk)
        rw [show i + (k + 1) = i + 1 + k by omega]
        exact this

/-- A trace of the pass. -/
structure Tra (P : Program) (orb : BinOp → CV → CV → Option CV) (call : Callee) (nx0 : Nat) (all : List Oper) (D : Nat → DS) : Prop where
  hist0 : (D 0).hist = []
  pend0 : (D 0).pend = []
  once : onceW all = true
  back : backE 0 all = true
  step : ∀ i o, all[i]? = some o → ∃ tm, restr all (masks [] all) i ((masks [] all).getD i 0) (D i).tm (tmpsOf o.op.operands.toList ++ guardT all o) = .ok tm ∧ Kd P orb call nx0 all (masks [] all) i o tm (D i) (D (i + 1))

/-- What must come before an operation. -/
def Mk (all : List Oper) (i : Nat) : Nat := (masks [] all).getD i 0

variable {D : Nat → DS}

theorem Tra.mk_bit (T : Tra P orb call nx0 all D) {i : Nat} {o : Oper} (hi : all[i]? = some o) (b : Nat) : (Mk all i).testBit b = true ↔ ∃ e, e ∈ o.after.toList ∧ Region.binds .any e = true ∧ (b = e.on ∨ (Mk all e.on).testBit b = true) := by
  have := masks_at (acc := []) (l := all) T.back hi
  simp only [List.length_nil, Nat.zero_add] at this
  unfold Mk
  rw [this]
  exact maskOf_bit _ b _

theorem mk_none {i : Nat} (hi : all[i]? = none) : Mk all i = 0 := by
  have hl : ∀ (l : List Oper) (acc : List Nat), (masks acc l).length = acc.length + l.length := by
    intro l
    induction l with
    | nil => intro acc; rfl
    | cons o l ih => intro acc; unfold masks; rw [ih]; simp; omega
  unfold Mk
  rw [List.getD_eq_getElem?_getD, List.getElem?_eq_none (by rw [hl]; have := List.getElem?_eq_none_iff.1 hi; simpa using this)]
  rfl

theorem Tra.mk_lt (T : Tra P orb call nx0 all D) : ∀ (i b : Nat), (Mk all i).testBit b = true → b < i := by
  intro i
  induction i using Nat.strongRecOn with
  | _ i ih =>
    intro b hb
    cases hi : all[i]? with
    | none => rw [mk_none hi] at hb; simp at hb
    | some o =>
      obtain ⟨e, h1, h2, h3⟩ := (T.mk_bit hi b).1 hb
      have := backE_at T.back hi e h1 h2
      rcases h3 with h3 | h3
      · omega
      · have := ih e.on (by omega) b h3
        omega

theorem Tra.mk_trans (T : Tra P orb call nx0 all D) : ∀ (i e b : Nat), (Mk all i).testBit e = true → (Mk all e).testBit b = true → (Mk all i).testBit b = true := by
  intro i
  induction i using Nat.strongRecOn with
  | _ i ih =>
    intro e b he hb
    cases hi : all[i]? with
    | none => rw [mk_none hi] at he; simp at he
    | some o =>
      obtain ⟨g, h1, h2, h3⟩ := (T.mk_bit hi e).1 he
      have := backE_at T.back hi g h1 h2
      refine (T.mk_bit hi b).2 ⟨g, h1, h2, .inr ?_⟩
      rcases h3 with h3 | h3
      · rw [← h3]; exact hb
      · exact ih g.on (by omega) e b h3 hb

/-- An effect. -/
def Ef (D : Nat → DS) (e : Nat) : Prop := (D (e + 1)).hist = ⟨e, (D e).hp, (D e).pend⟩ :: (D e).hist

theorem Tra.get {i : Nat} (hi : i < all.length) : ∃ o, all[i]? = some o := ⟨all[i], List.getElem?_eq_getElem hi⟩

theorem Tra.quiet (T : Tra P orb call nx0 all D) {i : Nat} (hi : i < all.length) (he : ¬ Ef D i) : (D (i + 1)).hist = (D i).hist ∧ (D (i + 1)).hp = (D i).hp ∧ (D (i + 1)).nx = (D i).nx := by
  obtain ⟨o, ho⟩ := Tra.get hi
  obtain ⟨tm, _, k⟩ := T.step i o ho
  unfold Ef at he
  generalize D (i + 1) = d' at k he
  cases k <;> first | exact ⟨rfl, rfl, rfl⟩ | exact (he rfl).elim

theorem Tra.quiets (T : Tra P orb call nx0 all D) {i : Nat} : ∀ {j : Nat}, i ≤ j → j ≤ all.length → (∀ e, i ≤ e → e < j → ¬ Ef D e) → (D j).hist = (D i).hist ∧ (D j).hp = (D i).hp ∧ (D j).nx = (D i).nx := by
  intro j hij
  induction j, hij using le_ind with
  | base => intro _ _; exact ⟨rfl, rfl, rfl⟩
  | succ j hij ih =>
    intro hj he
    obtain ⟨h1, h2, h3⟩ := ih (by omega) fun e h1 h2 => he e h1 (by omega)
    obtain ⟨g1, g2, g3⟩ := T.quiet (i := j) (by omega) (he j hij (by omega))
    exact ⟨g1.trans h1, g2.trans h2, g3.trans h3⟩

/-- The last effect before a place; the first one from a place on. -/
theorem last_ef (D : Nat → DS) (i : Nat) : ∀ j, i ≤ j → (∀ e, i ≤ e → e < j → ¬ Ef D e) ∨ ∃ e, i ≤ e ∧ e < j ∧ Ef D e ∧ ∀ e', e < e' → e' < j → ¬ Ef D e' := by
  intro j hij
  induction j, hij using le_ind with
  | base => exact .inl fun e h1 h2 => by omega
  | succ j hij ih =>
    by_cases h : Ef D j
    · exact .inr ⟨j, hij, by omega, h, fun e' h1 h2 => by omega⟩
    · rcases ih with ih | ⟨e, h1, h2, h3, h4⟩
      · refine .inl fun e h1 h2 => ?_
        by_cases e' : e = j
        · subst e'; exact h
        · exact ih e h1 (by omega)
      · refine .inr ⟨e, h1, by omega, h3, fun e' h5 h6 => ?_⟩
        by_cases e'' : e' = j
        · subst e''; exact h
        · exact h4 e' h5 (by omega)

theorem first_ef (D : Nat → DS) (i : Nat) : ∀ j, i ≤ j → (∀ e, i ≤ e → e < j → ¬ Ef D e) ∨ ∃ e, i ≤ e ∧ e < j ∧ Ef D e ∧ ∀ e', i ≤ e' → e' < e → ¬ Ef D e' := by
  intro j hij
  induction j, hij using le_ind with
  | base => exact .inl fun e h1 h2 => by omega
  | succ j hij ih =>
    rcases ih with ih | ⟨e, h1, h2, h3, h4⟩
    · by_cases h : Ef D j
      · exact .inr ⟨j, hij, by omega, h, ih⟩
      · refine .inl fun e h1 h2 => ?_
        by_cases e' : e = j
        · subst e'; exact h
        · exact ih e h1 (by omega)
    · exact .inr ⟨e, h1, by omega, h3, h4⟩

/-- What the last effect before a place has taken. -/
def Cm (all : List Oper) (D : Nat → DS) (p : Nat) : Nat :=
  match (D p).hist with
  | [] => 0
  | e :: _ => Mk all e.i

theorem cm_of {p q : Nat} (h : (D p).hist = (D q).hist) : Cm all D p = Cm all D q := by unfold Cm; rw [h]

theorem cm_ef {e : Nat} (h : Ef D e) : Cm all D (e + 1) = Mk all e := by unfold Cm; rw [h]

/-- The head of the history is the last effect. -/
theorem Tra.hist_head (T : Tra P orb call nx0 all D) : ∀ {i : Nat}, i ≤ all.length → ∀ {e : Ep} {rest : List Ep}, (D i).hist = e :: rest → e.i < i ∧ Ef D e.i ∧ (∀ e', e.i < e' → e' < i → ¬ Ef D e') ∧ e.hp = (D e.i).hp ∧ e.pend = (D e.i).pend ∧ rest = (D e.i).hist
  | 0, _, e, rest, h => by rw [T.hist0] at h; cases h
  | i + 1, hi, e, rest, h => by
    by_cases he : Ef D i
    · have h2 := h
      rw [he] at h2
      cases h2
      exact ⟨by dsimp only; omega, he, fun e' h1 h2 => by dsimp only at h1; omega, rfl, rfl, rfl⟩
    · rw [(T.quiet (by omega) he).1] at h
      obtain ⟨h1, h2, h3, h4⟩ := T.hist_head (i := i) (by omega) h
      refine ⟨by omega, h2, fun e' g1 g2 => ?_, h4⟩
      by_cases e'' : e' = i
      · subst e''; exact he
      · exact h3 e' g1 (by omega)

theorem Tra.cm_lt (T : Tra P orb call nx0 all D) {p : Nat} (hp : p ≤ all.length) {b : Nat} (h : (Cm all D p).testBit b = true) : b < p := by
  unfold Cm at h
  split at h
  · simp at h
  · rename_i e rest he
    have := (T.hist_head hp he).1
    have := T.mk_lt _ _ h
    omega

/-- A new object, by the operation that makes it. -/
def Al (D : Nat → DS) (a : Nat) (ob : OB) : Prop := (a, ob) ∈ (D (a + 1)).pend

theorem mem_left {m : Nat} {pend : List (Nat × OB)} {a : Nat} {ob : OB} : (a, ob) ∈ left? m pend ↔ (a, ob) ∈ pend ∧ m.testBit a = false := by
  unfold left?
  simp

theorem Tra.pend_iff (T : Tra P orb call nx0 all D) : ∀ {i : Nat}, i ≤ all.length → ∀ a ob, (a, ob) ∈ (D i).pend ↔ a < i ∧ Al D a ob ∧ (Cm all D i).testBit a = false
  | 0, _, a, ob => by rw [T.pend0]; simp
  | i + 1, hi, a, ob => by
    have ih := T.pend_iff (i := i) (by omega)
    obtain ⟨o, ho⟩ := Tra.get (show i < all.length by omega)
    obtain ⟨tm, _, k⟩ := T.step i o ho
    -- what stays
    have same : (D (i + 1)).pend = (D i).pend → (D (i + 1)).hist = (D i).hist → ((a, ob) ∈ (D (i + 1)).pend ↔ a < i + 1 ∧ Al D a ob ∧ (Cm all D (i + 1)).testBit a = false) := fun h1 h2 => by
      rw [cm_of h2, h1, ih]
      constructor
      · rintro ⟨g1, g2⟩; exact ⟨by omega, g2⟩
      · rintro ⟨g1, g2, g3⟩
        refine ⟨?_, g2, g3⟩
        rcases Nat.lt_or_ge a i with h | h
        · exact h
        · have : a = i := by omega
          subst this
          unfold Al at g2
          rw [h1, ih] at g2
          exact g2.1
    generalize hd : D (i + 1) = d' at k
    cases k with
    | skip h2 => rw [← hd]; exact same (by rw [hd]) (by rw [hd])
    | pure v hp nx h2 h3 h4 => rw [← hd]; exact same (by rw [hd]) (by rw [hd])
    | read v hp nx h2 h3 h4 h5 => rw [← hd]; exact same (by rw [hd]) (by rw [hd])
    | alloc v hp ob' h2 h3 h4 =>
      have hc : Cm all D (i + 1) = Cm all D i := cm_of (by rw [hd])
      rw [hc]
      show (a, ob) ∈ (i, ob') :: (D i).pend ↔ _
      rw [List.mem_cons, ih]
      constructor
      · rintro (h | ⟨g1, g2⟩)
        · cases h
          refine ⟨by omega, ?_, ?_⟩
          · unfold Al; rw [hd]; exact List.mem_cons_self
          · cases hb : (Cm all D i).testBit i with
            | false => rfl
            | true => exact absurd (T.cm_lt (by omega) hb) (by omega)
        · exact ⟨by omega, g2⟩
      · rintro ⟨g1, g2, g3⟩
        rcases Nat.lt_or_ge a i with h | h
        · exact .inr ⟨h, g2, g3⟩
        · have : a = i := by omega
          subst this
          unfold Al at g2
          rw [hd] at g2
          have g2 : (a, ob) ∈ (a, ob') :: (D a).pend := g2
          rcases List.mem_cons.1 g2 with h' | h'
          · exact .inl h'
          · exact .inr ((ih a ob).1 h')
    | eff v hp nx h2 h3 h4 h5 h6 =>
      have he : Ef D i := by unfold Ef; rw [hd]
      have hc : Cm all D (i + 1) = Mk all i := cm_ef he
      rw [hc]
      show (a, ob) ∈ left? (Mk all i) (D i).pend ↔ _
      rw [mem_left, ih]
      constructor
      · rintro ⟨⟨g1, g2, g3⟩, g4⟩; exact ⟨by omega, g2, g4⟩
      · rintro ⟨g1, g2, g3⟩
        refine ⟨⟨?_, g2, ?_⟩, g3⟩
        · rcases Nat.lt_or_ge a i with h | h
          · exact h
          · have : a = i := by omega
            subst this
            unfold Al at g2
            rw [hd] at g2
            have g2 : (a, ob) ∈ left? (Mk all a) (D a).pend := g2
            exact ((ih a ob).1 (mem_left.1 g2).1).1
        · cases hb : (Cm all D i).testBit a with
          | false => rfl
          | true =>
            unfold Cm at hb
            split at hb
            · simp at hb
            · rename_i e rest hh
              have := T.mk_trans i e.i a (h3 e rest hh) hb
              rw [g3] at this; cases this

theorem Tra.cm_sub (T : Tra P orb call nx0 all D) {i : Nat} (hi : i < all.length) (he : Ef D i) {b : Nat} (h : (Cm all D i).testBit b = true) : (Mk all i).testBit b = true := by
  obtain ⟨o, ho⟩ := Tra.get hi
  obtain ⟨tm, _, k⟩ := T.step i o ho
  have hne : ∀ {l : List Ep} {e : Ep}, l ≠ e :: l := fun {l e} h => by
    have := congrArg List.length h
    simp at this
  unfold Ef at he
  unfold Cm at h
  split at h
  · simp at h
  · rename_i e rest hh
    have h3 : (Mk all i).testBit e.i = true := by
      generalize D (i + 1) = d' at k he
      cases k with
      | eff v hp nx h2 h3 h4 h5 h6 => exact h3 e rest hh
      | _ => exact (hne he).elim
    exact T.mk_trans i e.i b h3 h

/-- Nothing lies at the numbers of new objects that no effect has taken. -/
theorem Tra.none_at (T : Tra P orb call nx0 all D) (h0 : ∀ a, a < all.length → (D 0).hp.get (nx0 + a) = none) : ∀ {p : Nat}, p ≤ all.length → ∀ a, a < all.length → (Cm all D p).testBit a = false → (D p).hp.get (nx0 + a) = none
  | 0, _, a, ha, _ => h0 a ha
  | p + 1, hp, a, ha, hc => by
    by_cases he : Ef D p
    · rw [cm_ef he] at hc
      obtain ⟨o, ho⟩ := Tra.get (show p < all.length by omega)
      obtain ⟨tm, _, k⟩ := T.step p o ho
      have hne : ∀ {l : List Ep} {e : Ep}, l ≠ e :: l := fun {l e} h => by
        have := congrArg List.length h
        simp at this
      unfold Ef at he
      generalize D (p + 1) = d' at k he
      cases k with
      | eff v hp' nx h2 h3 h4 h5 h6 => exact noSlot_at h6 a ha hc
      | _ => exact (hne he).elim
    · obtain ⟨h1, h2, _⟩ := T.quiet (i := p) (by omega) he
      rw [h2]
      exact T.none_at h0 (by omega) a ha (by rw [← cm_of h1]; exact hc)

end

end Go.Cx
/- Regions whose order is drawn: what the executor says is so, whatever the order. No program is named here. -/
namespace Go.Cx

section
variable {P : Program} {orb : BinOp → CV → CV → Option CV} {call : Callee} {nx0 : Nat} {all : List Oper} {D : Nat → DS}

theorem Kd.tm {ms : List Nat} {i : Nat} {o : Oper} {tm : Tr CV} {d d' : DS} (k : Kd P orb call nx0 all ms i o tm d d') : ∃ v, d'.tm = putD d.tm o.dst v := by
  cases k <;> exact ⟨_, rfl⟩

theorem Tra.tm_keep (T : Tra P orb call nx0 all D) {i : Nat} (hi : i < all.length) {t : Tmp} (hd : dstAt all i ≠ some t) : (D (i + 1)).tm.get t = (D i).tm.get t := by
  obtain ⟨o, ho⟩ := Tra.get hi
  obtain ⟨tm, _, k⟩ := T.step i o ho
  obtain ⟨v, e⟩ := k.tm
  rw [e]
  unfold dstAt at hd
  rw [ho, Option.bind_some] at hd
  unfold putD
  split
  · rename_i d hdd
    rw [hdd] at hd
    rw [Tr.get_set, if_neg (fun e => hd (by rw [e]))]
  · rfl

theorem Tra.tm_keeps (T : Tra P orb call nx0 all D) {t : Tmp} {i : Nat} : ∀ {j : Nat}, i ≤ j → j ≤ all.length → (∀ k, i ≤ k → k < j → dstAt all k ≠ some t) → (D j).tm.get t = (D i).tm.get t := by
  intro j hij
  induction j, hij using le_ind with
  | base => intro _ _; rfl
  | succ j hij ih =>
    intro hj hk
    rw [T.tm_keep (by omega) (hk j hij (by omega))]
    exact ih (by omega) fun k h1 h2 => hk k h1 (by omega)

theorem Tra.tm_F (T : Tra P orb call nx0 all D) {k i : Nat} {t : Tmp} (hk : dstAt all k = some t) (h : k < i) (hi : i ≤ all.length) : (D all.length).tm.get t = (D i).tm.get t :=
  T.tm_keeps hi (Nat.le_refl _) fun k' h1 _ h2 => by
    have := once_at T.once hk h2
    omega

theorem Tra.reads_mem (T : Tra P orb call nx0 all D) {r : Rd} {i : Nat} : ∀ {j : Nat}, i ≤ j → j ≤ all.length → r ∈ (D i).reads → r ∈ (D j).reads := by
  intro j hij
  induction j, hij using le_ind with
  | base => intro _ h; exact h
  | succ j hij ih =>
    intro hj hr
    have hr := ih (by omega) hr
    obtain ⟨o, ho⟩ := Tra.get (show j < all.length by omega)
    obtain ⟨tm, _, k⟩ := T.step j o ho
    generalize D (j + 1) = d' at k
    cases k <;> first | exact hr | exact List.mem_cons_of_mem _ hr

theorem reads_ok {o : Op} {tm : Tr CV} {hp : Tr OB} {v : CV} (h : reads? P orb o tm hp v = .ok ()) : ∃ hp' nx', execO P orb ⟨tm, hp, 0⟩ o = .ok (.val v hp' nx') := by
  obtain ⟨r, h1, h2⟩ := R.bind_ok.1 h
  split at h2
  · obtain ⟨h3, _⟩ := R.if_ok.1 h2
    have := eqCV_eq _ _ h3
    subst this
    exact ⟨_, _, h1⟩
  · cases h2

theorem readsOn_at {m : Nat} {pend : List (Nat × OB)} {hp : Tr OB} : ∀ {l : List Rd}, readsOn P orb nx0 m pend hp l = .ok () → ∀ r, r ∈ l → m.testBit r.i = false → reads? P orb r.o r.tm (slotHp nx0 r.m pend hp) r.v = .ok ()
  | [], _, r, hr, _ => by cases hr
  | r' :: l, h, r, hr, hm => by
    obtain ⟨u, h1, h2⟩ := R.bind_ok.1 h
    cases hr with
    | head => rw [hm, cond_false] at h1; exact h1
    | tail _ hr => exact readsOn_at h2 r hr hm

theorem Tra.back_at (T : Tra P orb call nx0 all D) {m : Nat} {o : Op} {tm : Tr CV} {v : CV} : ∀ {i : Nat}, i ≤ all.length → readsBack P orb nx0 m o tm v (D i).hist = .ok () → ∀ {e : Nat}, e < i → Ef D e → (∀ e', e ≤ e' → e' < i → Ef D e' → m.testBit e' = false) →
    reads? P orb o tm (slotHp nx0 m (D e).pend (D e).hp) v = .ok ()
  | 0, _, _, e, he, _, _ => by omega
  | i + 1, hi, h, e, he, hE, hm => by
    by_cases hEi : Ef D i
    · rw [hEi] at h
      unfold readsBack at h
      rw [hm i (by omega) (by omega) hEi, cond_false] at h
      obtain ⟨u, h1, h2⟩ := R.bind_ok.1 h
      by_cases e' : e = i
      · subst e'; exact h1
      · exact T.back_at (i := i) (by omega) h2 (by omega) hE fun e' g1 g2 => hm e' g1 (by omega)
    · rw [(T.quiet (by omega) hEi).1] at h
      have : e ≠ i := fun e' => hEi (e' ▸ hE)
      exact T.back_at (i := i) (by omega) h (by omega) hE fun e' g1 g2 => hm e' g1 (by omega)

/-- What is read is the same wherever the operation may stand. -/
theorem Tra.read_at (T : Tra P orb call nx0 all D) {i : Nat} {o : Oper} (ho : all[i]? = some o) {tm : Tr CV} {v : CV} {hp : Tr OB} {nx : Nat} (h4 : execO P orb ⟨tm, slotHp nx0 (Mk all i) (D i).pend (D i).hp, 0⟩ o.op = .ok (.val v hp nx))
    (h5 : readsBack P orb nx0 (Mk all i) o.op tm v (D i).hist = .ok ()) (h6 : (⟨i, o.op, tm, Mk all i, v⟩ : Rd) ∈ (D (i + 1)).reads) (hnE : ¬ Ef D i) {X : Nat → Prop} {p : Nat} (hp : p ≤ all.length) (hX : ∀ e, e < all.length → Ef D e → (X e ↔ e < p)) (hXi : ¬ X i)
    (hm : ∀ b, (Mk all i).testBit b = true → X b) (hcl : ∀ k, k < all.length → X k → ∀ b, (Mk all k).testBit b = true → X b) :
    ∃ q, q ≤ all.length ∧ (D q).hp = (D p).hp ∧ Cm all D q = Cm all D p ∧ ∃ hp' nx', execO P orb ⟨tm, slotHp nx0 (Mk all i) (D q).pend (D q).hp, 0⟩ o.op = .ok (.val v hp' nx') := by
  have hi : i < all.length := (List.getElem?_eq_some_iff.1 ho).1
  rcases Nat.le_total i p with hip | hip
  · rcases last_ef D i p hip with h | ⟨e, e1, e2, e3, e4⟩
    · obtain ⟨q1, q2, _⟩ := T.quiets hip hp h
      exact ⟨i, by omega, q2.symm, (cm_of q1).symm, _, _, h4⟩
    · obtain ⟨q1, q2, _⟩ := T.quiets (i := e + 1) (j := p) (by omega) hp fun e' g1 g2 => e4 e' (by omega) g2
      refine ⟨e + 1, by omega, q2.symm, (cm_of q1).symm, ?_⟩
      have hne : i ≠ e := fun e' => hnE (e' ▸ e3)
      have hr := T.reads_mem (i := i + 1) (j := e) (by omega) (by omega) h6
      have hXe : X e := (hX e (by omega) e3).2 e2
      have hb : (Mk all e).testBit i = false := by
        cases hb : (Mk all e).testBit i with
        | false => rfl
        | true => exact (hXi (hcl e (by omega) hXe i hb)).elim
      obtain ⟨oe, hoe⟩ := Tra.get (show e < all.length by omega)
      obtain ⟨tme, _, k⟩ := T.step e oe hoe
      have hnl : ∀ {l : List Ep} {e : Ep}, l ≠ e :: l := fun {l e} h => by
        have := congrArg List.length h
        simp at this
      unfold Ef at e3
      generalize D (e + 1) = d' at k e3
      cases k with
      | eff v' hp' nx' g2 g3 g4 g5 g6 => exact reads_ok (readsOn_at g5 _ hr hb)
      | _ => exact (hnl e3).elim
  · rcases first_ef D p i hip with h | ⟨e, e1, e2, e3, e4⟩
    · obtain ⟨q1, q2, _⟩ := T.quiets hip (by omega) h
      exact ⟨i, by omega, q2, cm_of q1, _, _, h4⟩
    · obtain ⟨q1, q2, _⟩ := T.quiets (i := p) (j := e) e1 (by omega) fun e' g1 g2 => e4 e' g1 g2
      refine ⟨e, by omega, q2, cm_of q1, reads_ok (T.back_at (by omega) h5 e2 e3 fun e' g1 g2 g3 => ?_)⟩
      cases hb : (Mk all i).testBit e' with
      | false => rfl
      | true =>
        have := (hX e' (by omega) g3).1 (hm e' hb)
        omega

end

section
variable {P : Program} {orb : BinOp → CV → CV → Option CV} {ρ : Env} {call : Callee} {nt : Nat} {ops : Array Oper} {D : Nat → DS} {s : St} {loc0 : Lc} {w0 : World}

/-- Has it come up? -/
def Up (listed : Array Bool) (k : Nat) : Prop := listed.getD k false = true

/-- How things stand when some operations have come up. -/
structure Inv (ρ : Env) (nt : Nat) (all : List Oper) (D : Nat → DS) (s : St) (loc0 : Lc) (w0 : World) (X : Nat → Prop) (a : Act) (w : World) (p : Nat) (loc : Lc) (h : Nat → Option OB) : Prop where
  closed : ∀ k, k < all.length → X k → ∀ b, (Mk all k).testBit b = true → X b
  le : p ≤ all.length
  effs : ∀ e, e < all.length → Ef D e → (X e ↔ e < p)
  step : Step ρ loc0 s.hp.get s.nx w0 loc h (D p).nx w
  free : FreeAll loc (D p).nx
  lo : s.nx + all.length ≤ (D p).nx
  slots : ∀ b, b < all.length → ¬ X b → loc (s.nx + b) = none
  heap : ∀ j o, h j = some o ↔ (∃ b, j = s.nx + b ∧ b < all.length ∧ X b ∧ Al D b o ∧ (Cm all D p).testBit b = false) ∨ (D p).hp.get j = some o
  new : ∀ t v, (∃ k, k < all.length ∧ X k ∧ dstAt all k = some t) → (D all.length).tm.get t = some v → V ρ loc v (a.tmps.getD t undef)
  old : ∀ t v, (∀ k, k < all.length → X k → dstAt all k ≠ some t) → s.tm.get t = some v → V ρ loc v (a.tmps.getD t undef)
  act : ActOk nt a

theorem Step.within {h0 h h' : Nat → Option OB} {nx N a' b' : Nat} {loc loc' : Lc} {w w' : World} (st : Step ρ loc0 h0 nx w0 loc h N w) (t : Step ρ loc h a' w loc' h' b' w') (h1 : nx ≤ a') (h2 : b' ≤ N) : Step ρ loc0 h0 nx w0 loc' h' N w' where
  mem := t.mem
  le := st.le
  ext := fun id hi => by
    have := t.le
    rw [t.ext id (by omega), st.ext id hi]
  fr := st.fr.trans t.fr

theorem Step.wide {h0 h : Nat → Option OB} {nx N N' : Nat} {loc : Lc} {w : World} (st : Step ρ loc0 h0 nx w0 loc h N w) (hN : N ≤ N') : Step ρ loc0 h0 nx w0 loc h N' w :=
  ⟨st.mem, Nat.le_trans st.le hN, fun id hi => st.ext id (by omega), st.fr⟩

section
variable {X : Nat → Prop} {a : Act} {w : World} {p : Nat} {loc : Lc} {h : Nat → Option OB}

/-- The temporaries that an operation looks at. -/
theorem Inv.tmOk (T : Tra P orb call s.nx ops.toList D) (hD0 : (D 0).tm = s.tm) (v : Inv ρ nt ops.toList D s loc0 w0 X a w p loc h) {i : Nat} (hi : i < ops.toList.length) (hX : ¬ X i) (hm : ∀ b, (Mk ops.toList i).testBit b = true → X b) {tm : Tr CV} {l : List Tmp}
    (hr : restr ops.toList (masks [] ops.toList) i (Mk ops.toList i) (D i).tm l = .ok tm) : TmOk ρ loc tm a := by
  intro t u hu
  obtain ⟨h1, h2⟩ := restr_ok hr t u hu
  have fromOld : (∀ k, k < ops.toList.length → X k → dstAt ops.toList k ≠ some t) → (∀ k, k < i → dstAt ops.toList k ≠ some t) → V ρ loc u (a.tmps.getD t undef) := fun g1 g2 => by
    refine v.old t u g1 ?_
    rw [← hD0, ← T.tm_keeps (i := 0) (j := i) (by omega) (by omega) fun k _ hk => g2 k hk]
    exact h1
  cases hw : writer t ops.toList 0 with
  | none =>
    have := writer_none hw
    exact fromOld (fun k _ _ => this k) (fun k _ => this k)
  | some x =>
    obtain ⟨_, g1⟩ := writer_some hw
    rw [Nat.sub_zero] at g1
    rw [hw] at h2
    dsimp only at h2
    cases hlt : Nat.blt x i with
    | true =>
      rw [hlt, cond_true] at h2
      have hlt : x < i := Nat.le_of_ble_eq_true hlt
      refine v.new t u ⟨x, by omega, hm x h2, g1⟩ ?_
      rw [T.tm_F g1 hlt (by omega)]
      exact h1
    | false =>
      rw [hlt, cond_false] at h2
      have hge : i ≤ x := by
        rcases Nat.lt_or_ge x i with h' | h'
        · have : Nat.blt x i = true := Nat.ble_eq_true_of_le h'
          rw [this] at hlt; cases hlt
        · exact h'
      have hXx : ¬ X x := fun hx => by
        rcases Bool.or_eq_true_iff.1 h2 with h3 | h3
        · have := Nat.eq_of_beq_eq_true h3
          exact hX (this ▸ hx)
        · have hlen : x < ops.toList.length := by
            unfold dstAt at g1
            cases hx : ops.toList[x]? with
            | none => rw [hx] at g1; cases g1
            | some o => exact (List.getElem?_eq_some_iff.1 hx).1
          exact hX (v.closed x hlen hx i h3)
      exact fromOld (fun k _ hk e => by
        have := once_at T.once e g1
        exact hXx (this ▸ hk)) (fun k hk e => by
        have := once_at T.once e g1
        omega)

/-- One more has come up. -/
theorem Inv.more (T : Tra P orb call s.nx ops.toList D) (v : Inv ρ nt ops.toList D s loc0 w0 X a w p loc h) {i : Nat} {o : Oper} (ho : ops.toList[i]? = some o) (hd : dstD nt o.dst = true) (hm : ∀ b, (Mk ops.toList i).testBit b = true → X b) {X' : Nat → Prop} (hX' : ∀ k, X' k ↔ X k ∨ k = i)
    {c : CV} {c' : Value} {loc' : Lc} {h' : Nat → Option OB} {p' : Nat} {w' : World} (htm : (D (i + 1)).tm = putD (D i).tm o.dst c) (hv : V ρ loc' c c') (hl : LLe loc loc') (hp' : p' ≤ ops.toList.length) (he : ∀ e, e < ops.toList.length → Ef D e → (X' e ↔ e < p'))
    (hs : Step ρ loc0 s.hp.get s.nx w0 loc' h' (D p').nx w') (hf : FreeAll loc' (D p').nx) (hlo : s.nx + ops.toList.length ≤ (D p').nx) (hsl : ∀ b, b < ops.toList.length → ¬ X' b → loc' (s.nx + b) = none)
    (hh : ∀ j o, h' j = some o ↔ (∃ b, j = s.nx + b ∧ b < ops.toList.length ∧ X' b ∧ Al D b o ∧ (Cm ops.toList D p').testBit b = false) ∨ (D p').hp.get j = some o) :
    Inv ρ nt ops.toList D s loc0 w0 X' (a.put o.dst c') w' p' loc' h' := by
  have hi : i < ops.toList.length := (List.getElem?_eq_some_iff.1 ho).1
  have hdi : dstAt ops.toList i = o.dst := by unfold dstAt; rw [ho]; rfl
  have puts : ∀ t, dstAt ops.toList i ≠ some t → (a.put o.dst c').tmps.getD t undef = a.tmps.getD t undef := fun t ht => by
    rw [hdi] at ht
    cases hod : o.dst with
    | none => rfl
    | some d =>
      rw [hod] at hd ht
      have hd : d < nt := Nat.le_of_ble_eq_true hd
      rw [put_get a d c' (by rw [v.act.size]; exact hd), if_neg (fun e => ht (by rw [e]))]
  refine ⟨fun k hk hx b hb => ?_, hp', he, hs, hf, hlo, hsl, hh, fun t u ⟨k, hk, hx, hkd⟩ hu => ?_, fun t u hno hu => ?_, v.act.put _ _⟩
  · rw [hX'] at hx ⊢
    rcases hx with hx | rfl
    · exact .inl (v.closed k hk hx b hb)
    · exact .inl (hm b hb)
  · by_cases e : dstAt ops.toList i = some t
    · rw [T.tm_F e (Nat.lt_succ_self i) (by omega), htm] at hu
      rw [hdi] at e
      rw [e] at hu hd ⊢
      simp only [putD, Tr.get_set, if_true] at hu
      cases hu
      have hd : t < nt := Nat.le_of_ble_eq_true hd
      rw [put_get a t c' (by rw [v.act.size]; exact hd), if_pos rfl]
      exact hv
    · rw [puts t e]
      rw [hX'] at hx
      rcases hx with hx | rfl
      · exact V.mono hl _ _ (v.new t u ⟨k, hk, hx, hkd⟩ hu)
      · exact (e hkd).elim
  · rw [puts t (hno i hi ((hX' i).2 (.inr rfl)))]
    exact V.mono hl _ _ (v.old t u (fun k hk hx => hno k hk ((hX' k).2 (.inl hx))) hu)

end

end

end Go.Cx
/- Regions whose order is drawn: each step, and the whole. No program is named here. -/
namespace Go.Cx

section
variable {P : Program} {orb : BinOp → CV → CV → Option CV} {ρ : Env} {call : Callee} {nt : Nat} {ops : Array Oper} {D : Nat → DS} {s : St} {loc0 : Lc} {w0 : World}
  {X X' : Nat → Prop} {a : Act} {w : World} {p : Nat} {loc : Lc} {h : Nat → Option OB}

theorem cons_ne {l : List Ep} {e : Ep} (h : l = e :: l) : False := by
  have := congrArg List.length h
  simp at this

theorem Inv.cm_up (T : Tra P orb call s.nx ops.toList D) (v : Inv ρ nt ops.toList D s loc0 w0 X a w p loc h) {b : Nat} (hb : (Cm ops.toList D p).testBit b = true) : X b := by
  unfold Cm at hb
  split at hb
  · simp at hb
  · rename_i e rest he
    obtain ⟨h1, h2, _⟩ := T.hist_head v.le he
    have hl : e.i < ops.toList.length := Nat.lt_of_lt_of_le h1 v.le
    exact v.closed e.i hl ((v.effs e.i hl h2).2 h1) b hb

theorem Step.still {h' : Nat → Option OB} {w' : World} {loc' : Lc} (t : Step ρ loc h 0 w loc' h' 0 w') (N : Nat) : loc' = loc ∧ Step ρ loc h N w loc h' N w' := by
  have e : loc' = loc := funext fun id => t.ext id (.inr (Nat.zero_le _))
  subst e
  exact ⟨rfl, t.mem, Nat.le_refl _, fun _ _ => rfl, t.fr⟩

/-- What stays beside a part of memory. -/
theorem Step.beside {hs hs' : Nat → Option OB} {loc' : Lc} {nx nx' : Nat} {w' : World} (t : Step ρ loc hs nx w loc' hs' nx' w') (hf : Free loc nx nx') (m : Mem ρ loc h w) (h2 : ∀ j o, hs j = some o → h j = some o)
    {h' : Nat → Option OB} (h4 : ∀ j o, h' j = some o ↔ hs' j = some o ∨ (hs j = none ∧ h j = some o)) : Step ρ loc h nx w loc' h' nx' w' := by
  refine Step.frame (r := fun j => if hs j = none then h j else none) t hf m (fun j o hj => ?_) h2 (fun j o hj => ?_) (fun j o hj => ?_) (fun j o hj => (h4 j o).2 (.inl hj)) (fun j o hj => ?_)
  · cases e : hs j with
    | some x =>
      have := h2 j x e
      rw [hj] at this
      exact .inl this.symm
    | none => exact .inr ⟨rfl, by simp [hj]⟩
  · split at hj
    · rename_i e; exact ⟨hj, e⟩
    · cases hj
  · rcases (h4 j o).1 hj with g | ⟨g1, g2⟩
    · exact .inl g
    · right; rw [if_pos g1]; exact g2
  · split at hj
    · rename_i e; exact (h4 j o).2 (.inr ⟨e, hj⟩)
    · cases hj

/-- An operation that is no new object and no effect. -/
theorem Inv.quiet (T : Tra P orb call s.nx ops.toList D) (v : Inv ρ nt ops.toList D s loc0 w0 X a w p loc h) {i : Nat} {o : Oper} (ho : ops.toList[i]? = some o) (hXi : ¬ X i) (hd : dstD nt o.dst = true) (hm : ∀ b, (Mk ops.toList i).testBit b = true → X b)
    (hX' : ∀ k, X' k ↔ X k ∨ k = i) {c : CV} {c' : Value} {w' : World} (htm : (D (i + 1)).tm = putD (D i).tm o.dst c) (hp1 : (D (i + 1)).pend = (D i).pend) (hh1 : (D (i + 1)).hist = (D i).hist) (hv : V ρ loc c c') (hs : Step ρ loc h (D p).nx w loc h (D p).nx w') :
    Inv ρ nt ops.toList D s loc0 w0 X' (a.put o.dst c') w' p loc h := by
  have hi : i < ops.toList.length := (List.getElem?_eq_some_iff.1 ho).1
  have hnE : ¬ Ef D i := fun he => by unfold Ef at he; rw [hh1] at he; exact cons_ne he
  have hnA : ∀ o, ¬ Al D i o := fun o ha => by
    unfold Al at ha
    rw [hp1] at ha
    have := ((T.pend_iff (by omega) _ _).1 ha).1
    omega
  refine v.more T ho hd hm hX' htm hv (.refl loc) v.le (fun e hel hE => ?_) (v.step.trans hs) v.free v.lo (fun b hb hnb => v.slots b hb fun hx => hnb ((hX' b).2 (.inl hx))) (fun j o' => ?_)
  · rw [hX', ← v.effs e hel hE]
    constructor
    · rintro (g | rfl)
      · exact g
      · exact (hnE hE).elim
    · exact .inl
  · rw [v.heap]
    constructor
    · rintro (⟨b, g1, g2, g3, g4⟩ | g)
      · exact .inl ⟨b, g1, g2, (hX' b).2 (.inl g3), g4⟩
      · exact .inr g
    · rintro (⟨b, g1, g2, g3, g4⟩ | g)
      · rcases (hX' b).1 g3 with g3 | rfl
        · exact .inl ⟨b, g1, g2, g3, g4⟩
        · exact (hnA o' g4.1).elim
      · exact .inr g

/-- One operation, whichever comes up. -/
theorem Inv.op (hO : OraOk ρ orb) (hC : CallOk P ρ call) (T : Tra P orb call s.nx ops.toList D) (hD0 : (D 0).tm = s.tm) (h0 : ∀ b, b < ops.toList.length → (D 0).hp.get (s.nx + b) = none) (v : Inv ρ nt ops.toList D s loc0 w0 X a w p loc h) {i : Nat} {o : Oper}
    (ho : ops.toList[i]? = some o) (hXi : ¬ X i) (hd : dstD nt o.dst = true) (hm : ∀ b, (Mk ops.toList i).testBit b = true → X b) (hX' : ∀ k, X' k ↔ X k ∨ k = i) {Q : Exit → Act → World → Prop} :
    wpOp P ops Q i (fun a' w' => ∃ p' loc' h', Inv ρ nt ops.toList D s loc0 w0 X' a' w' p' loc' h') a w := by
  have hi : i < ops.toList.length := (List.getElem?_eq_some_iff.1 ho).1
  obtain ⟨tm, hr, k⟩ := T.step i o ho
  have hT := v.tmOk T hD0 hi hXi hm hr
  have hM := v.step.mem
  have ho' : ops[i]? = some o := by rw [← Array.getElem?_toList]; exact ho
  unfold wpOp
  rw [ho']
  dsimp only
  have nowanted : wantedV tm ops.toList o = .ok false → (∃ p' loc' h', Inv ρ nt ops.toList D s loc0 w0 X' (a.put o.dst undef) w p' loc' h') → (if Region.wanted o (yielded ops a.tmps) then o.wp P a w (fun a' w' => ∃ p' loc' h', Inv ρ nt ops.toList D s loc0 w0 X' a' w' p' loc' h') Q ∨ (o.asks P a w ∧ LetsOut Q)
      else ∃ p' loc' h', Inv ρ nt ops.toList D s loc0 w0 X' (a.put o.dst undef) w p' loc' h') := fun hw hI => by
    rw [wanted_ok hT hw]; simpa using hI
  have wanted' : wantedV tm ops.toList o = .ok true → o.wp P a w (fun a' w' => ∃ p' loc' h', Inv ρ nt ops.toList D s loc0 w0 X' a' w' p' loc' h') Q → (if Region.wanted o (yielded ops a.tmps) then o.wp P a w (fun a' w' => ∃ p' loc' h', Inv ρ nt ops.toList D s loc0 w0 X' a' w' p' loc' h') Q ∨ (o.asks P a w ∧ LetsOut Q)
      else ∃ p' loc' h', Inv ρ nt ops.toList D s loc0 w0 X' (a.put o.dst undef) w p' loc' h') := fun hw hI => by
    rw [wanted_ok hT hw, if_pos rfl]; exact .inl hI
  -- operations that only look at a part of memory
  have looks : ∀ (hp : Tr OB) (c : CV) (hp' : Tr OB) (nx' : Nat), clOf o.op = .pure ∨ clOf o.op = .read → (∀ j x, hp.get j = some x → h j = some x) → execO P orb ⟨tm, hp, 0⟩ o.op = .ok (.val c hp' nx') →
      (D (i + 1)).tm = putD (D i).tm o.dst c → (D (i + 1)).pend = (D i).pend → (D (i + 1)).hist = (D i).hist → o.wp P a w (fun a' w' => ∃ p' loc' h', Inv ρ nt ops.toList D s loc0 w0 X' a' w' p' loc' h') Q := by
    intro hp c hp' nx' hc hsub he e1 e2 e3
    obtain ⟨rfl, rfl⟩ := exec_still hc he
    have hM' : Mem ρ loc hp'.get w := hM.less hsub
    obtain ⟨c', w', loc', hres, hv, hs⟩ := exec_ok (o := o) (s := ⟨tm, hp', 0⟩) hO hT hM' he (fun id h1 h2 => by simp at h2)
    dsimp only at hs
    have hb : Step ρ loc h 0 w loc' h 0 w' := Step.beside hs (fun id h1 h2 => by omega) hM hsub fun j x => by
      constructor
      · intro hj
        cases e : hp'.get j with
        | some y => have := hsub j y e; rw [hj] at this; exact .inl this.symm
        | none => exact .inr ⟨rfl, hj⟩
      · rintro (g | ⟨_, g⟩)
        · exact hsub j x g
        · exact g
    obtain ⟨rfl, hb⟩ := hb.still (D p).nx
    have fin := v.quiet T ho hXi hd hm hX' e1 e2 e3 hv hb
    unfold Oper.wp
    rcases hres with e | ⟨e, rfl⟩
    · rw [e, Oper.upon_value]; exact ⟨_, _, _, fin⟩
    · rw [e, Oper.upon_skip]; exact ⟨_, _, _, fin⟩
  have hslot : h (s.nx + i) = none := by
    cases e : h (s.nx + i) with
    | none => rfl
    | some x =>
      obtain ⟨pl, hpl, _⟩ := hM.sat _ x e
      rw [v.slots i hi hXi] at hpl; cases hpl
  generalize hdd : D (i + 1) = d' at k
  cases k with
  | skip h2 =>
    refine nowanted h2 ⟨p, loc, h, v.quiet T ho hXi hd hm hX' (c := none') (by rw [hdd]) (by rw [hdd]) (by rw [hdd]) (by simp [none', V, undef]) (.refl hM)⟩
  | pure c hp nx h2 h3 h4 =>
    exact wanted' h2 (looks .e c hp nx (.inl h3) (fun j x hx => by cases hx) h4 (by rw [hdd]) (by rw [hdd]) (by rw [hdd]))
  | read c hp nx h2 h3 h4 h5 =>
    have hnE : ¬ Ef D i := fun he => by unfold Ef at he; rw [hdd] at he; exact cons_ne he
    obtain ⟨q, q1, q2, q3, hp', nx', q4⟩ := T.read_at ho h4 h5 (by rw [hdd]; exact List.mem_cons_self) hnE v.le v.effs hXi hm v.closed
    refine wanted' h2 (looks _ c hp' nx' (.inr h3) (fun j x hx => ?_) q4 (by rw [hdd]) (by rw [hdd]) (by rw [hdd]))
    refine (v.heap j x).2 ?_
    rcases slotHp_get hx with ⟨b, g1, g2, g3⟩ | g
    · obtain ⟨g4, g5, g6⟩ := (T.pend_iff q1 b x).1 g1
      exact .inl ⟨b, g3, by omega, hm b g2, g5, by rw [← q3]; exact g6⟩
    · right; rw [← q2]; exact g
  | alloc c hp ob h2 h4 h5 =>
    refine wanted' h2 ?_
    have hnE : ¬ Ef D i := fun he => by unfold Ef at he; rw [hdd] at he; exact cons_ne he
    have hAl : ∀ x, Al D i x ↔ x = ob := fun x => by
      unfold Al
      rw [hdd]
      constructor
      · intro hx
        rcases List.mem_cons.1 hx with e | e
        · cases e; rfl
        · have := ((T.pend_iff (by omega) _ _).1 e).1
          omega
      · rintro rfl; exact List.mem_cons_self
    have hcm : (Cm ops.toList D p).testBit i = false := by
      cases e : (Cm ops.toList D p).testBit i with
      | false => rfl
      | true => exact (hXi (v.cm_up T e)).elim
    have hfree : Free loc (s.nx + i) (s.nx + i + 1) := fun id h1 h2 => by
      have : id = s.nx + i := by omega
      subst this
      exact v.slots i hi hXi
    obtain ⟨c', w', loc', hres, hv, hs⟩ := exec_ok (o := o) (s := ⟨tm, .e, s.nx + i⟩) (loc := loc) (w := w) hO hT (hM.less fun j x hx => by cases hx) h4 hfree
    dsimp only at hs
    have hs1 := hs.less' (h'' := fun j => if j = s.nx + i then some ob else none) fun j x hx => by
      split at hx
      · rename_i e; subst e; cases hx; exact h5
      · cases hx
    let h' : Nat → Option OB := fun j => if j = s.nx + i then some ob else h j
    have hb : Step ρ loc h (s.nx + i) w loc' h' (s.nx + i + 1) w' := Step.beside hs1 hfree hM (fun j x hx => by cases hx) fun j x => by
      show (if j = s.nx + i then some ob else h j) = some x ↔ (if j = s.nx + i then some ob else none) = some x ∨ ((Tr.e : Tr OB).get j = none ∧ h j = some x)
      by_cases e : j = s.nx + i
      · rw [if_pos e, if_pos e]
        constructor
        · exact .inl
        · rintro (g | ⟨_, g⟩)
          · exact g
          · rw [e, hslot] at g; cases g
      · rw [if_neg e, if_neg e]
        constructor
        · intro g; exact .inr ⟨rfl, g⟩
        · rintro (g | ⟨_, g⟩)
          · cases g
          · exact g
    have hlo := v.lo
    have fin : Inv ρ nt ops.toList D s loc0 w0 X' (a.put o.dst c') w' p loc' h' := by
      refine v.more T ho hd hm hX' (c := c) (by rw [hdd]) hv (hb.lle hfree) v.le (fun e hel hE => ?_) (v.step.within hb (by omega) (by omega)) (fun id hid => ?_) v.lo (fun b hb' hnb => ?_) (fun j x => ?_)
      · rw [hX', ← v.effs e hel hE]
        constructor
        · rintro (g | rfl)
          · exact g
          · exact (hnE hE).elim
        · exact .inl
      · rw [hb.ext id (by omega)]; exact v.free id hid
      · have hbi : b ≠ i := fun e => hnb ((hX' b).2 (.inr e))
        rw [hb.ext _ (by omega)]
        exact v.slots b hb' fun hx => hnb ((hX' b).2 (.inl hx))
      · show (if j = s.nx + i then some ob else h j) = some x ↔ _
        by_cases e : j = s.nx + i
        · rw [if_pos e]
          constructor
          · intro g
            cases g
            exact .inl ⟨i, e, hi, (hX' i).2 (.inr rfl), (hAl _).2 rfl, hcm⟩
          · rintro (⟨b, g1, g2, g3, g4, g5⟩ | g)
            · have : b = i := by omega
              subst this
              rw [(hAl x).1 g4]
            · have := (v.heap j x).2 (.inr g)
              rw [e, hslot] at this; cases this
        · rw [if_neg e, v.heap]
          constructor
          · rintro (⟨b, g1, g2, g3, g4⟩ | g)
            · exact .inl ⟨b, g1, g2, (hX' b).2 (.inl g3), g4⟩
            · exact .inr g
          · rintro (⟨b, g1, g2, g3, g4⟩ | g)
            · rcases (hX' b).1 g3 with g3 | rfl
              · exact .inl ⟨b, g1, g2, g3, g4⟩
              · exact (e g1).elim
            · exact .inr g
    unfold Oper.wp
    rcases hres with e | ⟨e, rfl⟩
    · rw [e, Oper.upon_value]; exact ⟨_, _, _, fin⟩
    · rw [e, Oper.upon_skip]; exact ⟨_, _, _, fin⟩
  | eff c hp nx h2 h3 h4 h5 h6 =>
    refine wanted' h2 ?_
    have hE : Ef D i := by unfold Ef; rw [hdd]
    have hpi : p ≤ i := by
      rcases Nat.lt_or_ge i p with g | g
      · exact (hXi ((v.effs i hi hE).2 g)).elim
      · exact g
    have hno : ∀ e, p ≤ e → e < i → ¬ Ef D e := by
      rcases last_ef D p i hpi with g | ⟨e, e1, e2, e3, e4⟩
      · exact g
      · exfalso
        obtain ⟨q1, _, _⟩ := T.quiets (i := e + 1) (j := i) (by omega) (by omega) fun e' g1 g2 => e4 e' (by omega) g2
        have := h3 _ _ (q1.trans e3)
        have := (v.effs e (by omega) e3).1 (hm e this)
        omega
    obtain ⟨q1, q2, q3⟩ := T.quiets hpi (by omega) hno
    have hcm : Cm ops.toList D i = Cm ops.toList D p := cm_of q1
    have hsub : ∀ j x, (slotHp s.nx (Mk ops.toList i) (D i).pend (D i).hp).get j = some x → h j = some x := fun j x hx => by
      refine (v.heap j x).2 ?_
      rcases slotHp_get hx with ⟨b, g1, g2, g3⟩ | g
      · obtain ⟨g4, g5, g6⟩ := (T.pend_iff (by omega) b x).1 g1
        exact .inl ⟨b, g3, by omega, hm b g2, g5, by rw [← hcm]; exact g6⟩
      · right; rw [← q2]; exact g
    have hfree : FreeAll loc (D i).nx := by rw [q3]; exact v.free
    have hlo := v.lo
    refine run_one (o := o) (s := ⟨tm, slotHp s.nx (Mk ops.toList i) (D i).pend (D i).hp, (D i).nx⟩) hO hC hT (hM.less hsub) h4 hfree fun c' w' loc' hv hs => ?_
    dsimp only at hs
    let hsl : Nat → Option OB := (slotHp s.nx (Mk ops.toList i) (D i).pend (D i).hp).get
    let h' : Nat → Option OB := fun j => match hp.get j with
      | some x => some x
      | none => if hsl j = none then h j else none
    have hpe : (D (i + 1)).hp = hp := by rw [hdd]
    have hcm' : Cm ops.toList D (i + 1) = Mk ops.toList i := cm_ef hE
    -- what is beside lies at other numbers
    have rest : ∀ j x, hsl j = none → h j = some x → (∃ b, j = s.nx + b ∧ b < ops.toList.length ∧ X b ∧ Al D b x ∧ (Mk ops.toList i).testBit b = false) ∧ hp.get j = none := fun j x g1 g2 => by
      rcases (v.heap j x).1 g2 with ⟨b, g3, g4, g5, g6, g7⟩ | g
      · have hmb : (Mk ops.toList i).testBit b = false := by
          cases e : (Mk ops.toList i).testBit b with
          | false => rfl
          | true =>
            have hbi := T.mk_lt _ _ e
            have hpd := (T.pend_iff (i := i) (by omega) b x).2 ⟨hbi, g6, by rw [hcm]; exact g7⟩
            have := slotHp_old (nx0 := s.nx) (m := Mk ops.toList i) (hp := (D i).hp) (pend := (D i).pend) (j := j) (.inr ⟨b, x, hpd, e, g3⟩)
            have g1 : (slotHp s.nx (Mk ops.toList i) (D i).pend (D i).hp).get j = none := g1
            rw [g1] at this; cases this
        refine ⟨⟨b, g3, g4, g5, g6, hmb⟩, ?_⟩
        rw [g3]
        exact noSlot_at h6 b g4 hmb
      · exfalso
        have := slotHp_old (nx0 := s.nx) (m := Mk ops.toList i) (hp := (D i).hp) (pend := (D i).pend) (j := j) (.inl (by rw [q2, g]; rfl))
        have g1 : (slotHp s.nx (Mk ops.toList i) (D i).pend (D i).hp).get j = none := g1
        rw [g1] at this; cases this
    have hb : Step ρ loc h (D i).nx w loc' h' nx w' := Step.beside hs (hfree.free _) hM hsub fun j x => by
      show (match hp.get j with | some x => some x | none => if hsl j = none then h j else none) = some x ↔ hp.get j = some x ∨ (hsl j = none ∧ h j = some x)
      cases e : hp.get j with
      | some y =>
        dsimp only
        constructor
        · exact .inl
        · rintro (g | ⟨g1, g2⟩)
          · exact g
          · have := (rest j x g1 g2).2
            rw [e] at this; cases this
      | none =>
        dsimp only
        constructor
        · intro g
          split at g
          · rename_i g1; exact .inr ⟨g1, g⟩
          · cases g
        · rintro (g | ⟨g1, g2⟩)
          · cases g
          · rw [if_pos g1]; exact g2
    have hnx : (D (i + 1)).nx = nx := by rw [hdd]
    have hle := hb.le
    have hst : Step ρ loc0 s.hp.get s.nx w0 loc' h' (D (i + 1)).nx w' := by
      rw [hnx]
      rw [q3] at hb
      exact v.step.trans hb
    refine ⟨i + 1, loc', h', v.more T ho hd hm hX' (c := c) (by rw [hdd]) hv (hb.lle (hfree.free _)) (by omega) (fun e hel hEe => ?_) hst (fun id hid => ?_) (by rw [hnx]; omega) (fun b hb' hnb => ?_) (fun j x => ?_)⟩
    · rw [hX']
      constructor
      · rintro (g | rfl)
        · have := (v.effs e hel hEe).1 g
          omega
        · omega
      · intro g
        by_cases e' : e = i
        · exact .inr e'
        · refine .inl ((v.effs e hel hEe).2 ?_)
          rcases Nat.lt_or_ge e p with g' | g'
          · exact g'
          · exact (hno e g' (by omega) hEe).elim
    · rw [hnx] at hid
      rw [hb.ext id (.inr hid)]
      exact hfree id (by omega)
    · rw [hb.ext _ (.inl (by omega))]
      exact v.slots b hb' fun hx => hnb ((hX' b).2 (.inl hx))
    · rw [hcm', hpe]
      show (match hp.get j with | some x => some x | none => if hsl j = none then h j else none) = some x ↔ _
      cases e : hp.get j with
      | some y =>
        dsimp only
        constructor
        · exact .inr
        · rintro (⟨b, g1, g2, g3, g4, g5⟩ | g)
          · have := noSlot_at h6 b g2 g5
            rw [g1, this] at e; cases e
          · exact g
      | none =>
        dsimp only
        constructor
        · intro g
          split at g
          · rename_i g1
            obtain ⟨⟨b, k1, k2, k3, k4, k5⟩, _⟩ := rest j x g1 g
            exact .inl ⟨b, k1, k2, (hX' b).2 (.inl k3), k4, k5⟩
          · cases g
        · rintro (⟨b, g1, g2, g3, g4, g5⟩ | g)
          · have hbi : b ≠ i := fun e => by
              subst e
              unfold Al at g4
              rw [hdd] at g4
              have g4 : (b, x) ∈ left? (Mk ops.toList b) (D b).pend := g4
              have := ((T.pend_iff (i := b) (by omega) _ _).1 (mem_left.1 g4).1).1
              omega
            have hXb : X b := by
              rcases (hX' b).1 g3 with g | g
              · exact g
              · exact (hbi g).elim
            have hcb : (Cm ops.toList D p).testBit b = false := by
              cases ec : (Cm ops.toList D p).testBit b with
              | false => rfl
              | true =>
                have := T.cm_sub hi hE (b := b) (by rw [hcm]; exact ec)
                rw [g5] at this; cases this
            have hhj : h j = some x := (v.heap j x).2 (.inl ⟨b, g1, g2, hXb, g4, hcb⟩)
            have hslj : hsl j = none := by
              cases es : hsl j with
              | none => rfl
              | some y =>
                exfalso
                have es : (slotHp s.nx (Mk ops.toList i) (D i).pend (D i).hp).get j = some y := es
                rcases slotHp_get es with ⟨b', k1, k2, k3⟩ | k
                · have : b' = b := by omega
                  subst this
                  rw [g5] at k2; cases k2
                · have := T.none_at h0 (p := i) (by omega) b g2 (by rw [hcm]; exact hcb)
                  rw [← g1, k] at this; cases this
            rw [if_pos hslj]
            exact hhj
          · cases g

end

end Go.Cx
/- What the executor says of a call is so. No program is named here. -/
namespace Go.Cx

section
variable {P : Program} {orb : BinOp → CV → CV → Option CV} {ρ : Env} {call : Callee} {nt : Nat} {ops : Array Oper} {D : Nat → DS} {s : St} {loc0 : Lc} {w0 : World}

theorem mem_ready {listed : Array Bool} {i : Nat} : i ∈ Region.ready .any ops listed ↔ ∃ o, ops.toList[i]? = some o ∧ listed.getD i true = false ∧ ∀ e, e ∈ o.after.toList → Region.binds .any e = true → listed.getD e.on false = true := by
  unfold Region.ready
  rw [List.mem_filter, List.mem_range]
  constructor
  · rintro ⟨h1, h2⟩
    have ho : ops[i]? = some ops[i] := Array.getElem?_eq_getElem h1
    rw [ho] at h2
    simp only [Option.map_some, Option.getD_some, Bool.and_eq_true, Bool.not_eq_true', Array.all_eq_true', Bool.or_eq_true] at h2
    refine ⟨ops[i], by rw [Array.getElem?_toList]; exact ho, h2.1, fun e he hb => ?_⟩
    rcases h2.2 e (by simpa using he) with h | h
    · rw [hb] at h; cases h
    · exact h
  · rintro ⟨o, h1, h2, h3⟩
    rw [Array.getElem?_toList] at h1
    refine ⟨(Array.getElem?_eq_some_iff.1 h1).1, ?_⟩
    rw [h1]
    simp only [Option.map_some, Option.getD_some, Bool.and_eq_true, Bool.not_eq_true', Array.all_eq_true', Bool.or_eq_true]
    refine ⟨h2, fun e he => ?_⟩
    cases hb : Region.binds .any e with
    | true => exact .inr (h3 e (by simpa using he) hb)
    | false => exact .inl rfl

theorem up_set {listed : Array Bool} {i : Nat} (hi : i < listed.size) (k : Nat) : Up (listed.setIfInBounds i true) k ↔ Up listed k ∨ k = i := by
  unfold Up
  simp only [Array.getD_eq_getD_getElem?, Array.getElem?_setIfInBounds]
  by_cases e : i = k
  · subst e; simp [hi]
  · rw [if_neg e]
    constructor
    · exact .inl
    · rintro (h | h)
      · exact h
      · exact (e h.symm).elim

theorem getD_up {listed : Array Bool} {i : Nat} (hi : i < listed.size) : listed.getD i true = false ↔ ¬ Up listed i := by
  unfold Up
  simp only [Array.getD_eq_getD_getElem?, Array.getElem?_eq_getElem hi, Option.getD_some]
  cases listed[i] <;> simp

/-- How many have not come up. -/
def waits (n : Nat) (listed : Array Bool) : Nat := ((List.range n).filter fun k => !listed.getD k false).length

theorem waits_set {n : Nat} {listed : Array Bool} {i : Nat} (hn : i < n) (hi : i < listed.size) (hu : ¬ Up listed i) : waits n (listed.setIfInBounds i true) < waits n listed := by
  unfold waits
  have e : (List.range n).filter (fun k => !(listed.setIfInBounds i true).getD k false) = ((List.range n).filter fun k => !listed.getD k false).filter fun k => !(k == i) := by
    rw [List.filter_filter]
    refine List.filter_congr fun k _ => ?_
    have := up_set hi k
    unfold Up at this
    rw [Bool.eq_iff_iff]
    simp only [Bool.not_eq_true', Bool.and_eq_true, beq_eq_false_iff_ne, ne_eq]
    constructor
    · intro h
      constructor
      · intro hk
        have := this.2 (.inr hk)
        rw [h] at this; cases this
      · cases hl : listed.getD k false with
        | false => rfl
        | true =>
          have := this.2 (.inl hl)
          rw [h] at this; cases this
    · rintro ⟨h1, h2⟩
      cases hl : (listed.setIfInBounds i true).getD k false with
      | false => rfl
      | true =>
        rcases this.1 hl with g | g
        · rw [h2] at g; cases g
        · exact (h1 g).elim
  rw [e]
  have hmem : i ∈ (List.range n).filter fun k => !listed.getD k false := by
    rw [List.mem_filter]
    refine ⟨List.mem_range.2 hn, ?_⟩
    unfold Up at hu
    simpa using hu
  generalize (List.range n).filter (fun k => !listed.getD k false) = l at hmem
  induction l with
  | nil => cases hmem
  | cons x l ih =>
    rw [List.filter_cons]
    by_cases hx : x = i
    · subst hx
      simp only [beq_self_eq_true, Bool.not_true, Bool.false_eq_true, if_false]
      have := List.length_filter_le (fun k => !(k == x)) l
      simp only [List.length_cons]
      omega
    · have hml : i ∈ l := by
        rcases List.mem_cons.1 hmem with h | h
        · exact (hx h.symm).elim
        · exact h
      have := ih hml
      rw [if_pos (by simpa using hx)]
      simp only [List.length_cons]
      omega

/-- Where it ends. -/
theorem Inv.post (T : Tra P orb call s.nx ops.toList D) (hD0 : (D 0).tm = s.tm) {X : Nat → Prop} {a : Act} {w : World} {p : Nat} {loc : Lc} {h : Nat → Option OB} (v : Inv ρ nt ops.toList D s loc0 w0 X a w p loc h) (hX : ∀ k, k < ops.toList.length → X k) :
    Post ρ nt loc0 s.hp.get s.nx w0 ⟨(D ops.toList.length).tm, slotAll s.nx (D ops.toList.length).pend (D ops.toList.length).hp, (D ops.toList.length).nx⟩ a w := by
  obtain ⟨q1, q2, q3⟩ := T.quiets v.le (Nat.le_refl _) fun e h1 h2 h3 => by
    have := (v.effs e h2 h3).1 (hX e h2)
    omega
  refine ⟨loc, fun t u hu => ?_, ?_, ?_, v.act⟩
  · by_cases hk : ∃ k, k < ops.toList.length ∧ dstAt ops.toList k = some t
    · obtain ⟨k, k1, k2⟩ := hk
      exact v.new t u ⟨k, k1, hX k k1, k2⟩ hu
    · refine v.old t u (fun k k1 _ k2 => hk ⟨k, k1, k2⟩) ?_
      rw [← hD0, ← T.tm_keeps (Nat.zero_le _) (Nat.le_refl _) fun k _ k1 k2 => hk ⟨k, k1, k2⟩]
      exact hu
  · dsimp only
    rw [q3]
    refine v.step.less' fun j x hx => (v.heap j x).2 ?_
    rcases slotAll_get hx with ⟨b, g1, g2⟩ | g
    · obtain ⟨g3, g4, g5⟩ := (T.pend_iff (Nat.le_refl _) b x).1 g1
      exact .inl ⟨b, g2, g3, hX b g3, g4, by rw [← cm_of q1]; exact g5⟩
    · right; rw [← q2]; exact g
  · dsimp only
    rw [q3]; exact v.free

theorem any_ok (hO : OraOk ρ orb) (hC : CallOk P ρ call) (T : Tra P orb call s.nx ops.toList D) (hD0 : (D 0).tm = s.tm) (h0 : ∀ b, b < ops.toList.length → (D 0).hp.get (s.nx + b) = none) (hd : dstO nt ops.toList = true) {Q : Exit → Act → World → Prop}
    (hQ : ∀ a w, Post ρ nt loc0 s.hp.get s.nx w0 ⟨(D ops.toList.length).tm, slotAll s.nx (D ops.toList.length).pend (D ops.toList.length).hp, (D ops.toList.length).nx⟩ a w → Q .normal a w) : ∀ (fuel : Nat) (listed : Array Bool) (a : Act) (w : World), listed.size = ops.toList.length →
      waits ops.toList.length listed ≤ fuel → (∃ p loc h, Inv ρ nt ops.toList D s loc0 w0 (Up listed) a w p loc h) → wpAny P .any ops Q fuel listed a w := by
  -- nothing is ready: all have come up
  have done : ∀ {listed : Array Bool}, listed.size = ops.toList.length → Region.ready .any ops listed = [] → ∀ k, k < ops.toList.length → Up listed k := by
    intro listed hs hr k
    induction k using Nat.strongRecOn with
    | _ k ih =>
      intro hk
      cases hu : listed.getD k true with
      | true =>
        have := mt (getD_up (listed := listed) (i := k) (by omega)).2
        rw [hu] at this
        simpa using this
      | false =>
        exfalso
        have : k ∈ Region.ready .any ops listed := mem_ready.2 ⟨ops.toList[k], List.getElem?_eq_getElem hk, hu, fun e he hb => by
          have := backE_at T.back (List.getElem?_eq_getElem hk) e he hb
          exact ih e.on (by omega) (by omega)⟩
        rw [hr] at this
        cases this
  intro fuel
  induction fuel with
  | zero =>
    rintro listed a w hs hw ⟨p, loc, h, v⟩
    have hup : ∀ k, k < ops.toList.length → Up listed k := fun k hk => by
      by_cases hu : Up listed k
      · exact hu
      · have := waits_set hk (by omega) hu
        omega
    refine ⟨?_, hQ _ _ (v.post T hD0 hup)⟩
    rw [List.eq_nil_iff_forall_not_mem]
    intro i hi
    obtain ⟨o, h1, h2, _⟩ := mem_ready.1 hi
    have hil := (List.getElem?_eq_some_iff.1 h1).1
    exact (getD_up (by omega)).1 h2 (hup i hil)
  | succ fuel ih =>
    rintro listed a w hs hw ⟨p, loc, h, v⟩
    refine ⟨fun hr => hQ _ _ (v.post T hD0 (done hs hr)), fun i hi => ?_⟩
    obtain ⟨o, h1, h2, h3⟩ := mem_ready.1 hi
    have hil := (List.getElem?_eq_some_iff.1 h1).1
    have hnu := (getD_up (by omega)).1 h2
    have hdo : dstD nt o.dst = true := List.all_eq_true.1 hd o (List.mem_of_getElem? h1)
    have hm : ∀ b, (Mk ops.toList i).testBit b = true → Up listed b := fun b hb => by
      obtain ⟨e, e1, e2, e3⟩ := (T.mk_bit h1 b).1 hb
      have := backE_at T.back h1 e e1 e2
      rcases e3 with rfl | e3
      · exact h3 e e1 e2
      · exact v.closed e.on (by omega) (h3 e e1 e2) b e3
    refine wpOp_mono (K := fun a' w' => ∃ p' loc' h', Inv ρ nt ops.toList D s loc0 w0 (Up (listed.setIfInBounds i true)) a' w' p' loc' h') (fun a' w' hI => ?_) (v.op hO hC T hD0 h0 h1 hnu hdo hm (up_set (by omega)))
    have := waits_set hil (by omega) hnu
    exact ih _ a' w' (by simpa using hs) (by omega) hI

theorem draw_ok (hm : P.follows .mixedOrders = true) (hO : OraOk ρ orb) (hC : CallOk P ρ call) : DrawOk P ρ nt (execD P orb call) := by
  intro id ops s s' h hd loc a w hT hM hf ha
  obtain ⟨h1, h2⟩ := R.if_ok.1 h
  obtain ⟨dn, h3, h4⟩ := R.bind_ok.1 h2
  cases h4
  simp only [Bool.and_eq_true] at h1
  obtain ⟨⟨h5, h6⟩, h7⟩ := h1
  obtain ⟨D, e1, e2, e3⟩ := passD_tr h3
  rw [Nat.zero_add] at e2
  have T : Tra P orb call s.nx ops.toList D := ⟨by rw [e1], by rw [e1], h5, h6, fun i o hi => by
    have := e3 i o hi
    rw [Nat.zero_add] at this
    exact stepD_kd this⟩
  have hD0 : (D 0).tm = s.tm := by rw [e1]
  have h0 : ∀ b, b < ops.toList.length → (D 0).hp.get (s.nx + b) = none := fun b _ => by
    rw [e1]
    dsimp only
    cases e : s.hp.get (s.nx + b) with
    | none => rfl
    | some x =>
      obtain ⟨pl, hpl, _⟩ := hM.sat _ x e
      rw [hf _ (by omega)] at hpl; cases hpl
  refine wp_region_any hm (any_ok hO hC T hD0 h0 hd (Q := fun e a' w' => e = .normal ∧ Post ρ nt loc s.hp.get s.nx w ⟨dn.tm, slotAll s.nx dn.pend dn.hp, dn.nx⟩ a' w') (fun a' w' p => ⟨rfl, by rw [← e2]; exact p⟩) _ _ a _ (by simp) ?_ ?_)
  · unfold waits
    have := List.length_filter_le (fun k => !(Array.replicate ops.size false).getD k false) (List.range ops.toList.length)
    simpa using this
  · have hno : ∀ k, ¬ Up (Array.replicate ops.size false) k := fun k hu => by
      unfold Up at hu
      rw [Array.getD_eq_getD_getElem?, Array.getElem?_replicate] at hu
      split at hu <;> simp at hu
    have hcm0 : Cm ops.toList D 0 = 0 := by unfold Cm; rw [T.hist0]
    have hst : Step ρ loc s.hp.get s.nx w loc s.hp.get (D 0).nx w.drew := by
      rw [e1]
      exact (Step.drew hM).wide (Nat.le_add_right _ _)
    have hhp : (D 0).hp = s.hp := by rw [e1]
    refine ⟨0, loc, s.hp.get, fun k _ hk => (hno k hk).elim, Nat.zero_le _, fun e _ _ => ⟨fun hk => (hno e hk).elim, fun hk => by omega⟩, hst, fun id hid => ?_, ?_, fun b hb _ => hf _ (by omega), fun j o => ?_, fun t v ⟨k, _, hk, _⟩ => (hno k hk).elim, fun t v _ hv => hT t v hv, ha⟩
    · rw [e1] at hid
      exact hf id (by dsimp only at hid; omega)
    · rw [e1]; exact Nat.le_refl _
    · rw [hhp]
      constructor
      · exact .inr
      · rintro (⟨b, _, _, hk, _⟩ | g)
        · exact (hno b hk).elim
        · exact g

end

section
variable {P : Program} {orb : BinOp → CV → CV → Option CV} {ρ : Env}

/-- A summary does what it says. -/
def SumOk (P : Program) (ρ : Env) (sm : Sum) : Prop :=
  ∀ f args hp nx v hp' nx', sm f args hp nx = some (.ok (v, hp', nx')) → ∀ (loc : Lc) (w : World) (vs : Array Value), Mem ρ loc hp.get w → VL ρ loc args vs.toList → FreeAll loc nx →
    Calls P f vs w fun e w' => ∃ v' loc', e = .returned v' ∧ V ρ loc' v v' ∧ Step ρ loc hp.get nx w loc' hp'.get nx' w'

/-- All temporaries that are written are there. -/
def DstsOk (P : Program) : Prop := ∀ (f : FuncId) (fn : Func) (c : Code), P.funcs[f]? = some fn → fn.body = some c → dstC fn.ntmps c = true

theorem start_get : ∀ (args : List CV) (n : Nat) (t : Tr CV) (k : Nat), (startTm args n t).get k = if n ≤ k ∧ k < n + args.length then args[k - n]? else t.get k
  | [], n, t, k => by
    rw [if_neg (by simp <;> omega)]; rfl
  | v :: l, n, t, k => by
    unfold startTm
    rw [start_get l (n + 1) (t.set n v) k, Tr.get_set]
    by_cases h1 : n + 1 ≤ k ∧ k < n + 1 + l.length
    · rw [if_pos h1, if_pos (by simp; omega), show k - n = (k - (n + 1)) + 1 by omega, List.getElem?_cons_succ]
    · rw [if_neg h1]
      by_cases h2 : k = n
      · subst h2
        rw [if_pos rfl, if_pos (by simp)]
        simp
      · rw [if_neg h2, if_neg (by simp; omega)]

theorem res_ok {s : St} {loc : Lc} {w : World} {a : Act} (hT : TmOk ρ loc s.tm a) (hM : Mem ρ loc s.hp.get w) (F : ResultVar → Sem Value) (h1 : ∀ t, F (.tmp t) = pure (a.tmps.getD t undef)) (h2 : ∀ x t, F (.cell x t) = (do loadVar t (← asAddr (a.tmps.getD x undef)))) :
    ∀ {l : List ResultVar} {cs : List CV}, resL P s l = .ok cs → ∃ vs : List Value, (l.mapM F).run P w = .ok vs w ∧ VL ρ loc cs vs
  | [], cs, h => by cases h; exact ⟨[], rfl, .nil⟩
  | x :: l, cs, h => by
    obtain ⟨c, g1, h⟩ := R.bind_ok.1 h
    obtain ⟨cs', g2, h⟩ := R.bind_ok.1 h
    cases h
    obtain ⟨vs, k1, k2⟩ := res_ok hT hM F h1 h2 g2
    have one : ∃ v, (F x).run P w = .ok v w ∧ V ρ loc c v := by
      cases x with
      | tmp t => exact ⟨_, by rw [h1]; rfl, hT t c (R.of_ok.1 g1)⟩
      | cell x t =>
        obtain ⟨i, e1, g3⟩ := R.bind_ok.1 g1
        obtain ⟨u, e2, g4⟩ := R.bind_ok.1 g3
        have hu := hT x u (R.of_ok.1 e2)
        split at g4
        · obtain ⟨xs, e3, g5⟩ := R.bind_ok.1 g4
          simp only [V] at hu
          obtain ⟨p, hp, hu⟩ := hu
          obtain ⟨q, hq, hh⟩ := hM.cells e3
          rw [hp] at hq; cases hq
          obtain ⟨v', e4, e5⟩ := loadV_ok (P := P) (tiOf_ok e1) hh g5
          refine ⟨v', ?_, e5⟩
          rw [h2, hu]
          simp only [asAddr, pure_bind]
          exact e4
        · cases g4
    obtain ⟨v, m1, m2⟩ := one
    exact ⟨v :: vs, by simp only [List.mapM_cons, Sem.run_bind, m1, Result.andThen_ok, k1, Sem.run_pure], .cons m2 k2⟩

theorem callF_ok (hm : P.follows .mixedOrders = true) (hdst : DstsOk P) (hO : OraOk ρ orb) {sm : Sum} (hS : SumOk P ρ sm) {lp : Nat → Loops} (hL : ∀ n nt, LoopOk P ρ nt (lp n)) (fuel : Nat) : ∀ n, CallOk P ρ (callF P orb sm lp fuel n)
  | 0 => fun f args hp nx v hp' nx' h => by cases h
  | n + 1 => by
    have ih := callF_ok hm hdst hO hS hL fuel n
    intro f args hp nx v hp' nx' h loc w vs hM hv hf
    unfold callF at h
    split at h
    · rename_i r hr
      subst h
      exact hS f args hp nx v hp' nx' hr loc w vs hM hv hf
    · obtain ⟨fn, g1, h⟩ := R.bind_ok.1 h
      obtain ⟨c, g2, h⟩ := R.bind_ok.1 h
      obtain ⟨g3, h⟩ := R.if_ok.1 h
      obtain ⟨r, g4, h⟩ := R.bind_ok.1 h
      rw [R.mark_ok] at g4
      obtain ⟨e, s'⟩ := r
      have g1 := R.of_ok.1 g1
      have g2 := R.of_ok.1 g2
      have g3 : args.length ≤ fn.ntmps := Nat.le_of_ble_eq_true g3
      have hlen := hv.length
      have hsz : vs.size = args.length := by simpa using hlen.symm
      refine calls_of_wp g1 g2 ?_
      have hT : TmOk ρ loc (startTm args 0 .e) { tmps := vs ++ Array.replicate (fn.ntmps - vs.size) undef, defers := [] } := fun t u hu => by
        rw [start_get] at hu
        split at hu
        · rename_i ht
          obtain ⟨x, x1, x2⟩ := hv.get hu
          rw [Nat.sub_zero, Array.getElem?_toList] at x1
          rw [Array.getD_eq_getD_getElem?, Array.getElem?_append_left (by omega), x1]
          exact x2
        · cases hu
      have ha : ActOk fn.ntmps { tmps := vs ++ Array.replicate (fn.ntmps - vs.size) undef, defers := [] } := ⟨by simp; omega, rfl⟩
      refine wp_mono (code_ok hO ih (draw_ok hm hO ih) (hL n _) fuel c ⟨startTm args 0 .e, hp, nx⟩ e s' g4 (hdst f fn c g1 g2) loc _ w hT hM hf ha) ?_
      rintro e' a' w' ⟨rfl, loc', p1, p2, p3, p4⟩
      have fin : ∀ cs, resL P s' fn.results.toList = .ok cs → R.ok (tup1 cs, s'.hp, s'.nx) = R.ok (v, hp', nx') → a'.defers = [] ∧ ∃ v', (results fn a'.tmps).run P w' = .ok v' w' ∧ ∃ u loc', Ending.returned v' = .returned u ∧ V ρ loc' v u ∧ Step ρ loc hp.get nx w loc' hp'.get nx' w' := fun cs hc he => by
        cases he
        obtain ⟨us, k1, k2⟩ := res_ok (P := P) p1 p2.mem (fun | .tmp t => pure (a'.tmps.getD t undef) | .cell x t => do loadVar t (← asAddr (a'.tmps.getD x undef))) (fun _ => rfl) (fun _ _ => rfl) hc
        have hres : (results fn a'.tmps).run P w' = .ok (if h : us.toArray.size = 1 then us.toArray[0] else .tuple us.toArray) w' := by
          unfold results
          rw [show fn.results = fn.results.toList.toArray by simp, List.mapM_toArray]
          simp only [Sem.run_bind, Sem.run_map, Sem.run_pure]
          erw [k1]
          rfl
        refine ⟨p4.defers, _, hres, _, loc', rfl, ?_, p2⟩
        match cs, us, k2 with
        | [c], us, k2 =>
          simp only [VL] at k2
          obtain ⟨u, _, rfl, k3, rfl⟩ := k2
          exact k3
        | [], us, k2 =>
          simp only [VL] at k2
          subst k2
          simp [tup1, V, VL]
        | c :: c' :: cs, us, k2 =>
          have hl := k2.length
          rw [dif_neg (by simp; simp at hl; omega)]
          simp only [tup1, V]
          exact ⟨_, rfl, by simpa using k2⟩
      cases e' with
      | normal =>
        obtain ⟨cs, k1, k2⟩ := R.bind_ok.1 h
        exact fin cs k1 k2
      | ret =>
        obtain ⟨cs, k1, k2⟩ := R.bind_ok.1 h
        exact fin cs k1 k2
      | _ => cases h

end

end Go.Cx
