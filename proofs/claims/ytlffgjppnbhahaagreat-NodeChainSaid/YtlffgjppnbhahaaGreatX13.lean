/- Conversions and maps: each operation. No program is named here. -/
import Derived.Test.YtlffgjppnbhahaaGreatX12
import Derived.MapKept
set_option linter.unusedSimpArgs false
set_option linter.unusedVariables false
set_option maxHeartbeats 1000000
namespace Go.Cx
open Go.MapKept (run_getObj_map run_setObj_map run_findKey bytes_beq heap_set)

section
variable {P : Program} {orb : BinOp → CV → CV → Option CV} {ρ : Nat → Int} {loc loc' : Lc} {s : St} {a : Act} {w : World} {o : Oper} {r : Out}

theorem bytesOf_ok : ∀ {cs : List CV} {l : List UInt8} {vs : List Value}, bytesOf cs = .ok l → VL ρ loc cs vs → ∃ ns : List Nat, vs = (ns.map fun n => Value.int .u8 (Int.ofNat n)) ∧ l = ns.map UInt8.ofNat
  | [], l, vs, h, hv => by cases h; cases hv; exact ⟨[], rfl, rfl⟩
  | c :: cs, l, vs, h, hv => by
    unfold bytesOf at h
    split at h
    · rename_i n
      obtain ⟨l', h1, h⟩ := R.bind_ok.1 h
      cases h
      simp only [VL, V] at hv
      obtain ⟨u, us, rfl, rfl, hv⟩ := hv
      obtain ⟨ns, rfl, rfl⟩ := bytesOf_ok h1 hv
      exact ⟨n :: ns, rfl, rfl⟩
    · cases h

theorem push_all : ∀ (ns : List Nat) (b : Array UInt8), ((ns.map fun n => Int.ofNat n).foldl (fun r n => r.push (UInt8.ofNat n.toNat)) (ByteArray.mk b)) = ⟨b ++ (ns.map UInt8.ofNat).toArray⟩
  | [], b => by simp
  | n :: ns, b => by
    simp only [List.map_cons, List.foldl_cons]
    have : (ByteArray.mk b).push (UInt8.ofNat (Int.ofNat n).toNat) = ⟨b.push (UInt8.ofNat n)⟩ := rfl
    rw [this, push_all ns]
    congr 1
    apply Array.ext'
    simp

theorem o_convert (hO : OraOk ρ orb) (hT : TmOk ρ loc s.tm a) (hM : Mem ρ loc s.hp.get w) {t d : TypeId} {x : Operand} (ho : o.op = .convert t d x) (h : execO P orb s o.op = .ok r) : OpPost ρ loc s w r ((execOp a.eval o).run P w) := by
  rw [ho] at h
  obtain ⟨j, h1, g1⟩ := R.bind_ok.1 h
  obtain ⟨i, h2, g2⟩ := R.bind_ok.1 g1
  obtain ⟨v, h3, g3⟩ := R.bind_ok.1 g2
  clear h g1 g2
  have h := g3
  clear g3
  have hx := evO_ok hT h3
  have hj := (tiOf_ok h1).underlying w
  have hi := (tiOf_ok h2).underlying w
  split at h
  · rename_i k n
    split at h
    · rename_i k' hd
      rw [hd] at hi
      simp only [V] at hx
      refine OpPost.pure (v' := .int k' (k'.wrap n)) hM (by simp [V]) h ?_
      simp only [execOp, ho, hx]
      rw [run_val]
      unfold Go.convert
      rw [Sem.run_bind, hj]
      simp only [Result.andThen_ok]
      rw [Sem.run_bind, hi]
      rfl
    · cases h
  · rename_i n
    split at h
    · rename_i k' hd
      rw [hd] at hi
      obtain ⟨u, e1, h⟩ := R.bind_ok.1 h
      obtain ⟨n', k, m, e2, e3, e4⟩ := (hO _ _ _ _ (R.of_ok.1 e1)).2 rfl
      cases e2
      cases e3
      simp only [V] at hx
      refine OpPost.pure hM e4.v h ?_
      simp only [execOp, ho, hx]
      rw [run_val]
      unfold Go.convert
      rw [Sem.run_bind, hj]
      simp only [Result.andThen_ok]
      rw [Sem.run_bind, hi]
      rfl
    · cases h
  · rename_i id st off len cap ex
    split at h
    · rename_i hd
      obtain ⟨e, e1, h⟩ := R.bind_ok.1 h
      obtain ⟨k, e2, h⟩ := R.bind_ok.1 h
      split at h
      · rename_i hk
        obtain ⟨e3, h⟩ := R.if_ok.1 h
        obtain ⟨xs, e4, h⟩ := R.bind_ok.1 h
        obtain ⟨cs, e5, h⟩ := R.bind_ok.1 h
        obtain ⟨l, e6, h⟩ := R.bind_ok.1 h
        have e3 : st = 1 := Nat.eq_of_beq_eq_true e3
        subst e3
        have hje : j.desc = .slice e := by
          unfold elemD at e1
          split at e1
          · rename_i hd'; cases e1; exact hd'
          · cases e1
        simp only [V] at hx
        obtain ⟨p, ad, c, hp, hx, hc1, hc2, hc3, hc4⟩ := hx
        obtain ⟨q, hq, hh⟩ := hM.cells e4
        rw [hp] at hq; cases hq
        obtain ⟨vs, f1, f2, f3⟩ := hh.cut e5
        obtain ⟨ns, rfl, rfl⟩ := bytesOf_ok e6 f1
        have hl : (loadCells ad len).run P w = .ok ((ns.map fun n => Int.ofNat n).map (Value.int .u8)).toArray w := by
          have hm : (ns.map fun n => Int.ofNat n).map (Value.int .u8) = ns.map fun n => Value.int .u8 (Int.ofNat n) := by rw [List.map_map]; rfl
          rw [hm]
          rcases hc4 with h0 | ⟨h0, _⟩
          · have : len = 0 := by omega
            subst this
            have : ns = [] := by simpa using f2
            subst this
            rfl
          · rw [h0]
            exact run_cells f2 f3
        refine OpPost.pure (v' := .string ⟨(ns.map UInt8.ofNat).toArray⟩) hM (by simp [V]) h ?_
        obtain ⟨_, _, _, u1, _⟩ := (tiOf_ok h1).ex
        obtain ⟨_, _, _, u2, _⟩ := (tiOf_ok h2).ex
        obtain ⟨_, _, _, u3, _⟩ := (tiOf_ok e2).ex
        rw [hje] at u1
        rw [hd] at u2
        rw [hk] at u3
        simp only [execOp, ho, hx]
        rw [run_val, run_convert_bytes_string w t d e _ _ _ u1 u3 u2, run_bytesToString w ad len c _ hl]
        have := push_all ns #[]
        simp only [Array.empty_append] at this
        rw [show ByteArray.empty = ByteArray.mk #[] from rfl, this]
        rfl
      · cases h
    · cases h
  · cases h

/-- Entries, one for one. -/
def EL (ρ : Nat → Int) (loc : Lc) : List ME → List MapEntry → Prop
  | [], l => l = []
  | x :: es, l => ∃ y l', l = y :: l' ∧ V ρ loc x.k y.key ∧ V ρ loc x.v y.val ∧ y.born = x.b ∧ EL ρ loc es l'

theorem EL.iff : ∀ {es : List ME} {l : List MapEntry}, EL ρ loc es l ↔ l.length = es.length ∧ ∀ (i : Nat) x, es[i]? = some x → ∃ y, l[i]? = some y ∧ V ρ loc x.k y.key ∧ V ρ loc x.v y.val ∧ y.born = x.b
  | [], l => by
    simp only [EL]
    constructor
    · rintro rfl; exact ⟨rfl, fun i x h => by simp at h⟩
    · rintro ⟨h, _⟩; exact List.length_eq_zero_iff.1 h
  | x :: es, l => by
    simp only [EL]
    constructor
    · rintro ⟨y, l', rfl, h1, h2, h3, h4⟩
      obtain ⟨h5, h6⟩ := EL.iff.1 h4
      refine ⟨by simp [h5], fun i => ?_⟩
      cases i with
      | zero => rintro x' h; simp at h; subst h; exact ⟨y, rfl, h1, h2, h3⟩
      | succ i => rintro x' h; simp at h; simpa using h6 i x' h
    · rintro ⟨h, h'⟩
      cases l with
      | nil => simp at h
      | cons y l =>
        obtain ⟨y', e, h1, h2, h3⟩ := h' 0 x rfl
        simp at e; subst e
        exact ⟨y, l, rfl, h1, h2, h3, EL.iff.2 ⟨by simpa using h, fun i x' hx => by simpa using h' (i + 1) x' (by simpa using hx)⟩⟩

theorem Holds.el {p : Pl} {es : List ME} {c : Nat} (h : Holds ρ loc w p (.map es c)) : ∃ a : Array MapEntry, w.heap[p.b]? = some (.map a c) ∧ EL ρ loc es a.toList := by
  obtain ⟨a, h1, h2, h3⟩ := h
  exact ⟨a, h1, EL.iff.2 ⟨by simpa using h2, fun i x hx => by simpa using h3 i x hx⟩⟩

theorem Holds.of_el {p : Pl} {es : List ME} {c : Nat} {a : Array MapEntry} (h : w.heap[p.b]? = some (.map a c)) (he : EL ρ loc es a.toList) : Holds ρ loc w p (.map es c) := by
  obtain ⟨h2, h3⟩ := EL.iff.1 he
  exact ⟨a, h, by simpa using h2, fun i x hx => by simpa using h3 i x hx⟩

theorem keyI_ok {t : TypeId} {ki : TI × TypeId} (h : keyI P t = .ok ki) : ∃ (i : TI) (kt : TypeId), TOk P t i ∧ i.desc = .map kt ki.2 ∧ TOk P kt ki.1 := by
  obtain ⟨i, h1, h⟩ := R.bind_ok.1 h
  obtain ⟨ke, h2, h⟩ := R.bind_ok.1 h
  obtain ⟨k, h3, h⟩ := R.bind_ok.1 h
  cases h
  refine ⟨i, ke.1, tiOf_ok h1, ?_, tiOf_ok h3⟩
  unfold mapD at h2
  split at h2
  · rename_i hd; cases h2; exact hd
  · cases h2

theorem TOk.und {t : TypeId} {i : TI} (h : TOk P t i) : P.underlying t = some i.desc := by
  obtain ⟨_, _, _, u, _⟩ := h.ex
  exact u

theorem key_checked {kt : TypeId} {ki : TI} (hi : TOk P kt ki) {c : CV} (hk : isKey ki.desc c = true) {k : Value} (hv : V ρ loc c k) (e : Bool) (n : Nat) : (Instr.checkKey e (n + 1) kt k).run P w = .ok () w := by
  unfold Instr.checkKey
  rw [Sem.run_bind, hi.underlying w]
  simp only [Result.andThen_ok]
  unfold isKey at hk
  split at hk
  · simp only [V] at hv
    subst hv
    split at hk
    · rename_i hd; rw [hd]; split at hk
      · rfl
      · cases hk
    · rename_i hd; rw [hd]; split at hk
      · rfl
      · cases hk
    · cases hk
  · simp only [V] at hv
    subst hv
    split at hk
    · rename_i hd; rw [hd]; rfl
    · cases hk
  · cases hk

/-- Keys are compared as they are told. -/
theorem keyEq_ok (hO : OraOk ρ orb) {d : TypeDesc} {x y : CV} {q : Bool} (h : keyEq orb x y = .ok q) (hk : isKey d x = true) {u v : Value} (h1 : V ρ loc x u) (h2 : V ρ loc y v) : Instr.sameNow d u v = some q ∧ (q = true → u = v) := by
  have ora : (∃ k, d = .int k) → ∀ r, orb .eql x y = some (.lit (.bool r)) → Instr.sameNow d u v = some r ∧ (r = true → u = v) := fun ⟨k, hd⟩ r hr => by
    obtain ⟨k1, p, q, v', e1, e2, e3, e4⟩ := (hO _ _ _ _ hr).1 (by simp)
    have e3 : v' = .bool r := by
      rcases e3 with e3 | ⟨_, e3, _⟩
      · cases e3; rfl
      · cases e3
    subst e3
    have e5 := ival_ok e1 h1
    have e6 := ival_ok e2 h2
    subst e5 e6 hd
    simp only [intB] at e4
    cases e4
    refine ⟨by simp [Instr.sameNow], fun h => ?_⟩
    simp at h; rw [h]
  unfold keyEq at h
  split at h
  · rename_i a0
    simp only [V] at h1
    split at h
    · rename_i b0
      simp only [V] at h2
      split at h
      · rename_i k n
        split at h
        · rename_i k' m
          obtain ⟨e1, h⟩ := R.if_ok.1 h
          cases h
          have e1 : k = k' := by simpa using e1
          subst e1 h1 h2
          cases d <;> simp_all [isKey, Instr.sameNow]
        · cases h
      · split at h
        · cases h
          subst h1 h2
          cases d <;> simp_all [isKey, Instr.sameNow, bytes_beq]
        · cases h
      · cases h
    · rename_i m
      split at h
      · rename_i r hr
        cases h
        refine ora ?_ _ hr
        obtain ⟨k1, p, q, v', e1, e2, e3, e4⟩ := (hO _ _ _ _ hr).1 (by simp)
        have e5 := ival_ok (loc := loc) e1 (v := a0) (by simp [V])
        subst e5
        cases d <;> simp_all [isKey]
      · cases h
    · cases h
  · rename_i n
    have hd : ∃ k, d = .int k := by cases d <;> simp_all [isKey]
    split at h
    · rename_i m
      cases hn : Nat.beq n m with
      | true =>
        rw [hn] at h
        cases h
        have := Nat.eq_of_beq_eq_true hn
        subst this
        simp only [V] at h1 h2
        obtain ⟨k, rfl⟩ := hd
        subst h1 h2
        simp [Instr.sameNow]
      | false =>
        rw [hn, cond_false] at h
        split at h
        · rename_i r hr
          cases h
          exact ora hd _ hr
        · cases h
    · split at h
      · rename_i r hr
        cases h
        exact ora hd _ hr
      · cases h
    · cases h
  · cases h

theorem find_ok (hO : OraOk ρ orb) {d : TypeDesc} {x : CV} (hk : isKey d x = true) {u : Value} (hu : V ρ loc x u) : ∀ {es : List ME} {l : List MapEntry} {f : Option (Nat × CV)} (n : Nat), findM orb x es = .ok f → EL ρ loc es l →
    (f = none ∧ Instr.findNow d u l n = some none) ∨ ∃ j c e, f = some (j, c) ∧ l[j]? = some e ∧ Instr.findNow d u l n = some (some (n + j, e.val)) ∧ V ρ loc c e.val ∧ e.key = u ∧ es[j]?.map (·.v) = some c
  | [], l, f, n, h, he => by
    cases h; cases he
    exact .inl ⟨rfl, rfl⟩
  | x' :: es, l, f, n, h, he => by
    obtain ⟨q, h1, h⟩ := R.bind_ok.1 h
    obtain ⟨y, l', rfl, e1, e2, e3, e4⟩ := he
    obtain ⟨s1, s2⟩ := keyEq_ok hO h1 hk hu e1
    cases q with
    | true =>
      cases h
      exact .inr ⟨0, _, y, rfl, rfl, by simp [Instr.findNow, s1], e2, (s2 rfl).symm, rfl⟩
    | false =>
      obtain ⟨f', h2, h⟩ := R.bind_ok.1 h
      cases h
      rcases find_ok hO hk hu (n + 1) h2 e4 with ⟨rfl, h3⟩ | ⟨j, c, e, rfl, h3, h4, h5, h6, h7⟩
      · exact .inl ⟨rfl, by simp [Instr.findNow, s1, h3]⟩
      · exact .inr ⟨j + 1, c, e, rfl, by simpa using h3, by simp [Instr.findNow, s1, h4]; omega, h5, h6, by simpa using h7⟩

theorem zeroV_ok {t : TypeId} {i : TI} (hi : TOk P t i) {z : CV} (h : zeroV i = .ok z) : ∃ z', (zeroValue t).run P w = .ok z' w ∧ V ρ loc z z' := by
  obtain ⟨f, z', h1, h2, h3, h4, h5, h6, h7, h8, h9⟩ := hi.ex
  refine ⟨z', by simp [zeroValue, typeInfo, h1, h3], ?_⟩
  unfold zeroV at h
  cases ha : i.agg with
  | true =>
    rw [ha] at h h9
    cases h
    cases z' <;> simp [isAggV] at h9
    simp only [V]
    exact ⟨_, rfl, by rw [h6]; exact VL.lits _⟩
  | false =>
    rw [ha] at h h9
    have h := R.of_ok.1 h
    have : z'.cells = #[z'] := by cases z' <;> first | rfl | simp [isAggV] at h9
    rw [h6, this] at h
    simp [lits] at h
    subst h
    simp [V]

theorem o_lookup (hO : OraOk ρ orb) (hT : TmOk ρ loc s.tm a) (hM : Mem ρ loc s.hp.get w) {t : TypeId} {m k : Operand} {ok : Bool} (ho : o.op = .lookup t m k ok) (h : execO P orb s o.op = .ok r) : OpPost ρ loc s w r ((execOp a.eval o).run P w) := by
  rw [ho] at h
  obtain ⟨ki, h1, g1⟩ := R.bind_ok.1 h
  obtain ⟨ei, h2, g2⟩ := R.bind_ok.1 g1
  obtain ⟨mv, h3, g3⟩ := R.bind_ok.1 g2
  obtain ⟨kv, h4, g4⟩ := R.bind_ok.1 g3
  clear h g1 g2 g3
  obtain ⟨i, kt, t1, t2, t3⟩ := keyI_ok h1
  have hm := evO_ok hT h3
  have hk := evO_ok hT h4
  split at g4
  · rename_i id
    obtain ⟨h5, g5⟩ := R.if_ok.1 g4
    obtain ⟨mc, h6, g6⟩ := R.bind_ok.1 g5
    obtain ⟨f, h7, h⟩ := R.bind_ok.1 g6
    clear g4 g5 g6
    simp only [V] at hm
    obtain ⟨p, hp, hm⟩ := hm
    obtain ⟨q, hq, hh⟩ := hM.sat id _ (mapAt_ok h6)
    rw [hp] at hq; cases hq
    obtain ⟨ar, har, hel⟩ := hh.el
    have hu := t1.underlying w
    rw [t2] at hu
    have hck := key_checked (w := w) t3 h5 hk ar.isEmpty 9999
    rcases find_ok hO h5 hk 0 h7 hel with ⟨rfl, f1⟩ | ⟨j, c, e, rfl, f1, f2, f3, f4, f5⟩
    · obtain ⟨z, h8, h⟩ := R.bind_ok.1 h
      obtain ⟨z', z1, z2⟩ := zeroV_ok (w := w) (ρ := ρ) (loc := loc) (tiOf_ok h2) h8
      refine OpPost.pure (v' := if ok then .tuple #[z', .bool false] else z') hM ?_ h ?_
      · cases ok
        · exact z2
        · simp only [cond_true, if_true, V]
          exact ⟨_, rfl, .cons z2 (.cons (by simp [V]) .nil)⟩
      · simp only [execOp, ho, hm]
        rw [run_val]
        unfold Instr.lookup
        rw [Sem.run_bind, hu]
        simp only [Result.andThen_ok, bind_assoc]
        rw [Sem.run_bind, run_getObj_map har]
        simp only [Result.andThen_ok, pure_bind]
        rw [Sem.run_bind, hck]
        simp only [Result.andThen_ok]
        rw [Sem.run_bind, run_findKey t3.und f1]
        simp only [Result.andThen_ok]
        rw [Sem.run_bind, z1]
        rfl
    · refine OpPost.pure (v' := if ok then .tuple #[e.val, .bool true] else e.val) hM ?_ h ?_
      · cases ok
        · exact f3
        · simp only [cond_true, if_true, V]
          exact ⟨_, rfl, .cons f3 (.cons (by simp [V]) .nil)⟩
      · simp only [execOp, ho, hm]
        rw [run_val]
        unfold Instr.lookup
        rw [Sem.run_bind, hu]
        simp only [Result.andThen_ok, bind_assoc]
        rw [Sem.run_bind, run_getObj_map har]
        simp only [Result.andThen_ok, pure_bind]
        rw [Sem.run_bind, hck]
        simp only [Result.andThen_ok]
        rw [Sem.run_bind, run_findKey t3.und f2]
        rfl
  · cases g4

end

end Go.Cx
