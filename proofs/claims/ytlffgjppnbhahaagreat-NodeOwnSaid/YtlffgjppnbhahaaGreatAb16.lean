/- One operation over abstract states, whatever it is; regions; and the closing of a function's contract. No program is named here. -/
import Derived.Test.YtlffgjppnbhahaaGreatAb15
import Derived.Test.YtlffgjppnbhahaaGreatAbE
import Derived.Test.YtlffgjppnbhahaaGreatAbM
import Derived.Test.YtlffgjppnbhahaaGreatAbZ
import Derived.Laws.Small
import Derived.Laws.BytesString
import Derived.Laws.BytesArg
import Derived.Laws.StructEq
import Derived.Lib.SliceRun
set_option linter.unusedSimpArgs false
set_option linter.unusedVariables false
set_option maxHeartbeats 1000000
namespace Go.Ab

/-- Each stands in one cell. -/
def okAll (obs : List Ob) : List D → Prop
  | [] => True
  | c :: l => cellOk obs c ∧ okAll obs l

theorem okAll_mem {obs : List Ob} : ∀ {l : List D}, okAll obs l → ∀ c, c ∈ l → cellOk obs c
  | [], _, c, hc => by simp at hc
  | d :: l, h, c, hc => by
    rcases List.mem_cons.1 hc with rfl | hc
    · exact h.1
    · exact okAll_mem h.2 c hc

def okParts (st : St) : List (Nat × Operand) → Prop
  | [] => True
  | x :: l => okAll st.ob (cellsD (st.ev x.2)) ∧ okParts st l

theorem okParts_mem {st : St} : ∀ {l : List (Nat × Operand)}, okParts st l → ∀ x, x ∈ l → ∀ c, c ∈ cellsD (st.ev x.2) → cellOk st.ob c
  | [], _, c, hc => by simp at hc
  | d :: l, h, c, hc => by
    rcases List.mem_cons.1 hc with rfl | hc
    · exact okAll_mem h.1
    · exact okParts_mem h.2 c hc

/-- An address is one of memory that is there. -/
def ptrLive (obs : List Ob) : D → Prop
  | .ptr id _ _ => liveAt obs id
  | _ => True

/-- Two structs, or arrays, compared. -/
def eqAgg (P : Program) (t : TypeId) (xs ys : List D) (K : Bool → Prop) : Prop :=
  match eqO P t with
  | some cks => match eqCells cks xs ys with
    | some b => K b
    | none => False
  | none => False

theorem eqAgg_some {P : Program} {t : TypeId} {xs ys : List D} {K : Bool → Prop} (h : eqAgg P t xs ys K) : ∃ cks b, eqO P t = some cks ∧ eqCells cks xs ys = some b ∧ K b := by
  unfold eqAgg at h
  split at h
  · rename_i cks h1
    split at h
    · rename_i b h2; exact ⟨_, _, h1, h2, h⟩
    · exact h.elim
  · exact h.elim

/-- What an operator answers, whatever its operands. -/
def abinAll (P : Program) (op : BinOp) (t : TypeId) (x y : D) (K : D → Prop) : Prop :=
  match op, x, y with
  | .eql, .p (.lit (.bool a)), .p (.lit (.bool b)) => P.underlying t = some .bool ∧ K (bD (a == b))
  | .neq, .p (.lit (.bool a)), .p (.lit (.bool b)) => P.underlying t = some .bool ∧ K (bD (a != b))
  | .eql, .p (.sl xs), .nil => (∃ e, P.underlying t = some (.slice e)) ∧ ∀ b : Bool, (xs ≠ [] → b = false) → K (bD b)
  | .neq, .p (.sl xs), .nil => (∃ e, P.underlying t = some (.slice e)) ∧ ∀ b : Bool, (xs ≠ [] → b = true) → K (bD b)
  | .eql, .nil, .nil => (∃ e, P.underlying t = some (.slice e)) ∧ K (bD true)
  | .neq, .nil, .nil => (∃ e, P.underlying t = some (.slice e)) ∧ K (bD false)
  | .eql, .agg xs, .agg ys => eqAgg P t xs ys fun b => K (bD b)
  | .neq, .agg xs, .agg ys => eqAgg P t xs ys fun b => K (bD (!b))
  | op, x, y => abin (fun _ => false) op t x y K

def aunAll (op : UnOp) (x : D) (K : D → Prop) : Prop :=
  match op, x with
  | .not, .p (.lit (.bool b)) => K (bD (!b))
  | .neg, .p (.lit (.int k n)) => K (.p (.lit (.int k (k.wrap (0 - n)))))
  | _, _ => False

/-- The least, or the greatest, of several numbers. -/
def mostD (up : Bool) (k : IntKind) (x : Int) : List D → (D → Prop) → Prop
  | [], K => K (.p (.lit (.int k x)))
  | .p (.lit (.int _ y)) :: l, K => mostD up k (if up then (if y > x then y else x) else (if y < x then y else x)) l K
  | _, _ => False

theorem mostD_min {P : Program} {w : World} {H : HV} {loc : Nat → Loc} {obs : List Ob} {k : IntKind} {K : D → Prop} : ∀ {l : List D} {vs : List Value} {x : Int}, mostD false k x l K → vs.length = l.length →
    (∀ (i : Nat) v d, vs[i]? = some v → l[i]? = some d → V H loc obs v d) → ∃ n, (vs.foldlM Builtin.min2 (Value.int k x)).run P w = .ok (.int k n) w ∧ K (.p (.lit (.int k n)))
  | [], [], x, h, _, _ => ⟨x, rfl, h⟩
  | d :: l, v :: vs, x, h, hn, hv => by
    unfold mostD at h
    split at h
    · rename_i heq; cases heq
    · rename_i k' y l' heq
      simp only [List.cons.injEq] at heq
      obtain ⟨rfl, rfl⟩ := heq
      have h0 := (hv 0 v _ rfl rfl).lit_inv
      subst h0
      obtain ⟨n, h1, h2⟩ := mostD_min h (by simpa using hn) (fun i v d g1 g2 => hv (i + 1) v d g1 g2)
      refine ⟨n, ?_, h2⟩
      simp only [List.foldlM_cons, Builtin.min2, pure_bind]
      exact h1
    · exact h.elim
  | [], _ :: _, _, _, hn, _ => by simp at hn
  | _ :: _, [], _, _, hn, _ => by simp at hn

theorem mostD_max {P : Program} {w : World} {H : HV} {loc : Nat → Loc} {obs : List Ob} {k : IntKind} {K : D → Prop} : ∀ {l : List D} {vs : List Value} {x : Int}, mostD true k x l K → vs.length = l.length →
    (∀ (i : Nat) v d, vs[i]? = some v → l[i]? = some d → V H loc obs v d) → ∃ n, (vs.foldlM Builtin.max2 (Value.int k x)).run P w = .ok (.int k n) w ∧ K (.p (.lit (.int k n)))
  | [], [], x, h, _, _ => ⟨x, rfl, h⟩
  | d :: l, v :: vs, x, h, hn, hv => by
    unfold mostD at h
    split at h
    · rename_i heq; cases heq
    · rename_i k' y l' heq
      simp only [List.cons.injEq] at heq
      obtain ⟨rfl, rfl⟩ := heq
      have h0 := (hv 0 v _ rfl rfl).lit_inv
      subst h0
      obtain ⟨n, h1, h2⟩ := mostD_max h (by simpa using hn) (fun i v d g1 g2 => hv (i + 1) v d g1 g2)
      refine ⟨n, ?_, h2⟩
      simp only [List.foldlM_cons, Builtin.max2, pure_bind]
      exact h1
    · exact h.elim
  | [], _ :: _, _, _, hn, _ => by simp at hn
  | _ :: _, [], _, _, hn, _ => by simp at hn

theorem run_newmap {P : Program} (t : TypeId) (w : World) : (Instr.makeMap t none).run P w = .ok (.map (some w.heap.size)) (w.alloc (.map #[] 0)) := rfl

/-- A store, shut: what is stored may be given away for good. -/
inductive AS (P : Program) (n : Nat) (st : St) (x y : Operand) (K : St → Prop) : Prop where
  | mk (h : storeD n st (st.ev x) (st.ev y) K)
  | away (ids : List Nat) (hd : ids.Nodup) (hp : ∀ k, k < st.n0 → ids[k]? = some k) (h : storeD n (st.away ids) ((st.away ids).ev x) ((st.away ids).ev y) K)

/-- An append, shut. -/
inductive AAp (P : Program) (s n : Nat) (st : St) (x y : D) (K : D → St → Prop) : Prop where
  | grow (h : appendD s n st x y K)
  | room (h : appendIn s st x y K)

/-- A builtin function. -/
def abuiltin (P : Program) (b : Builtin) (ts : List TypeId) (st : St) (args : List D) (K : D → St → Prop) : Prop :=
  match b, ts, args with
  | .len, [t], [x] =>
    match P.underlying t, lenD st.ob x with
    | some (.slice _), some n => (∀ s, x ≠ .p (.lit (.string s))) ∧ K (iD n) st
    | some .string, some n => (∃ s, x = .p (.lit (.string s))) ∧ K (iD n) st
    | _, _ => False
  | .append, [t, tx], [x, y] =>
    match apO P t, elO P tx with
    | some (s, n), some _ => AAp P s n st x y K
    | some (s, n), none => appendZ P t tx s n st x y K
    | _, _ => False
  | .cap, [t], [.nil] => (match P.underlying t with | some (.slice _) => K (iD 0) st | _ => False)
  | .min, _, [.p (.lit (.int k x)), .p (.lit (.int _ y))] => K (.p (.lit (.int k (if y < x then y else x)))) st
  | .max, _, [.p (.lit (.int k x)), .p (.lit (.int _ y))] => K (.p (.lit (.int k (if y > x then y else x)))) st
  | .clear, [t], [x] => clearD P t st x K
  | .copy, [t, tx], [x, y] => copyD P t tx st x y K
  | .min, _, .p (.lit (.int k x)) :: l => mostD false k x l fun d => K d st
  | .max, _, .p (.lit (.int k x)) :: l => mostD true k x l fun d => K d st
  | _, _, _ => False


/-- Bytes in a row of one's own, and the text that they make. -/
def oneB : List PV → Option Int
  | [.lit (.int .u8 n)] => some n
  | _ => none
def bytesD (ob : List Ob) : D → Option (List Int)
  | .nil => some []
  | .ref id off n => match ob[id]? with
    | some (.row 1 xs) => ((xs.drop off).take n).mapM oneB
    | _ => none
  | _ => none
def pushB (ns : List Int) : ByteArray := ns.foldl (fun r n => r.push (UInt8.ofNat n.toNat)) ByteArray.empty
theorem bytes_map : ∀ l : List Int, (l.map fun b => [PV.lit (.int .u8 b)]).mapM oneB = some l
  | [] => rfl
  | b :: l => by
    rw [List.map_cons, List.mapM_cons, bytes_map l]; rfl
theorem bytes_get : ∀ {l : List (List PV)} {ns : List Int}, l.mapM oneB = some ns → l = ns.map fun b => [PV.lit (.int .u8 b)]
  | [], ns, h => by simp at h; subst h; rfl
  | x :: l, ns, h => by
    rw [List.mapM_cons] at h
    cases hx : oneB x with
    | none => rw [hx] at h; cases h
    | some b =>
      rw [hx] at h
      cases hl : l.mapM oneB with
      | none => rw [hl] at h; cases h
      | some bs =>
        rw [hl] at h; cases h
        rw [List.map_cons, ← bytes_get hl]
        congr 1
        unfold oneB at hx
        split at hx
        · cases hx; rfl
        · cases hx
theorem convert_bytes {P : Program} {H : HV} {loc : Nat → Loc} {ob : List Ob} {w : World} (hs : Sr H loc ob w) {src dst e : TypeId} (h1 : P.underlying src = some (.slice e)) (h2 : P.underlying dst = some .string) (h3 : P.underlying e = some (.int .u8))
    {v : Value} {d : D} (hv : V H loc ob v d) {ns : List Int} (hb : bytesD ob d = some ns) : (convert src dst v).run P w = .ok (.string (pushB ns)) w := by
  have hnil : ∀ l c, (convert src dst (.slice none l c)).run P w = .ok (.string (pushB [])) w := fun l c => by
    rw [run_convert_bytes_string w src dst e _ l c h1 h3 h2]
    simp [Conv.bytesToString, pushB, Sem.run_pure]
  cases hv <;> simp only [bytesD] at hb <;> try (cases hb; done)
  case nil => cases hb; exact hnil _ _
  case refGone => rename_i hob; rw [hob] at hb; cases hb
  case ref0 a id off s xs ho hl =>
    rw [ho] at hb
    have hns : ns = [] := by
      split at hb
      · simpa using hb
      · cases hb
    subst hns
    cases a with
    | none => exact hnil _ _
    | some a =>
      rw [run_convert_bytes_string w src dst e _ 0 0 h1 h3 h2, run_bytesToString w a 0 0 [] (by simpa using run_loadCells_list (P := P) w a [] (fun j v h => by simp at h))]
      rfl
  case ref id off len cap s xs ho hl hc hx hr hn =>
    rw [ho] at hb
    split at hb
    · rename_i s' xs' heq
      cases heq
      have hrow := bytes_get hb
      have hlen : ns.length = len := by
        have := congrArg List.length hrow
        simp only [List.length_take, List.length_drop, List.length_map] at this
        omega
      rcases hs.obj id _ ho with ⟨h, _⟩ | ⟨_, c, ec, g1, g2, g3, g4, g5⟩
      · rw [hr] at h; cases h
      rw [run_convert_bytes_string w src dst e _ len cap h1 h3 h2, run_bytesToString w _ len cap ns ?_]
      · rfl
      have := run_loadCells_list (P := P) w ⟨(loc id).b, (loc id).o + off * 1, none⟩ (ns.map (Value.int .u8)) (fun j v hj => by
        rw [List.getElem?_map] at hj
        cases hq : ns[j]? with
        | none => rw [hq] at hj; cases hj
        | some b =>
          rw [hq] at hj; cases hj
          have hjl : j < len := by rw [← hlen]; exact (List.getElem?_eq_some_iff.1 hq).1
          have hxr : xs[off + j]? = some [PV.lit (.int .u8 b)] := by
            have h := congrArg (·[j]?) hrow
            simp only [List.getElem?_map, hq, Option.map_some, List.getElem?_take_of_lt hjl, List.getElem?_drop] at h
            exact h
          obtain ⟨u, a1, _, a3⟩ := g5 _ _ hxr 0 _ rfl
          cases a3
          rw [Addr.add_lit]
          simp only [World.cell?, g1, Option.isSome_none, Bool.false_eq_true, if_false]
          rw [← a1]
          congr 1; omega)
      simpa [hlen] using this
    · cases hb


/-- One operation. -/
def aop (P : Program) (o : Oper) (st : St) (K : D → St → Prop) : Prop :=
  match o.op with
  | .move x => K (st.ev x) st
  | .assign x => K (st.ev x) st
  | .pick c x y => match st.ev c with | .p (.lit (.bool t)) => (t = true → K (st.ev x) st) ∧ (t = false → K (st.ev y) st) | _ => False
  | .extract x i => match st.ev x with | .tup ds => (match ds[i]? with | some d => K d st | none => False) | _ => False
  | .binOp op t x y _ => abinAll P op t (st.ev x) (st.ev y) fun d => K d st
  | .unOp op _ x => aunAll op (st.ev x) fun d => K d st
  | .fieldAddr s x f => match fdO P s f with | some off => (match fieldD off (st.ev x) with | some r => ptrLive st.ob (st.ev x) ∧ K r st | none => False) | none => False
  | .indexAddr t x ix =>
    match st.ev ix with
    | .p (.lit (.int _ i)) =>
      match arO P t with
      | some (n, m) => 0 ≤ i ∧ i < (n : Int) ∧ ptrLive st.ob (st.ev x) ∧ (match fieldD (i.toNat * m) (st.ev x) with | some r => K r st | none => False)
      | none => match elO P t with | some (s, _) => indexD st.ob s i (fun d => K d st) (st.ev x) | none => False
    | _ => False
  | .load t x =>
    match tyO P t, derefD st.ob (st.ev x) with
    | some (g, n), some cs => (match loadD g n cs with | some r => K r st | none => False)
    | _, _ => False
  | .store t x y => match tyO P t with | some (_, n) => AS P n st x y (K (.p (.lit undef))) | none => False
  | .box _ x => okAll st.ob (cellsD (st.ev x)) ∧ K (.ptr st.ob.length 0 0) ⟨st.tm, st.ob ++ [.box (cellsD (st.ev x))], st.n0⟩
  | .lookup t x ix ok => lookupD P t st (st.ev x) (st.ev ix) ok K
  | .mapUpdate t m k x => updateD P t st (st.ev m) (st.ev k) (st.ev x) (K (.p (.lit undef)))
  | .insert t m k x => updateD P t st (st.ev m) (st.ev k) (st.ev x) (K (.p (.lit undef)))
  | .makeMap _ none => K (.mp st.ob.length) ⟨st.tm, st.ob ++ [.map []], st.n0⟩
  | .alloc e => match zeroO P e with | some cs => cs.all cellOk0 = true ∧ K (.ptr st.ob.length 0 0) ⟨st.tm, st.ob ++ [.box cs], st.n0⟩ | none => False
  | .build t parts =>
    match plO P t, zeroO P t with
    | some pl, some z => okParts st parts.toList ∧ (match fillD (pl[·]?) z (parts.toList.map fun x => (x.1, st.ev x.2)) with | some r => K (.agg r) st | none => False)
    | _, _ => False
  | .buildSlice t len parts =>
    match slO P t with
    | some s => okParts st parts.toList ∧ len * s ≤ 16777216 ∧
        (match rowsD s (parts.toList.map fun x => (x.1, st.ev x.2)) 0 with | some xs => xs.length = len ∧ K (.ref st.ob.length 0 len) ⟨st.tm, st.ob ++ [.row s xs], st.n0⟩ | none => False)
    | none => False
  | .makeFunc (.func f) first caps => first = #[] ∧ K (.fn f (caps.toList.map st.ev)) st
  | .slice t x lo hi mx =>
    match elO P t, boundD (lo.map st.ev), boundD (hi.map st.ev), boundD (mx.map st.ev) with
    | some (s, _), some l, some h, some m =>
      (match st.ev x with
       | .ref id _ _ => (match st.ob[id]? with | some (.row s' _) => s' = s | _ => False)
       | .p (.sl xs) => ∀ x, x ∈ xs → x.length = s
       | _ => True) ∧ partD st.ob l h m (st.ev x) fun d => K d st
    | none, some (some l), some none, some none =>
      (match P.underlying t, st.ev x with
       | some .string, .p (.lit (.string s)) => 0 ≤ l ∧ l ≤ (s.size : Int) ∧ K (.p (.lit (.string (s.extract l.toNat s.size)))) st
       | _, _ => False)
    | _, _, _, _ => False
  | .convert src dst x =>
    match P.underlying src, P.underlying dst, st.ev x with
    | some (.int _), some (.int k), .p (.lit (.int _ n)) => K (.p (.lit (.int k (k.wrap n)))) st
    | some (.slice e), some .string, d => P.underlying e = some (.int .u8) ∧ (match bytesD st.ob d with | some ns => K (.p (.lit (.string (pushB ns)))) st | none => False)
    | _, _, _ => False
  | .index t x ix =>
    match P.underlying t, st.ev x, st.ev ix with
    | some (.array n e), .agg cs, .p (.lit (.int _ i)) =>
      (match tyO P e with
      | some (false, m) => 0 ≤ i ∧ i < (n : Int) ∧ (match cs[i.toNat * m]? with | some d => K d st | none => False)
      | _ => False)
    | some .string, .p (.lit (.string s)), .p (.lit (.int _ i)) => 0 ≤ i ∧ (match s[i.toNat]? with | some b => K (.p (.lit (.int .u8 b.toNat))) st | none => False)
    | _, _, _ => False
  | .nilCheck x =>
    match st.ev x with
    | .ptr id i j => ptrLive st.ob (.ptr id i j) ∧ K (.ptr id i j) st
    | .rd y j => K (.rd y j) st
    | _ => False
  | .call c =>
    match c.callee with
    | .value x => AC P st (st.ev x) (c.args.toList.map st.ev) K
    | .builtin b => abuiltin P b c.argTypes.toList st (c.args.toList.map st.ev) K
    | _ => False
  | _ => False

section
variable {P : Program} {nt : Nat} {o : Oper} {st : St} {K : D → St → Prop}

theorem run_eq_nil {t e : TypeId} (h : P.underlying t = some (.slice e)) (a : Option Addr) (n c : Nat) (w : World) : (Op.equal t (.slice a n c) (.slice none 0 0)).run P w = .ok a.isNone w := by
  unfold Op.equal Op.maxDepth Op.equalIn
  simp only [Sem.run_bind, run_underlying h, Result.andThen_ok]
  cases a <;> rfl

theorem abinAll_sound {op : BinOp} {t : TypeId} {x y : D} {K : D → Prop} (h : abinAll P op t x y K) {H : HV} {loc : Nat → Loc} {obs : List Ob} {vx vy : Value} (hx : V H loc obs vx x) (hy : V H loc obs vy y) (w : World) :
    ∃ v d, (binOp op t vx vy).run P w = .ok v w ∧ K d ∧ V H loc obs v d := by
  have some_of : ∀ {xs : List (List PV)} {a : Option Addr} {n c : Nat}, V H loc obs (.slice a n c) (.p (.sl xs)) → (xs ≠ [] → a.isNone = false) := fun {xs a n c} hv hne => by
    cases hv with
    | p _ _ hp => cases hp with
      | none => exact absurd rfl hne
      | sl => rfl
  have isl : ∀ {xs : List (List PV)} {v : Value}, V H loc obs v (.p (.sl xs)) → ∃ a n c, v = .slice a n c := fun {xs v} hv => by
    cases hv with
    | p _ _ hp => cases hp <;> exact ⟨_, _, _, rfl⟩
  unfold abinAll at h
  split at h
  · have := hx.lit_inv; subst this
    have := hy.lit_inv; subst this
    exact ⟨_, _, by simp only [binOp, Sem.run_bind, run_equal_bool w _ _ _ h.1, Result.andThen_ok, Sem.run_pure], h.2, .p _ _ (.lit _)⟩
  · have := hx.lit_inv; subst this
    have := hy.lit_inv; subst this
    exact ⟨_, _, by simp only [binOp, Sem.run_bind, run_equal_bool w _ _ _ h.1, Result.andThen_ok, Sem.run_pure]; rfl, h.2, .p _ _ (.lit _)⟩
  · obtain ⟨⟨e, hu⟩, hK⟩ := h
    obtain ⟨a, n, c, rfl⟩ := isl hx
    cases hy with
    | nil =>
      exact ⟨.bool a.isNone, _, by simp only [binOp, Sem.run_bind, run_eq_nil hu, Result.andThen_ok, Sem.run_pure], hK _ (some_of hx), .p _ _ (.lit _)⟩
  · obtain ⟨⟨e, hu⟩, hK⟩ := h
    obtain ⟨a, n, c, rfl⟩ := isl hx
    cases hy with
    | nil =>
      exact ⟨.bool (!a.isNone), _, by simp only [binOp, Sem.run_bind, run_eq_nil hu, Result.andThen_ok, Sem.run_pure], hK _ (fun hne => by rw [some_of hx hne]; rfl), .p _ _ (.lit _)⟩
  · obtain ⟨⟨e, hu⟩, hK⟩ := h
    cases hx with
    | nil => cases hy with
      | nil => exact ⟨.bool true, _, by simp only [binOp, Sem.run_bind, run_eq_nil hu, Result.andThen_ok, Sem.run_pure]; rfl, hK, .p _ _ (.lit _)⟩
  · obtain ⟨⟨e, hu⟩, hK⟩ := h
    cases hx with
    | nil => cases hy with
      | nil => exact ⟨.bool false, _, by simp only [binOp, Sem.run_bind, run_eq_nil hu, Result.andThen_ok, Sem.run_pure]; rfl, hK, .p _ _ (.lit _)⟩
  · obtain ⟨cks, b, h1, h2, h3⟩ := eqAgg_some h
    exact ⟨_, _, (run_eq_agg w h1 h2 hx hy).1, h3, .p _ _ (.lit _)⟩
  · obtain ⟨cks, b, h1, h2, h3⟩ := eqAgg_some h
    exact ⟨_, _, (run_eq_agg w h1 h2 hx hy).2.1, h3, .p _ _ (.lit _)⟩
  · exact abin_sound h hx hy w

/-- What is compared is no interface value and no struct: nothing is asked ahead of it. -/
def plainCmp : D → Prop
  | .p _ => True
  | .nil => True
  | _ => False

theorem run_eqGuard_plain {op : BinOp} {t : TypeId} {x y : Operand} {a b : Value} (h : a ≠ .nilIface) (h2 : ∀ c, a ≠ .agg c) (w : World) : (eqGuard op t x y a b).run P w = .ok () w := by
  cases a <;> first
    | exact absurd rfl h
    | exact absurd rfl (h2 _)
    | (cases op <;> rfl)

theorem abinAll_guard {op : BinOp} {t : TypeId} {x y : D} {K : D → Prop} (h : abinAll P op t x y K) {H : HV} {loc : Nat → Loc} {obs : List Ob} {vx vy : Value} (hx : V H loc obs vx x) (hy : V H loc obs vy y) (w : World) (ox oy : Operand) :
    (eqGuard op t ox oy vx vy).run P w = .ok () w := by
  have plain : (vx ≠ .nilIface ∧ ∀ c, vx ≠ .agg c) → (eqGuard op t ox oy vx vy).run P w = .ok () w := fun hp => run_eqGuard_plain hp.1 hp.2 w
  have hlit : ∀ v : Value, x = .p (.lit v) → (v ≠ .nilIface ∧ ∀ c, v ≠ .agg c) → vx ≠ .nilIface ∧ ∀ c, vx ≠ .agg c := fun v e hv => by
    subst e; have := hx.lit_inv; subst this; exact hv
  unfold abinAll at h
  split at h
  · exact plain (hlit _ rfl ⟨by simp, by simp⟩)
  · exact plain (hlit _ rfl ⟨by simp, by simp⟩)
  · refine plain ?_
    cases hx with
    | p _ _ hp => cases hp <;> exact ⟨by simp, by simp⟩
  · refine plain ?_
    cases hx with
    | p _ _ hp => cases hp <;> exact ⟨by simp, by simp⟩
  · refine plain ?_
    cases hx; exact ⟨by simp, by simp⟩
  · refine plain ?_
    cases hx; exact ⟨by simp, by simp⟩
  · obtain ⟨cks, b, h1, h2, h3⟩ := eqAgg_some h
    exact (run_eq_agg w h1 h2 hx hy).2.2 _ _ _
  · obtain ⟨cks, b, h1, h2, h3⟩ := eqAgg_some h
    exact (run_eq_agg w h1 h2 hx hy).2.2 _ _ _
  · unfold abin at h
    split at h
    · exact plain (hlit _ rfl ⟨by simp, by simp⟩)
    · exact plain (hlit _ rfl ⟨by simp, by simp⟩)
    · exact h.elim

theorem aunAll_sound {op : UnOp} {x : D} {K : D → Prop} (h : aunAll op x K) {H : HV} {loc : Nat → Loc} {obs : List Ob} {vx : Value} (hx : V H loc obs vx x) (w : World) :
    ∃ v d, (Op.unary op vx).run P w = .ok v w ∧ K d ∧ V H loc obs v d := by
  unfold aunAll at h
  split at h
  · have := hx.lit_inv; subst this
    exact ⟨_, _, by simp only [Op.unary, Sem.run_pure], h, .p _ _ (.lit _)⟩
  · have := hx.lit_inv; subst this
    exact ⟨_, _, by simp only [Op.unary, Op.intArith, Sem.run_pure], h, .p _ _ (.lit _)⟩
  · exact h.elim

theorem opS_extract {x : Operand} {i : Nat} {ds : List D} {d : D} (ho : o.op = .extract x i) (hx : st.ev x = .tup ds) (hd : ds[i]? = some d) (h : K d st) : OpS P nt o st K := by
  refine opS_pure d h fun M H0 w0 H loc w a r => ?_
  have hv := r.ev x
  rw [hx] at hv
  generalize hvx : a.eval x = vx at hv
  cases hv with
  | tup vs _ hn hc =>
    have hlt : i < vs.size := by
      rcases Nat.lt_or_ge i ds.length with h' | h'
      · omega
      · simp [List.getElem?_eq_none h'] at hd
    refine ⟨vs[i], ?_, hc i _ d (Array.getElem?_eq_getElem hlt) hd⟩
    simp only [execOp, ho, hvx, Instr.extract, Array.getElem?_eq_getElem hlt, Sem.run_bind, Sem.run_pure, Result.andThen_ok]

theorem live_of {obs : List Ob} {d : D} (h : ptrLive obs d) : ∀ id i j, d = .ptr id i j → ∃ o, obs[id]? = some o ∧ o.live = true := fun id i j e => by
  subst e; exact liveAt_of h

theorem exec_builtin1 {a : Act} {w : World} {b : Builtin} {args : Array Operand} {ts : Array TypeId} (ho : o.op = .call { callee := .builtin b, args := args, argTypes := ts }) :
    ∃ cs, (execOp a.eval o).run P w = (builtin b ts o.type cs (args.map a.eval)).run P w := by
  simp only [execOp, ho, resolve, pure_bind, invoke]
  exact ⟨_, rfl⟩

theorem abuiltin_sound {b : Builtin} {args : Array Operand} {ts : Array TypeId} (ho : o.op = .call { callee := .builtin b, args := args, argTypes := ts }) (h : abuiltin P b ts.toList st (args.toList.map st.ev) K) : OpS P nt o st K := by
  unfold abuiltin at h
  split at h
  · rename_i t x hts hargs
    obtain ⟨y, hy⟩ : ∃ y, args = #[y] := by
      have : args.toList.length = 1 := by have := congrArg List.length hargs; simpa using this
      match h2 : args.toList, this with
      | [y], _ => exact ⟨y, by apply Array.ext'; rw [h2]⟩
    subst hy
    obtain rfl : ts = #[t] := by apply Array.ext'; rw [hts]
    simp at hargs
    subst hargs
    have go : ∀ n : Nat, lenD st.ob (st.ev y) = some n → ((∃ e, P.underlying t = some (.slice e)) ∨ P.underlying t = some .string) → ((∃ e, P.underlying t = some (.slice e)) ↔ (∀ s, st.ev y ≠ .p (.lit (.string s)))) → K (iD n) st → OpS P nt o st K := by
      intro n hn h1 h2 hK
      refine opS_pure _ hK fun M H0 w0 H loc w a r => ?_
      have := len_of (w := w) (ty := o.type) h1 (r.ev y) hn h2
      refine ⟨.int .i64 n, ?_, .p _ _ (.lit _)⟩
      obtain ⟨cs, hcs⟩ := exec_builtin1 (P := P) (a := a) (w := w) ho
      rw [hcs]
      simp only [builtin, List.map_toArray, List.map_cons, List.map_nil, Sem.run_bind, this, Result.andThen_ok, Sem.run_pure]
    split at h
    · rename_i e n hu hn
      exact go n hn (.inl ⟨e, hu⟩) ⟨fun _ => h.1, fun _ => ⟨e, hu⟩⟩ h.2
    · rename_i n hu hn
      refine go n hn (.inr hu) ⟨fun ⟨e, he⟩ => (by rw [hu] at he; cases he), fun hx => ?_⟩ h.2
      obtain ⟨s, hs⟩ := h.1
      exact absurd hs (hx s)
    · exact h.elim
  · rename_i t tx x y hts hargs
    obtain ⟨x', y', hy⟩ : ∃ x' y', args = #[x', y'] := by
      have : args.toList.length = 2 := by have := congrArg List.length hargs; simpa using this
      match h2 : args.toList, this with
      | [x', y'], _ => exact ⟨x', y', by apply Array.ext'; rw [h2]⟩
    subst hy
    obtain rfl : ts = #[t, tx] := by apply Array.ext'; rw [hts]
    simp at hargs
    obtain ⟨rfl, rfl⟩ := hargs
    split at h
    · rename_i s n q h1 h2
      have htx : ∃ e, P.underlying tx = some (.slice e) := ?_
      · cases h with
        | grow h => exact opS_append ho h1 htx h
        | room h => exact opS_append_in ho h1 htx h
      unfold elO at h2
      cases hu : P.underlying tx with
      | none => rw [hu] at h2; cases h2
      | some dsc =>
        rw [hu] at h2
        cases dsc <;> dsimp only at h2 <;> try cases h2
        exact ⟨_, rfl⟩
    · rename_i s n h1 h2
      refine opS_val fun M H0 w0 H loc w a r => ?_
      obtain ⟨v, w', loc', d, st', k1, k2, k3, k4⟩ := appendZ_sound (ty := o.type) h1 h r (r.ev x') (r.ev y')
      refine ⟨v, w', H, loc', d, st', ?_, k2, k3, k4⟩
      obtain ⟨cs, hcs⟩ := exec_builtin1 (P := P) (a := a) (w := w) ho
      rw [hcs]
      simp only [builtin, List.map_toArray, List.map_cons, List.map_nil, Sem.run_bind, k1, Result.andThen_ok, Sem.run_pure]
    · exact h.elim
  · rename_i t hts hargs
    obtain ⟨y, hy⟩ : ∃ y, args = #[y] := by
      have : args.toList.length = 1 := by have := congrArg List.length hargs; simpa using this
      match h2 : args.toList, this with
      | [y], _ => exact ⟨y, by apply Array.ext'; rw [h2]⟩
    subst hy
    obtain rfl : ts = #[t] := by apply Array.ext'; rw [hts]
    simp at hargs
    split at h
    · rename_i e hu
      refine opS_pure _ h fun M H0 w0 H loc w a r => ?_
      have hv := r.ev y
      rw [hargs] at hv
      generalize hvy : a.eval y = vy at hv
      cases hv
      refine ⟨.int .i64 0, ?_, .p _ _ (.lit _)⟩
      obtain ⟨cs, hcs⟩ := exec_builtin1 (P := P) (a := a) (w := w) ho
      rw [hcs]
      simp [builtin, hvy, Builtin.cap_, run_underlying hu, goInt]
    · exact h.elim
  · rename_i k x k' y hargs
    obtain ⟨x', y', hy⟩ : ∃ x' y', args = #[x', y'] := by
      have : args.toList.length = 2 := by have := congrArg List.length hargs; simpa using this
      match h2 : args.toList, this with
      | [x', y'], _ => exact ⟨x', y', by apply Array.ext'; rw [h2]⟩
    subst hy
    simp at hargs
    refine opS_pure _ h fun M H0 w0 H loc w a r => ?_
    have h1 := r.ev x'
    have h2 := r.ev y'
    rw [hargs.1] at h1
    rw [hargs.2] at h2
    refine ⟨_, ?_, .p _ _ (.lit _)⟩
    obtain ⟨cs, hcs⟩ := exec_builtin1 (P := P) (a := a) (w := w) ho
    rw [hcs]
    simp only [builtin, List.map_toArray, List.map_cons, List.map_nil, h1.lit_inv, h2.lit_inv, Builtin.min_, List.foldlM_cons, List.foldlM_nil, Builtin.min2, pure_bind, Sem.run_bind, Sem.run_pure, Result.andThen_ok]
  · rename_i k x k' y hargs
    obtain ⟨x', y', hy⟩ : ∃ x' y', args = #[x', y'] := by
      have : args.toList.length = 2 := by have := congrArg List.length hargs; simpa using this
      match h2 : args.toList, this with
      | [x', y'], _ => exact ⟨x', y', by apply Array.ext'; rw [h2]⟩
    subst hy
    simp at hargs
    refine opS_pure _ h fun M H0 w0 H loc w a r => ?_
    have h1 := r.ev x'
    have h2 := r.ev y'
    rw [hargs.1] at h1
    rw [hargs.2] at h2
    refine ⟨_, ?_, .p _ _ (.lit _)⟩
    obtain ⟨cs, hcs⟩ := exec_builtin1 (P := P) (a := a) (w := w) ho
    rw [hcs]
    simp only [builtin, List.map_toArray, List.map_cons, List.map_nil, h1.lit_inv, h2.lit_inv, Builtin.max_, List.foldlM_cons, List.foldlM_nil, Builtin.max2, pure_bind, Sem.run_bind, Sem.run_pure, Result.andThen_ok]
  · rename_i t x hts hargs
    obtain ⟨x', hy⟩ : ∃ x', args = #[x'] := by
      have : args.toList.length = 1 := by have := congrArg List.length hargs; simpa using this
      match h2 : args.toList, this with
      | [x'], _ => exact ⟨x', by apply Array.ext'; rw [h2]⟩
    subst hy
    obtain rfl : ts = #[t] := by apply Array.ext'; rw [hts]
    simp at hargs
    subst hargs
    refine opS_val fun M H0 w0 H loc w a r => ?_
    obtain ⟨w', st', k1, k2, k3⟩ := clear_sound (ty := o.type) h r (r.ev x')
    refine ⟨.tuple #[], w', H, loc, _, st', ?_, k2, .tup _ _ rfl (fun i v d g1 g2 => by simp at g2), k3⟩
    obtain ⟨cs, hcs⟩ := exec_builtin1 (P := P) (a := a) (w := w) ho
    rw [hcs]
    simp only [builtin, List.map_toArray, List.map_cons, List.map_nil, Sem.run_bind, k1, Result.andThen_ok, Sem.run_pure]
  · rename_i t tx x y hts hargs
    obtain ⟨x', y', hy⟩ : ∃ x' y', args = #[x', y'] := by
      have : args.toList.length = 2 := by have := congrArg List.length hargs; simpa using this
      match h2 : args.toList, this with
      | [x', y'], _ => exact ⟨x', y', by apply Array.ext'; rw [h2]⟩
    subst hy
    obtain rfl : ts = #[t, tx] := by apply Array.ext'; rw [hts]
    simp at hargs
    obtain ⟨rfl, rfl⟩ := hargs
    refine opS_val fun M H0 w0 H loc w a r => ?_
    obtain ⟨n, w', st', k1, k2, k3⟩ := copy_sound (ty := o.type) h r (r.ev x') (r.ev y')
    refine ⟨_, w', H, loc, _, st', ?_, k2, .p _ _ (.lit _), k3⟩
    obtain ⟨cs, hcs⟩ := exec_builtin1 (P := P) (a := a) (w := w) ho
    rw [hcs]
    simp only [builtin, List.map_toArray, List.map_cons, List.map_nil, Sem.run_bind, k1, Result.andThen_ok, Sem.run_pure]
  · rename_i k x l hnot hargs
    refine opS_val fun M H0 w0 H loc w a r => ?_
    have hev : ∃ vs, args.toList.map a.eval = .int k x :: vs ∧ vs.length = l.length ∧ ∀ (i : Nat) v d, vs[i]? = some v → l[i]? = some d → V H loc st.ob v d := by
      match h2 : args.toList, hargs with
      | x' :: xs, hargs =>
        simp only [List.map_cons, List.cons.injEq] at hargs
        obtain ⟨e1, rfl⟩ := hargs
        have h1 := r.ev x'
        rw [e1] at h1
        refine ⟨xs.map a.eval, by rw [List.map_cons, h1.lit_inv], by simp, fun i v d g1 g2 => ?_⟩
        rw [List.getElem?_map] at g1 g2
        cases hx : xs[i]? with
        | none => rw [hx] at g1; cases g1
        | some o => rw [hx] at g1 g2; cases g1; cases g2; exact r.ev o
    obtain ⟨vs, e1, e2, e3⟩ := hev
    obtain ⟨n, k1, k2⟩ := mostD_min (P := P) (w := w) h e2 e3
    refine ⟨_, w, H, loc, _, st, ?_, k2, .p _ _ (.lit _), r⟩
    obtain ⟨cs, hcs⟩ := exec_builtin1 (P := P) (a := a) (w := w) ho
    rw [hcs]
    have e4 : (args.map a.eval).toList = .int k x :: vs := by rw [Array.toList_map]; exact e1
    simp only [builtin, Builtin.min_, e4, Sem.run_bind, k1, Result.andThen_ok, Sem.run_pure]
  · rename_i k x l hnot hargs
    refine opS_val fun M H0 w0 H loc w a r => ?_
    have hev : ∃ vs, args.toList.map a.eval = .int k x :: vs ∧ vs.length = l.length ∧ ∀ (i : Nat) v d, vs[i]? = some v → l[i]? = some d → V H loc st.ob v d := by
      match h2 : args.toList, hargs with
      | x' :: xs, hargs =>
        simp only [List.map_cons, List.cons.injEq] at hargs
        obtain ⟨e1, rfl⟩ := hargs
        have h1 := r.ev x'
        rw [e1] at h1
        refine ⟨xs.map a.eval, by rw [List.map_cons, h1.lit_inv], by simp, fun i v d g1 g2 => ?_⟩
        rw [List.getElem?_map] at g1 g2
        cases hx : xs[i]? with
        | none => rw [hx] at g1; cases g1
        | some o => rw [hx] at g1 g2; cases g1; cases g2; exact r.ev o
    obtain ⟨vs, e1, e2, e3⟩ := hev
    obtain ⟨n, k1, k2⟩ := mostD_max (P := P) (w := w) h e2 e3
    refine ⟨_, w, H, loc, _, st, ?_, k2, .p _ _ (.lit _), r⟩
    obtain ⟨cs, hcs⟩ := exec_builtin1 (P := P) (a := a) (w := w) ho
    rw [hcs]
    have e4 : (args.map a.eval).toList = .int k x :: vs := by rw [Array.toList_map]; exact e1
    simp only [builtin, Builtin.max_, e4, Sem.run_bind, k1, Result.andThen_ok, Sem.run_pure]
  · exact h.elim

theorem bound_of {x : Option Operand} {b : Option Int} (h : boundD (x.map st.ev) = some b) {M : En} {H0 : HV} {w0 : World} {H : HV} {loc : Nat → Loc} {w : World} {a : Act} (r : Rel M H0 w0 nt H loc w st a) : x.map a.eval = b.map (.int .i64) := by
  cases x with
  | none => cases h; rfl
  | some y =>
    simp only [Option.map_some] at h
    have hv := r.ev y
    cases hd : st.ev y with
    | p z =>
      rw [hd] at h hv
      cases z with
      | lit v =>
        have := hv.lit_inv
        cases v <;> try cases h
        rename_i k n
        cases k <;> cases h
        simp [this]
      | sl => cases h
    | _ => rw [hd] at h; cases h

theorem aop_sound (h : aop P o st K) : OpS P nt o st K := by
  unfold aop at h
  split at h
  · rename_i x ho
    exact opS_pure _ h fun M H0 w0 H loc w a r => ⟨_, by simp only [execOp, ho, Sem.run_pure], r.ev x⟩
  · rename_i x ho
    exact opS_pure _ h fun M H0 w0 H loc w a r => ⟨_, by simp only [execOp, ho, Sem.run_pure], r.ev x⟩
  · rename_i c x y ho
    split at h
    · rename_i t ht
      cases t with
      | true =>
        refine opS_pure _ (h.1 rfl) fun M H0 w0 H loc w a r => ?_
        have hc := r.ev c
        rw [ht] at hc
        exact ⟨_, by simp only [execOp, ho, hc.lit_inv, asBool, pure_bind, if_true, Sem.run_pure], r.ev x⟩
      | false =>
        refine opS_pure _ (h.2 rfl) fun M H0 w0 H loc w a r => ?_
        have hc := r.ev c
        rw [ht] at hc
        exact ⟨_, by simp only [execOp, ho, hc.lit_inv, asBool, pure_bind, Bool.false_eq_true, if_false, Sem.run_pure], r.ev y⟩
    · exact h.elim
  · rename_i x i ho
    split at h
    · rename_i ds hx
      split at h
      · rename_i d hd
        exact opS_extract ho hx hd h
      · exact h.elim
    · exact h.elim
  · rename_i op t x y yt ho
    refine opS_val fun M H0 w0 H loc w a r => ?_
    obtain ⟨v, d, h1, h2, h3⟩ := abinAll_sound h (r.ev x) (r.ev y) w
    have hp := abinAll_guard h (r.ev x) (r.ev y) w x y
    exact ⟨v, w, H, loc, d, st, by simp only [execOp, ho, Sem.run_bind, hp, h1, Result.andThen_ok, Sem.run_pure], h2, h3, r⟩
  · rename_i op t x ho
    refine opS_val fun M H0 w0 H loc w a r => ?_
    obtain ⟨v, d, h1, h2, h3⟩ := aunAll_sound (P := P) h (r.ev x) w
    exact ⟨v, w, H, loc, d, st, by simp only [execOp, ho, Sem.run_bind, h1, Result.andThen_ok, Sem.run_pure], h2, h3, r⟩
  · rename_i s x f ho
    split at h
    · rename_i off hf
      split at h
      · rename_i d hd
        refine opS_pure _ h.2 fun M H0 w0 H loc w a r => ?_
        obtain ⟨u, h1, h2⟩ := field_of hf (r.ev x) hd (live_of h.1)
        exact ⟨u, by simp only [execOp, ho, Sem.run_bind, h1 w, Result.andThen_ok, Sem.run_pure], h2⟩
      · exact h.elim
    · exact h.elim
  · rename_i t x ix ho
    split at h
    · rename_i k i hix
      split at h
      · rename_i n m ht
        obtain ⟨h0, h1, hl, h⟩ := h
        split at h
        · rename_i d hd
          refine opS_pure _ h fun M H0 w0 H loc w a r => ?_
          have hi := r.ev ix
          rw [hix] at hi
          obtain ⟨u, h2, h3⟩ := index_array_of (k := k) ht (r.ev x) h0 h1 hd (live_of hl)
          exact ⟨u, by simp only [execOp, ho, hi.lit_inv, Sem.run_bind, h2, Result.andThen_ok, Sem.run_pure], h3⟩
        · exact h.elim
      · split at h
        · rename_i s m ht
          refine opS_val fun M H0 w0 H loc w a r => ?_
          have hi := r.ev ix
          rw [hix] at hi
          obtain ⟨u, d, h2, h3, h4⟩ := index_of (k := k) ht (r.ev x) h
          exact ⟨u, w, H, loc, d, st, by simp only [execOp, ho, hi.lit_inv, Sem.run_bind, h2 w, Result.andThen_ok, Sem.run_pure], h4, h3, r⟩
        · exact h.elim
    · exact h.elim
  · rename_i t x ho
    split at h
    · rename_i g n cs ht hc
      split at h
      · rename_i d hd
        refine opS_pure _ h fun M H0 w0 H loc w a r => ?_
        obtain ⟨u, h1, h2⟩ := load_of r.sr (r.ev x) hc ht hd
        exact ⟨u, by simp only [execOp, ho, Sem.run_bind, h1, Result.andThen_ok, Sem.run_pure], h2⟩
      · exact h.elim
    · exact h.elim
  · rename_i t x y ho
    split at h
    · rename_i g n ht
      cases h with
      | mk h => exact opS_store ho ht h
      | away ids hd hp h =>
        intro M H0 w0 w a hi
        exact opS_store ho ht h M H0 w0 w a (hi.away hd hp)
    · exact h.elim
  · rename_i e x ho
    exact opS_box ho (okAll_mem h.1) h.2
  · rename_i t x ix ok ho
    refine opS_val fun M H0 w0 H loc w a r => ?_
    obtain ⟨v, d, h1, h2, h3⟩ := lookup_sound h r (r.ev x) (r.ev ix)
    exact ⟨v, w, H, loc, d, st, by simp only [execOp, ho, Sem.run_bind, h1, Result.andThen_ok, Sem.run_pure], h2, h3, r⟩
  · rename_i t m k x ho
    refine opS_skip fun M H0 w0 H loc w a r => ?_
    obtain ⟨w', st', h1, h2, h3⟩ := update_sound h r (r.ev m) (r.ev k) (r.ev x)
    exact ⟨w', H, loc, st', by simp only [execOp, ho, Sem.run_bind, h1, Result.andThen_ok, Sem.run_pure], h2, h3⟩
  · rename_i t m k x ho
    refine opS_skip fun M H0 w0 H loc w a r => ?_
    obtain ⟨w', st', h1, h2, h3⟩ := update_sound h r (r.ev m) (r.ev k) (r.ev x)
    exact ⟨w', H, loc, st', by simp only [execOp, ho, Sem.run_bind, h1, Result.andThen_ok, Sem.run_pure], h2, h3⟩
  · rename_i t ho
    refine opS_val fun M H0 w0 H loc w a r => ?_
    obtain ⟨loc', h1, h2⟩ := r.newMap
    exact ⟨_, _, H, loc', _, _, by simp only [execOp, ho, Option.map_none, Sem.run_bind, run_newmap, Result.andThen_ok, Sem.run_pure], h, h2, h1⟩
  · rename_i e ho
    split at h
    · rename_i cs hz
      exact opS_alloc ho hz h.1 h.2
    · exact h.elim
  · rename_i t parts ho
    split at h
    · rename_i pl z hp hz
      obtain ⟨hok, h⟩ := h
      split at h
      · rename_i d hf
        exact opS_build ho hp hz (okParts_mem hok) hf h
      · exact h.elim
    · exact h.elim
  · rename_i t len parts ho
    split at h
    · rename_i s hs
      obtain ⟨hok, hsm, h⟩ := h
      split at h
      · rename_i xs hf
        exact opS_buildSlice ho hs (okParts_mem hok) hf h.1 hsm h.2
      · exact h.elim
    · exact h.elim
  · rename_i f first caps ho
    obtain ⟨rfl, h⟩ := h
    refine opS_pure _ h fun M H0 w0 H loc w a r => ⟨.func (.func f) #[] (caps.map a.eval), ?_, .fn f _ _ (by simp) fun i v d h1 h2 => ?_⟩
    · simp only [execOp, ho, Instr.makeFunc, Sem.run_bind, Sem.run_pure, Result.andThen_ok, List.map_toArray, List.map_nil]
    · simp only [Array.getElem?_map, List.getElem?_map, Array.getElem?_toList] at h1 h2
      cases hx : caps[i]? with
      | none => rw [hx] at h1; cases h1
      | some x => rw [hx] at h1 h2; cases h1; cases h2; exact r.ev x
  · rename_i t x lo hi mx ho
    split at h
    · rename_i s nb l hh m ht hl hhi hm
      obtain ⟨hrow, h⟩ := h
      refine opS_val fun M H0 w0 H loc w a r => ?_
      have hnot : ∀ n e, P.underlying t ≠ some (.array n e) := fun n e hu => by
        unfold elO at ht; rw [hu] at ht; cases ht
      obtain ⟨u, d, h1, h2, h3⟩ := part_of (w := w) ht (r.ev x) h (fun id off len s' xs e hob => by
          rw [e] at hrow; simp only [hob] at hrow; exact hrow) (fun xs e => by rw [e] at hrow; exact hrow)
      refine ⟨u, w, H, loc, d, st, ?_, h3, h2, r⟩
      simp only [execOp, ho, bound_of hl r, bound_of hhi r, bound_of hm r, Sem.run_bind, h1, Result.andThen_ok, Sem.run_pure]
    · rename_i l ht hl hhi hm
      split at h
      · rename_i s hu hx
        obtain ⟨h0, h1, h⟩ := h
        refine opS_pure _ h fun M H0 w0 H loc w a r => ?_
        have hv := r.ev x
        rw [hx] at hv
        refine ⟨.string (s.extract l.toNat s.size), ?_, .p _ _ (.lit _)⟩
        have hrun : (Instr.slice t (.string s) (some (.int .i64 l)) none none).run P w = .ok (.string (s.extract l.toNat s.size)) w := by
          have hc : 0 ≤ l ∧ l ≤ (s.size : Int) := ⟨h0, h1⟩
          simp [Instr.slice, Instr.sliceBounds, Instr.sliceBound, asIntOf, run_underlying hu, hc]
        simp only [execOp, ho, bound_of hl r, bound_of hhi r, bound_of hm r, hv.lit_inv, Option.map_some, Option.map_none, Instr.sliceAt, Sem.run_bind, run_underlying hu, hrun, Result.andThen_ok, Sem.run_pure]
      · exact h.elim
    · exact h.elim
  · rename_i src dst x ho
    split at h
    · rename_i k0 k k1 n hs hd hx
      refine opS_pure _ h fun M H0 w0 H loc w a r => ?_
      have hv := r.ev x
      rw [hx] at hv
      refine ⟨.int k (k.wrap n), ?_, .p _ _ (.lit _)⟩
      simp only [execOp, ho, hv.lit_inv, convert, Sem.run_bind, run_underlying hs, run_underlying hd, Result.andThen_ok, Conv.intToInt, Sem.run_pure]
    · rename_i d e hs hd
      obtain ⟨he, h⟩ := h
      split at h
      · rename_i ns hns
        refine opS_pure _ h fun M H0 w0 H loc w a r => ?_
        refine ⟨.string (pushB ns), ?_, .p _ _ (.lit _)⟩
        simp only [execOp, ho, Sem.run_bind, convert_bytes r.sr hs hd he (r.ev x) hns, Result.andThen_ok, Sem.run_pure]
      · exact h.elim
    · exact h.elim
  · rename_i t x ix ho
    split at h
    · rename_i n e cs k i hu hx hix
      split at h
      · rename_i m hte
        obtain ⟨h0, h1, h⟩ := h
        split at h
        · rename_i d hd
          refine opS_pure _ h fun M H0 w0 H loc w a r => ?_
          have hv := r.ev x
          have hi := r.ev ix
          rw [hx] at hv
          rw [hix] at hi
          generalize hvx : a.eval x = vx at hv
          cases hv with
          | agg vs _ hn hc =>
            have hlt : i.toNat * m < vs.size := by
              rcases Nat.lt_or_ge (i.toNat * m) cs.length with h' | h'
              · omega
              · simp [List.getElem?_eq_none h'] at hd
            refine ⟨vs[i.toNat * m], ?_, hc _ _ d (Array.getElem?_eq_getElem hlt) hd⟩
            simp only [execOp, ho, hvx, hi.lit_inv, Instr.index, asIntOf, pure_bind, Sem.run_bind, run_underlying hu, Result.andThen_ok, h0, h1, and_self, if_true, (run_isAgg_of hte w).1, (run_isAgg_of hte w).2, part, Bool.false_eq_true, if_false, Array.getElem?_eq_getElem hlt, Sem.run_pure]
        · exact h.elim
      · exact h.elim
    · rename_i s k i hu hx hix
      obtain ⟨h0, h⟩ := h
      split at h
      · rename_i b hb
        refine opS_pure _ h fun M H0 w0 H loc w a r => ?_
        have hv := r.ev x
        have hi := r.ev ix
        rw [hx] at hv
        rw [hix] at hi
        refine ⟨.int .u8 b.toNat, ?_, .p _ _ (.lit _)⟩
        simp only [execOp, ho, hv.lit_inv, hi.lit_inv, Instr.index, asIntOf, pure_bind, Sem.run_bind, run_underlying hu, Result.andThen_ok, h0, if_true, hb, Sem.run_pure]
      · exact h.elim
    · exact h.elim
  · rename_i x ho
    split at h
    · rename_i id i j hx
      refine opS_pure _ h.2 fun M H0 w0 H loc w a r => ?_
      have hv := r.ev x
      rw [hx] at hv
      generalize hvx : a.eval x = vx at hv
      refine ⟨vx, ?_, hv⟩
      cases hv with
      | ptr => simp only [execOp, ho, hvx, Sem.run_pure]
      | ptrBox => simp only [execOp, ho, hvx, Sem.run_pure]
      | ptrGone _ _ _ _ hob => exact absurd (liveAt_of h.1) (fun ⟨o, h1, h2⟩ => by rw [hob] at h1; cases h1; cases h2)
    · rename_i y j hx
      refine opS_pure _ h fun M H0 w0 H loc w a r => ?_
      have hv := r.ev x
      rw [hx] at hv
      generalize hvx : a.eval x = vx at hv
      refine ⟨vx, ?_, hv⟩
      cases hv with
      | rd => simp only [execOp, ho, hvx, Sem.run_pure]
    · exact h.elim
  · rename_i c ho
    obtain ⟨callee, args, ts⟩ := c
    split at h
    · rename_i x hc
      dsimp only at hc h
      subst hc
      exact opS_ac ho h
    · rename_i b hc
      dsimp only at hc h
      subst hc
      exact abuiltin_sound ho h
    · exact h.elim
  · exact h.elim

end

/-- A region: its operations one by one, then what is known of some temporaries. -/
theorem awp_reg {P : Program} {nt : Nat} {id : Nat} {l : List Oper} {Q : Exit → St → Prop} {st : St} (ts : List Nat) (h : alist (aop P) nt l.toArray l st fun st' => Q .normal (st'.keep ts)) :
    AWp P nt (.region id l.toArray false) Q st := by
  intro M H0 w0 w a hi
  refine wp_region_lit ?_
  have := alist_sound (P := P) (fun o st K h => aop_sound h) l st _ h M H0 w0 w a hi
  revert this
  generalize l.toArray = ops
  intro this
  exact wpList_mono (fun e a w ⟨he, s, q, i⟩ => ⟨s.keep ts, by subst he; exact q, i.keep ts⟩) this

end Go.Ab
