/- Texts of this proof, joined: AbM, AbZ, Ab16, T, Ab17, Ab18, Ab19, Ab20, Ab21, Ab22, Ab23, Ab24, OJ, Ab25, Ab26, Ab27, Ab28, AbI, AbJ, Y4, H1. -/
import Derived.Test.YtagphggcdmjlpaaKHeapOwn1
import Derived.MapKept
import Derived.Lib.AppendZeros
import Derived.Laws.Small
import Derived.Laws.BytesString
import Derived.Laws.BytesArg
import Derived.Laws.StructEq
import Derived.Lib.SliceRun
import Derived.Test.YtagphggcdmjlpaaProg
import Derived.KernelRfl
import Derived.Below
import Derived.OrdersHeld
import Derived.ChangeArms
import Derived.ChangeShapes
import Derived.Carry
import Derived.SizedLaws
import Derived.OpenShut
import Derived.WideShapes
import Derived.Shelf.Spec.SlicesInsertGrow
set_option linter.unusedSimpArgs false
set_option linter.unusedVariables false
set_option maxHeartbeats 1000000
/- Maps with whole numbers as keys. No program is named here. -/
namespace Go.Ab

/-- What a map has at a number. -/
def mget : List (Value × PV) → Int → Option PV
  | [], _ => none
  | (.int _ m, x) :: l, n => if m = n then some x else mget l n
  | _ :: l, n => mget l n

/-- A map, written to at a number. -/
def mset (k : IntKind) (n : Int) (y : PV) : List (Value × PV) → List (Value × PV)
  | [] => [(.int k n, y)]
  | (.int k' m, x) :: l => if m = n then (.int k' m, y) :: l else (.int k' m, x) :: mset k n y l
  | e :: l => e :: mset k n y l

/-- All keys are whole numbers of a kind. -/
def intKeys (k : IntKind) (es : List (Value × PV)) : Prop := ∀ e, e ∈ es → ∃ n, e.1 = .int k n

theorem intKeys_nil (k : IntKind) : intKeys k [] := fun e he => by cases he

theorem intKeys_cons {k : IntKind} {e : Value × PV} {l : List (Value × PV)} (h : intKeys k (e :: l)) : (∃ n x, e = (.int k n, x)) ∧ intKeys k l := by
  obtain ⟨n, hn⟩ := h e List.mem_cons_self
  exact ⟨⟨n, e.2, by rw [← hn]⟩, fun x hx => h x (List.mem_cons_of_mem _ hx)⟩

theorem intKeys_mset {k : IntKind} {n : Int} {y : PV} : ∀ {l : List (Value × PV)}, intKeys k l → intKeys k (mset k n y l)
  | [], _ => fun e he => by simp [mset] at he; subst he; exact ⟨n, rfl⟩
  | e :: l, h => by
    obtain ⟨⟨m, x, rfl⟩, hl⟩ := intKeys_cons h
    unfold mset
    split
    · intro e he
      rcases List.mem_cons.1 he with rfl | he
      · exact ⟨m, rfl⟩
      · exact hl e he
    · intro e he
      rcases List.mem_cons.1 he with rfl | he
      · exact ⟨m, rfl⟩
      · exact intKeys_mset hl e he

theorem mget_mset {k : IntKind} {n : Int} {y : PV} : ∀ {l : List (Value × PV)}, intKeys k l → ∀ j, mget (mset k n y l) j = if n = j then some y else mget l j
  | [], _, j => by simp [mset, mget]
  | e :: l, h, j => by
    obtain ⟨⟨m, x, rfl⟩, hl⟩ := intKeys_cons h
    by_cases hm : m = n
    · subst hm
      simp only [mset, if_true, mget]
      split <;> rfl
    · simp only [mset, if_neg hm, mget, mget_mset hl j]
      by_cases hj : m = j
      · subst hj; rw [if_pos rfl, if_neg (fun e => hm e.symm), if_pos rfl]
      · rw [if_neg hj, if_neg hj]

/-- Entries are as they are known. -/
def MRel (H : HV) : List MapEntry → List (Value × PV) → Prop
  | [], [] => True
  | e :: l, (k, x) :: l' => e.key = k ∧ e.val.oneCell' = true ∧ PVr H e.val x ∧ MRel H l l'
  | _, _ => False

theorem MRel.of {H : HV} : ∀ {l : List MapEntry} {l' : List (Value × PV)}, l.length = l'.length → (∀ (i : Nat) k x, l'[i]? = some (k, x) → ∃ e : MapEntry, l[i]? = some e ∧ e.key = k ∧ e.val.oneCell' = true ∧ PVr H e.val x) → MRel H l l'
  | [], [], _, _ => trivial
  | e :: l, (k, x) :: l', hn, h => by
    obtain ⟨e', h1, h2, h3, h4⟩ := h 0 k x rfl
    cases h1
    exact ⟨h2, h3, h4, MRel.of (by simpa using hn) fun i k x hi => by simpa using h (i + 1) k x (by simpa using hi)⟩
  | [], _ :: _, hn, _ => by simp at hn
  | _ :: _, [], hn, _ => by simp at hn

theorem MRel.to {H : HV} : ∀ {l : List MapEntry} {l' : List (Value × PV)}, MRel H l l' → l.length = l'.length ∧ ∀ (i : Nat) k x, l'[i]? = some (k, x) → ∃ e : MapEntry, l[i]? = some e ∧ e.key = k ∧ e.val.oneCell' = true ∧ PVr H e.val x
  | [], [], _ => ⟨rfl, fun i k x h => by simp at h⟩
  | e :: l, (k, x) :: l', h => by
    obtain ⟨h1, h2, h3, h4⟩ := h
    obtain ⟨g1, g2⟩ := MRel.to h4
    refine ⟨by simp [g1], fun i k' x' hi => ?_⟩
    cases i with
    | zero => simp at hi; obtain ⟨rfl, rfl⟩ := hi; exact ⟨e, rfl, h1, h2, h3⟩
    | succ i => simpa using g2 i k' x' (by simpa using hi)
  | [], _ :: _, h => h.elim
  | _ :: _, [], h => h.elim

theorem MRel.set {H : HV} {v : Value} {y : PV} {key : Value} (h1 : v.oneCell' = true) (h2 : PVr H v y) : ∀ {l : List MapEntry} {l' : List (Value × PV)} {j : Nat} {k : Value} {x : PV}, MRel H l l' → l'[j]? = some (k, x) → key = k →
    MRel H (l.modify j fun e => { e with key := key, val := v }) (l'.set j (k, y))
  | e :: l, (k0, x0) :: l', j, k, x, h, hj, hk => by
    obtain ⟨a1, a2, a3, a4⟩ := h
    cases j with
    | zero =>
      simp at hj
      obtain ⟨rfl, rfl⟩ := hj
      exact ⟨hk, h1, h2, a4⟩
    | succ j => exact ⟨a1, a2, a3, MRel.set h1 h2 a4 (by simpa using hj) hk⟩
  | [], [], j, k, x, _, hj, _ => by simp at hj

theorem MRel.push {H : HV} {e : MapEntry} {k : Value} {y : PV} (h0 : e.key = k) (h1 : e.val.oneCell' = true) (h2 : PVr H e.val y) : ∀ {l : List MapEntry} {l' : List (Value × PV)}, MRel H l l' → MRel H (l ++ [e]) (l' ++ [(k, y)])
  | [], [], _ => ⟨h0, h1, h2, trivial⟩
  | _ :: _, (_, _) :: _, h => ⟨h.1, h.2.1, h.2.2.1, MRel.push h0 h1 h2 h.2.2.2⟩

/-- The search for a key. -/
theorem find_spec {H : HV} {k : IntKind} {n : Int} : ∀ {l : List MapEntry} {l' : List (Value × PV)} (i : Nat), MRel H l l' → intKeys k l' →
    (Instr.findNow (.int k) (.int k n) l i = some none ∧ mget l' n = none ∧ ∀ y, mset k n y l' = l' ++ [(.int k n, y)]) ∨
    ∃ j e x, Instr.findNow (.int k) (.int k n) l i = some (some (i + j, e.val)) ∧ l[j]? = some e ∧ e.key = .int k n ∧ l'[j]? = some (.int k n, x) ∧ mget l' n = some x ∧ PVr H e.val x ∧ ∀ y, mset k n y l' = l'.set j (.int k n, y)
  | [], [], i, _, _ => .inl ⟨rfl, rfl, fun y => rfl⟩
  | e :: l, (k0, x0) :: l', i, h, hk => by
    obtain ⟨a1, a2, a3, a4⟩ := h
    obtain ⟨⟨m, x, he⟩, hk'⟩ := intKeys_cons hk
    cases he
    have hsame : Instr.sameNow (.int k) (.int k n) e.key = some (n == m) := by rw [a1]; simp [Instr.sameNow]
    by_cases hm : m = n
    · subst hm
      refine .inr ⟨0, e, x0, by simp [Instr.findNow, hsame], rfl, a1, rfl, by simp [mget], a3, fun y => by simp [mset]⟩
    · have hne : (n == m) = false := by simpa using fun e => hm e.symm
      rcases find_spec (n := n) (i + 1) a4 hk' with ⟨g1, g2, g3⟩ | ⟨j, e', x', g1, g2, g3, g4, g5, g6, g7⟩
      · exact .inl ⟨by simp [Instr.findNow, hsame, hne, g1], by simp [mget, hm, g2], fun y => by simp [mset, hm, g3]⟩
      · exact .inr ⟨j + 1, e', x', by simp [Instr.findNow, hsame, hne, g1]; omega, by simpa using g2, g3, by simpa using g4, by simp [mget, hm, g5], g6, fun y => by simp [mset, hm, g7]⟩
  | [], _ :: _, _, h, _ => h.elim
  | _ :: _, [], _, h, _ => h.elim

section
variable {P : Program} {M : En} {H0 : HV} {w0 : World} {nt : Nat} {H : HV} {loc : Nat → Loc} {w : World} {st : St} {a : Act}

theorem Born.push {arr : Array MapEntry} {c : Nat} (h : Born arr c) {e : MapEntry} (he : e.born = c) : Born (arr.push e) (c + 1) := by
  refine ⟨fun x hx => ?_, ?_⟩
  · rw [Array.toList_push, List.mem_append] at hx
    rcases hx with hx | hx
    · have := h.1 x hx; omega
    · rcases List.mem_singleton.1 hx with rfl; omega
  · rw [Array.toList_push, List.map_append, List.nodup_append]
    refine ⟨h.2, by simp, fun a ha b hb => ?_⟩
    rcases List.mem_singleton.1 hb with rfl
    obtain ⟨x, hx, rfl⟩ := List.mem_map.1 ha
    have := h.1 x hx
    intro e2
    dsimp only at e2
    omega

theorem Born.modify {arr : Array MapEntry} {c : Nat} (h : Born arr c) (j : Nat) {f : MapEntry → MapEntry} (hf : ∀ e, (f e).born = e.born) : Born (arr.modify j f) c := by
  have e : (arr.modify j f).toList.map (·.born) = arr.toList.map (·.born) := by
    rw [Array.toList_modify]
    apply List.ext_getElem?
    intro i
    rw [List.getElem?_map, List.getElem?_map, List.getElem?_modify]
    cases arr.toList[i]? with
    | none => simp
    | some x => by_cases hj : j = i <;> simp [hj, hf]
  refine ⟨fun x hx => ?_, by rw [e]; exact h.2⟩
  have : x.born ∈ arr.toList.map (·.born) := by rw [← e]; exact List.mem_map.2 ⟨x, hx, rfl⟩
  obtain ⟨y, hy, e2⟩ := List.mem_map.1 this
  rw [← e2]; exact h.1 y hy

/-- A map that is there. -/
theorem Rel.map_at (r : Rel M H0 w0 nt H loc w st a) {id : Nat} {es : List (Value × PV)} (ho : st.ob[id]? = some (.map es)) : (loc id).r = true ∧ ∃ arr clock, w.heap[(loc id).b]? = some (.map arr clock) ∧ MRel H arr.toList es ∧ Born arr clock := by
  obtain ⟨hr, arr, clock, h1, ⟨h2, hb⟩, h3⟩ := r.sr.obj id _ ho
  exact ⟨hr, arr, clock, h1, MRel.of (by simpa using h2) (fun i k x hi => by
    obtain ⟨e, g1, g2⟩ := h3 i k x hi
    exact ⟨e, by simpa using g1, g2⟩), hb⟩

/-- A type's zero value. -/
def zvO (P : Program) (t : TypeId) : Option Value := (P.info? t).bind fun i => i.zero

/-- 'm[k]'. -/
def lookupD (P : Program) (t : TypeId) (st : St) (x ix : D) (ok : Bool) (K : D → St → Prop) : Prop :=
  match x, ix, P.underlying t with
  | .mp id, .p (.lit (.int k n)), some (.map kt et) =>
    (match st.ob[id]?, zvO P et with
     | some (.map es), some z => P.underlying kt = some (.int k) ∧ intKeys k es ∧
       (match mget es n with
        | some y => K (if ok then .tup [.p y, bD true] else .p y) st
        | none => K (if ok then .tup [constD z, bD false] else constD z) st)
     | _, _ => False)
  | _, _, _ => False

theorem zv_run {et : TypeId} {v : Value} (hz : zvO P et = some v) (w : World) : (zeroValue et).run P w = .ok v w := by
  unfold zvO at hz
  cases hi : P.info? et with
  | none => rw [hi] at hz; cases hz
  | some i =>
    rw [hi] at hz
    simp only [Option.bind_some] at hz
    simp [zeroValue, typeInfo, hi, hz]

theorem lookup_sound {t : TypeId} {x ix : D} {ok : Bool} {K : D → St → Prop} (h : lookupD P t st x ix ok K) (r : Rel M H0 w0 nt H loc w st a) {vx vi : Value} (hv : V H loc st.ob vx x) (hi : V H loc st.ob vi ix) :
    ∃ v d, (Instr.lookup t vx vi ok).run P w = .ok v w ∧ K d st ∧ V H loc st.ob v d := by
  unfold lookupD at h
  split at h
  · rename_i id k n kt et hu
    split at h
    · rename_i es z hob hz
      obtain ⟨hk, hks, h⟩ := h
      have := hi.lit_inv; subst this
      cases hv with
      | mpGone _ _ ho' => rw [hob] at ho'; cases ho'
      | mp _ es' ho' =>
        rw [hob] at ho'; cases ho'
        obtain ⟨hr, arr, clock, hw, hm, hbn⟩ := r.map_at hob
        have hkey : MapKept.IsKey (.int k) (.int k n) := rfl
        rcases find_spec (n := n) 0 hm hks with ⟨g1, g2, _⟩ | ⟨j, e, y, g1, g2, g3, g4, g5, g6, _⟩
        · rw [g2] at h
          have hz1 := zv_run hz w
          have hz2 : V H loc st.ob z (constD z) := .constD z
          have e1 := MapKept.run_findKey (w := w) hk g1
          have e2 := MapKept.run_checkKey (P := P) (w := w) hk hkey arr.isEmpty 9999
          refine ⟨if ok then .tuple #[z, .bool false] else z, _, ?_, h, ?_⟩
          · simp [Instr.lookup, run_underlying hu, MapKept.run_getObj_map hw, e1, e2, hz1]
          · cases ok
            · exact hz2
            · refine .tup _ _ rfl fun i v d q1 q2 => ?_
              match i, q1, q2 with
              | 0, q1, q2 => simp at q1 q2; subst q1; subst q2; exact hz2
              | 1, q1, q2 => simp at q1 q2; subst q1; subst q2; exact .p _ _ (.lit _)
              | i + 2, q1, q2 => simp at q1
        · rw [g5] at h
          have e1 := MapKept.run_findKey (w := w) hk g1
          have e2 := MapKept.run_checkKey (P := P) (w := w) hk hkey arr.isEmpty 9999
          refine ⟨if ok then .tuple #[e.val, .bool true] else e.val, _, ?_, h, ?_⟩
          · simp [Instr.lookup, run_underlying hu, MapKept.run_getObj_map hw, e1, e2]
          · cases ok
            · exact .p _ _ g6
            · refine .tup _ _ rfl fun i v d q1 q2 => ?_
              match i, q1, q2 with
              | 0, q1, q2 => simp at q1 q2; subst q1; subst q2; exact .p _ _ g6
              | 1, q1, q2 => simp at q1 q2; subst q1; subst q2; exact .p _ _ (.lit _)
              | i + 2, q1, q2 => simp at q1
    · exact h.elim
  · exact h.elim

/-- 'm[k] = v'. -/
def updateD (P : Program) (t : TypeId) (st : St) (x ix y : D) (K : St → Prop) : Prop :=
  match x, ix, y, P.underlying t with
  | .mp id, .p (.lit (.int k n)), .p (.lit u), some (.map kt _) =>
    (match st.ob[id]? with
     | some (.map es) => P.underlying kt = some (.int k) ∧ u.oneCell' = true ∧ intKeys k es ∧ K ⟨st.tm, st.ob.set id (.map (mset k n (.lit u) es)), st.n0⟩
     | _ => False)
  | _, _, _, _ => False

theorem update_sound {t : TypeId} {x ix y : D} {K : St → Prop} (h : updateD P t st x ix y K) (r : Rel M H0 w0 nt H loc w st a) {vx vi vy : Value} (hv : V H loc st.ob vx x) (hi : V H loc st.ob vi ix) (hy : V H loc st.ob vy y) :
    ∃ w' st', (Instr.mapUpdate t vx vi vy).run P w = .ok () w' ∧ K st' ∧ Rel M H0 w0 nt H loc w' st' a := by
  unfold updateD at h
  split at h
  · rename_i id k n u kt et hu
    split at h
    · rename_i es hob
      obtain ⟨hk, h1, hks, hK⟩ := h
      have := hi.lit_inv; subst this
      have := hy.lit_inv; subst this
      cases hv with
      | mpGone _ _ ho' => rw [hob] at ho'; cases ho'
      | mp _ es' ho' =>
        rw [hob] at ho'; cases ho'
        obtain ⟨hr, arr, clock, hw, hm, hbn⟩ := r.map_at hob
        have hkey : MapKept.IsKey (.int k) (.int k n) := rfl
        have e2 := MapKept.run_checkKey (P := P) (w := w) hk hkey false 9999
        have key : ∀ (arr' : Array MapEntry) (clock' : Nat), Born arr' clock' → MRel H arr'.toList (mset k n (.lit vy) es) →
            Rel M H0 w0 nt H loc { w with heap := w.heap.setIfInBounds (loc id).b (.map arr' clock') } ⟨st.tm, st.ob.set id (.map (mset k n (.lit vy) es)), st.n0⟩ a := by
          intro arr' clock' hb' hm'
          obtain ⟨q1, q2⟩ := MapKept.heap_set (o' := .map arr' clock') hw
          refine r.setOb (o' := .map (mset k n (.lit vy) es)) hob rfl hr trivial (fun b hb => q2 b hb) (by simp) rfl rfl rfl ?_
          obtain ⟨l1, l2⟩ := hm'.to
          exact ⟨hr, arr', clock', q1, ⟨by simpa using l1, hb'⟩, fun i k x hi => by
            obtain ⟨e, g1, g2⟩ := l2 i k x hi
            exact ⟨e, by simpa using g1, g2⟩⟩
        rcases find_spec (n := n) 0 hm hks with ⟨g1, g2, g3⟩ | ⟨j, e, x, g1, g2, g3, g4, g5, g6, g7⟩
        · have e1 := MapKept.run_findKey (w := w) hk g1
          refine ⟨_, _, ?_, hK, key (arr.push { key := .int k n, val := vy, born := clock }) (clock + 1) (hbn.push rfl) (by
            rw [g3, Array.toList_push]; exact MRel.push rfl h1 (.lit _) hm)⟩
          simp [Instr.mapUpdate, run_underlying hu, MapKept.run_getObj_map hw, e1, e2, MapKept.run_setObj_map _ hw]
        · have e1 := MapKept.run_findKey (w := w) hk g1
          have hj : arr[j]? = some e := by simpa using g2
          refine ⟨_, _, ?_, hK, key (arr.modify j fun e => { e with key := .int k n, val := vy }) clock (hbn.modify _ (fun _ => rfl)) (by
            rw [g7, Array.toList_modify]; exact MRel.set h1 (.lit _) hm g4 rfl)⟩
          simp [Instr.mapUpdate, run_underlying hu, MapKept.run_getObj_map hw, e1, e2, hj, g3, MapKept.run_keyThatStays hkey, MapKept.run_setObj_map _ hw]
    · exact h.elim
  · exact h.elim

/-- A new map. -/
theorem Rel.newMap (r : Rel M H0 w0 nt H loc w st a) : ∃ loc', Rel M H0 w0 nt H loc' (w.alloc (.map #[] 0)) ⟨st.tm, st.ob ++ [.map []], st.n0⟩ a ∧ V H loc' (st.ob ++ [.map []]) (.map (some w.heap.size)) (.mp st.ob.length) := by
  refine ⟨_, r.push (.map #[] 0) (.map []) 0 0 ⟨rfl, #[], 0, heap_alloc_new w _, ⟨rfl, fun x h => by simp at h, by simp⟩, fun i k x h => by simp at h⟩, ?_⟩
  have hl : locPush loc st.ob.length ⟨w.heap.size, 0, 0, true⟩ st.ob.length = ⟨w.heap.size, 0, 0, true⟩ := if_pos rfl
  have := V.mp (H := H) (loc := locPush loc st.ob.length ⟨w.heap.size, 0, 0, true⟩) (obs := st.ob ++ [.map []]) st.ob.length [] (by simp)
  rw [hl] at this
  exact this

end
end Go.Ab

/- 'append(nil, make(T, n)...)' and 'cap(nil)', over abstract states. No program is named here. -/
namespace Go.Ab

section
variable {P : Program} {M : En} {H0 : HV} {w0 : World} {nt : Nat} {H : HV} {loc : Nat → Loc} {w : World} {st : St} {a : Act}

/-- So many zeros, as a new row. -/
def appendZ (P : Program) (t tx : TypeId) (s n : Nat) (st : St) (x y : D) (K : D → St → Prop) : Prop :=
  match x, y, P.underlying t, P.underlying tx with
  | .nil, .p (.lit (.int _ m)), some (.slice e), some (.int _) =>
    (match zeroO P e with
     | some cs => cs.all cellOk0 = true ∧ cs.length = s ∧ 0 < m ∧ m.toNat * n ≤ 140737488355328 ∧ K (.ref st.ob.length 0 m.toNat) ⟨st.tm, st.ob ++ [.row s (List.replicate m.toNat (cs.map zpv))], st.n0⟩
     | none => False)
  | _, _, _, _ => False

theorem zeroCells_at {z : Array Value} {n i j : Nat} (hi : i < n) (hj : j < z.size) : (Builtin.zeroCells z n)[i * z.size + j]? = z[j]? := by
  have hlt : i * z.size + j < n * z.size := by
    have : (i + 1) * z.size ≤ n * z.size := Nat.mul_le_mul_right _ hi
    rw [Nat.succ_mul] at this; omega
  unfold Builtin.zeroCells
  rw [Array.getElem?_map, Array.getElem?_range, if_pos hlt]
  simp only [Option.map_some]
  rw [Nat.add_comm, Nat.add_mul_mod_self_right, Nat.mod_eq_of_lt hj, getElem!_pos _ j hj, Array.getElem?_eq_getElem hj]

theorem appendZ_sound {t tx ty : TypeId} {s n : Nat} {x y : D} {K : D → St → Prop} (hap : apO P t = some (s, n)) (h : appendZ P t tx s n st x y K) (r : Rel M H0 w0 nt H loc w st a) {vx vy : Value} (hv : V H loc st.ob vx x) (hy : V H loc st.ob vy y) :
    ∃ v w' loc' d st', (Builtin.append_ #[t, tx] ty #[vx, vy]).run P w = .ok v w' ∧ K d st' ∧ V H loc' st'.ob v d ∧ Rel M H0 w0 nt H loc' w' st' a := by
  unfold appendZ at h
  split at h
  · rename_i k m e kx hu hux
    obtain ⟨e', i, z, hu', hi, hz, hzs, his, hib, hs0, hn0⟩ := apO_of hap
    have he : e' = e := by rw [hu] at hu'; cases hu'; rfl
    subst he
    cases hv
    have := hy.lit_inv
    subst this
    split at h
    · rename_i cs hzo
      obtain ⟨hok, hcs, hm, hfit, hK⟩ := h
      obtain ⟨n', rfl⟩ : ∃ n' : Nat, m = n' := ⟨m.toNat, by omega⟩
      rw [Int.toNat_natCast] at hfit hK
      have hn1 : 0 < n' := by omega
      have hcz : cs = z.cells.toList.map constC := by
        unfold zeroO at hzo
        rw [hi] at hzo
        simp only [Option.bind_some, hz, Option.some.injEq] at hzo
        exact hzo.symm
      have h63 : (n' : Int) ≤ 9223372036854775807 := by
        have : n' * 1 ≤ n' * n := Nat.mul_le_mul_left _ (by omega)
        omega
      have hrun := Lib.run_append_nil_zeros w t tx ty e' i z k kx hu hux hi hz n' hn1 (by omega) h63 (by rw [hib]; omega)
      have hge : n' ≤ grownCap w n' 0 e' := by have := grown_ge w n' 0 e' h63; omega
      generalize grownCap w n' 0 e' = g at hrun hge
      have hsz1 : (Builtin.zeroCells z.cells n').size = n' * s := by rw [zeroCells_size, hzs]
      have hsz : (Builtin.zeroCells z.cells n' ++ Builtin.zeroCells z.cells (g - n')).size = g * s := by
        rw [Array.size_append, zeroCells_size, zeroCells_size, hzs, ← Nat.add_mul]
        congr 1; omega
      obtain ⟨loc', r', hv'⟩ := r.drew.newRow e' (c := Builtin.zeroCells z.cells n' ++ Builtin.zeroCells z.cells (g - n')) s (List.replicate n' (cs.map zpv)) g
        (by rw [hsz, List.length_replicate]; exact Nat.mul_le_mul_right s hge) (by rw [hsz]; exact Nat.le_refl _) (by rw [List.length_replicate]; exact hge)
        (fun x hx => by rw [(List.mem_replicate.1 hx).2, List.length_map, hcs])
        (fun i' x hx j y hj => by
          have hil : i' < n' := by
            rcases Nat.lt_or_ge i' n' with h' | h'
            · exact h'
            · rw [List.getElem?_eq_none (by rw [List.length_replicate]; exact h')] at hx; cases hx
          have hxe : x = cs.map zpv := (List.mem_replicate.1 (List.mem_of_getElem? hx)).2
          subst hxe
          rw [List.getElem?_map] at hj
          cases hcj : cs[j]? with
          | none => rw [hcj] at hj; cases hj
          | some c =>
            rw [hcj] at hj; cases hj
            rw [hcz, List.getElem?_map, Array.getElem?_toList] at hcj
            cases hzj : z.cells[j]? with
            | none => rw [hzj] at hcj; cases hcj
            | some u =>
              rw [hzj] at hcj; cases hcj
              have hjl : j < z.cells.size := by
                rcases Nat.lt_or_ge j z.cells.size with h' | h'
                · exact h'
                · simp [Array.getElem?_eq_none h'] at hzj
              have hlt : i' * s + j < n' * s := by
                have : (i' + 1) * s ≤ n' * s := Nat.mul_le_mul_right _ hil
                rw [Nat.succ_mul] at this; omega
              refine ⟨u, ?_, ?_, ?_⟩
              · rw [Array.getElem?_append_left (by rw [hsz1]; exact hlt), ← hzs, zeroCells_at hil hjl, hzj]
              · have := List.all_eq_true.1 hok (constC u) (by rw [hcz]; exact List.mem_map.2 ⟨u, by simpa using Array.mem_of_getElem? hzj, rfl⟩)
                unfold constC at this
                split at this
                · rfl
                · exact this
              · unfold constC
                split
                · exact .none _ _
                · exact .lit _)
      rw [List.length_replicate] at hv'
      exact ⟨_, _, loc', _, _, hrun, hK, hv', r'⟩
    · exact h.elim
  · exact h.elim

end
end Go.Ab

/- One operation over abstract states, whatever it is; regions; and the closing of a function's contract. No program is named here. -/
namespace Go.Ab

/-- Each stands in one cell. -/
def okAll (obs : List Ob) : List D → Prop
  | [] => True
  | c :: l => cellOk obs c ∧ okAll obs l

theorem okAll_mem {obs : List Ob} : ∀ {l : List D}, okAll obs l → ∀ c, c ∈ l → cellOk obs c
  | [], _, c, hc => by simp at hc
  | d :: l, h, c, hc => by
    rcases List.mem_cons.1 hc with rfl | hc
    · exact h.1
    · exact okAll_mem h.2 c hc

def okParts (st : St) : List (Nat × Operand) → Prop
  | [] => True
  | x :: l => okAll st.ob (cellsD (st.ev x.2)) ∧ okParts st l

theorem okParts_mem {st : St} : ∀ {l : List (Nat × Operand)}, okParts st l → ∀ x, x ∈ l → ∀ c, c ∈ cellsD (st.ev x.2) → cellOk st.ob c
  | [], _, c, hc => by simp at hc
  | d :: l, h, c, hc => by
    rcases List.mem_cons.1 hc with rfl | hc
    · exact okAll_mem h.1
    · exact okParts_mem h.2 c hc

/-- An address is one of memory that is there. -/
def ptrLive (obs : List Ob) : D → Prop
  | .ptr id _ _ => liveAt obs id
  | _ => True

/-- Two structs, or arrays, compared. -/
def eqAgg (P : Program) (t : TypeId) (xs ys : List D) (K : Bool → Prop) : Prop :=
  match eqO P t with
  | some cks => match eqCells cks xs ys with
    | some b => K b
    | none => False
  | none => False

theorem eqAgg_some {P : Program} {t : TypeId} {xs ys : List D} {K : Bool → Prop} (h : eqAgg P t xs ys K) : ∃ cks b, eqO P t = some cks ∧ eqCells cks xs ys = some b ∧ K b := by
  unfold eqAgg at h
  split at h
  · rename_i cks h1
    split at h
    · rename_i b h2; exact ⟨_, _, h1, h2, h⟩
    · exact h.elim
  · exact h.elim

/-- What an operator answers, whatever its operands. -/
def abinAll (P : Program) (op : BinOp) (t : TypeId) (x y : D) (K : D → Prop) : Prop :=
  match op, x, y with
  | .eql, .p (.lit (.bool a)), .p (.lit (.bool b)) => P.underlying t = some .bool ∧ K (bD (a == b))
  | .neq, .p (.lit (.bool a)), .p (.lit (.bool b)) => P.underlying t = some .bool ∧ K (bD (a != b))
  | .eql, .p (.sl xs), .nil => (∃ e, P.underlying t = some (.slice e)) ∧ ∀ b : Bool, (xs ≠ [] → b = false) → K (bD b)
  | .neq, .p (.sl xs), .nil => (∃ e, P.underlying t = some (.slice e)) ∧ ∀ b : Bool, (xs ≠ [] → b = true) → K (bD b)
  | .eql, .nil, .nil => (∃ e, P.underlying t = some (.slice e)) ∧ K (bD true)
  | .neq, .nil, .nil => (∃ e, P.underlying t = some (.slice e)) ∧ K (bD false)
  | .eql, .agg xs, .agg ys => eqAgg P t xs ys fun b => K (bD b)
  | .neq, .agg xs, .agg ys => eqAgg P t xs ys fun b => K (bD (!b))
  | op, x, y => abin (fun _ => false) op t x y K

def aunAll (op : UnOp) (x : D) (K : D → Prop) : Prop :=
  match op, x with
  | .not, .p (.lit (.bool b)) => K (bD (!b))
  | .neg, .p (.lit (.int k n)) => K (.p (.lit (.int k (k.wrap (0 - n)))))
  | _, _ => False

/-- The least, or the greatest, of several numbers. -/
def mostD (up : Bool) (k : IntKind) (x : Int) : List D → (D → Prop) → Prop
  | [], K => K (.p (.lit (.int k x)))
  | .p (.lit (.int _ y)) :: l, K => mostD up k (if up then (if y > x then y else x) else (if y < x then y else x)) l K
  | _, _ => False

theorem mostD_min {P : Program} {w : World} {H : HV} {loc : Nat → Loc} {obs : List Ob} {k : IntKind} {K : D → Prop} : ∀ {l : List D} {vs : List Value} {x : Int}, mostD false k x l K → vs.length = l.length →
    (∀ (i : Nat) v d, vs[i]? = some v → l[i]? = some d → V H loc obs v d) → ∃ n, (vs.foldlM Builtin.min2 (Value.int k x)).run P w = .ok (.int k n) w ∧ K (.p (.lit (.int k n)))
  | [], [], x, h, _, _ => ⟨x, rfl, h⟩
  | d :: l, v :: vs, x, h, hn, hv => by
    unfold mostD at h
    split at h
    · rename_i heq; cases heq
    · rename_i k' y l' heq
      simp only [List.cons.injEq] at heq
      obtain ⟨rfl, rfl⟩ := heq
      have h0 := (hv 0 v _ rfl rfl).lit_inv
      subst h0
      obtain ⟨n, h1, h2⟩ := mostD_min h (by simpa using hn) (fun i v d g1 g2 => hv (i + 1) v d g1 g2)
      refine ⟨n, ?_, h2⟩
      simp only [List.foldlM_cons, Builtin.min2, pure_bind]
      exact h1
    · exact h.elim
  | [], _ :: _, _, _, hn, _ => by simp at hn
  | _ :: _, [], _, _, hn, _ => by simp at hn

theorem mostD_max {P : Program} {w : World} {H : HV} {loc : Nat → Loc} {obs : List Ob} {k : IntKind} {K : D → Prop} : ∀ {l : List D} {vs : List Value} {x : Int}, mostD true k x l K → vs.length = l.length →
    (∀ (i : Nat) v d, vs[i]? = some v → l[i]? = some d → V H loc obs v d) → ∃ n, (vs.foldlM Builtin.max2 (Value.int k x)).run P w = .ok (.int k n) w ∧ K (.p (.lit (.int k n)))
  | [], [], x, h, _, _ => ⟨x, rfl, h⟩
  | d :: l, v :: vs, x, h, hn, hv => by
    unfold mostD at h
    split at h
    · rename_i heq; cases heq
    · rename_i k' y l' heq
      simp only [List.cons.injEq] at heq
      obtain ⟨rfl, rfl⟩ := heq
      have h0 := (hv 0 v _ rfl rfl).lit_inv
      subst h0
      obtain ⟨n, h1, h2⟩ := mostD_max h (by simpa using hn) (fun i v d g1 g2 => hv (i + 1) v d g1 g2)
      refine ⟨n, ?_, h2⟩
      simp only [List.foldlM_cons, Builtin.max2, pure_bind]
      exact h1
    · exact h.elim
  | [], _ :: _, _, _, hn, _ => by simp at hn
  | _ :: _, [], _, _, hn, _ => by simp at hn

theorem run_newmap {P : Program} (t : TypeId) (w : World) : (Instr.makeMap t none).run P w = .ok (.map (some w.heap.size)) (w.alloc (.map #[] 0)) := rfl

/-- A store, shut: what is stored may be given away for good. -/
inductive AS (P : Program) (n : Nat) (st : St) (x y : Operand) (K : St → Prop) : Prop where
  | mk (h : storeD n st (st.ev x) (st.ev y) K)
  | away (ids : List Nat) (hd : ids.Nodup) (hp : ∀ k, k < st.n0 → ids[k]? = some k) (h : storeD n (st.away ids) ((st.away ids).ev x) ((st.away ids).ev y) K)

/-- An append, shut. -/
inductive AAp (P : Program) (s n : Nat) (st : St) (x y : D) (K : D → St → Prop) : Prop where
  | grow (h : appendD s n st x y K)
  | room (h : appendIn s st x y K)

/-- A builtin function. -/
def abuiltin (P : Program) (b : Builtin) (ts : List TypeId) (st : St) (args : List D) (K : D → St → Prop) : Prop :=
  match b, ts, args with
  | .len, [t], [x] =>
    match P.underlying t, lenD st.ob x with
    | some (.slice _), some n => (∀ s, x ≠ .p (.lit (.string s))) ∧ K (iD n) st
    | some .string, some n => (∃ s, x = .p (.lit (.string s))) ∧ K (iD n) st
    | _, _ => False
  | .append, [t, tx], [x, y] =>
    match apO P t, elO P tx with
    | some (s, n), some _ => AAp P s n st x y K
    | some (s, n), none => appendZ P t tx s n st x y K
    | _, _ => False
  | .cap, [t], [.nil] => (match P.underlying t with | some (.slice _) => K (iD 0) st | _ => False)
  | .min, _, [.p (.lit (.int k x)), .p (.lit (.int _ y))] => K (.p (.lit (.int k (if y < x then y else x)))) st
  | .max, _, [.p (.lit (.int k x)), .p (.lit (.int _ y))] => K (.p (.lit (.int k (if y > x then y else x)))) st
  | .clear, [t], [x] => clearD P t st x K
  | .copy, [t, tx], [x, y] => copyD P t tx st x y K
  | .min, _, .p (.lit (.int k x)) :: l => mostD false k x l fun d => K d st
  | .max, _, .p (.lit (.int k x)) :: l => mostD true k x l fun d => K d st
  | _, _, _ => False


/-- Bytes in a row of one's own, and the text that they make. -/
def oneB : List PV → Option Int
  | [.lit (.int .u8 n)] => some n
  | _ => none
def bytesD (ob : List Ob) : D → Option (List Int)
  | .nil => some []
  | .ref id off n => match ob[id]? with
    | some (.row 1 xs) => ((xs.drop off).take n).mapM oneB
    | _ => none
  | _ => none
def pushB (ns : List Int) : ByteArray := ns.foldl (fun r n => r.push (UInt8.ofNat n.toNat)) ByteArray.empty
theorem bytes_map : ∀ l : List Int, (l.map fun b => [PV.lit (.int .u8 b)]).mapM oneB = some l
  | [] => rfl
  | b :: l => by
    rw [List.map_cons, List.mapM_cons, bytes_map l]; rfl
theorem bytes_get : ∀ {l : List (List PV)} {ns : List Int}, l.mapM oneB = some ns → l = ns.map fun b => [PV.lit (.int .u8 b)]
  | [], ns, h => by simp at h; subst h; rfl
  | x :: l, ns, h => by
    rw [List.mapM_cons] at h
    cases hx : oneB x with
    | none => rw [hx] at h; cases h
    | some b =>
      rw [hx] at h
      cases hl : l.mapM oneB with
      | none => rw [hl] at h; cases h
      | some bs =>
        rw [hl] at h; cases h
        rw [List.map_cons, ← bytes_get hl]
        congr 1
        unfold oneB at hx
        split at hx
        · cases hx; rfl
        · cases hx
theorem convert_bytes {P : Program} {H : HV} {loc : Nat → Loc} {ob : List Ob} {w : World} (hs : Sr H loc ob w) {src dst e : TypeId} (h1 : P.underlying src = some (.slice e)) (h2 : P.underlying dst = some .string) (h3 : P.underlying e = some (.int .u8))
    {v : Value} {d : D} (hv : V H loc ob v d) {ns : List Int} (hb : bytesD ob d = some ns) : (convert src dst v).run P w = .ok (.string (pushB ns)) w := by
  have hnil : ∀ l c, (convert src dst (.slice none l c)).run P w = .ok (.string (pushB [])) w := fun l c => by
    rw [run_convert_bytes_string w src dst e _ l c h1 h3 h2]
    simp [Conv.bytesToString, pushB, Sem.run_pure]
  cases hv <;> simp only [bytesD] at hb <;> try (cases hb; done)
  case nil => cases hb; exact hnil _ _
  case refGone => rename_i hob; rw [hob] at hb; cases hb
  case ref0 a id off s xs ho hl =>
    rw [ho] at hb
    have hns : ns = [] := by
      split at hb
      · simpa using hb
      · cases hb
    subst hns
    cases a with
    | none => exact hnil _ _
    | some a =>
      rw [run_convert_bytes_string w src dst e _ 0 0 h1 h3 h2, run_bytesToString w a 0 0 [] (by simpa using run_loadCells_list (P := P) w a [] (fun j v h => by simp at h))]
      rfl
  case ref id off len cap s xs ho hl hc hx hr hn =>
    rw [ho] at hb
    split at hb
    · rename_i s' xs' heq
      cases heq
      have hrow := bytes_get hb
      have hlen : ns.length = len := by
        have := congrArg List.length hrow
        simp only [List.length_take, List.length_drop, List.length_map] at this
        omega
      rcases hs.obj id _ ho with ⟨h, _⟩ | ⟨_, c, ec, g1, g2, g3, g4, g5⟩
      · rw [hr] at h; cases h
      rw [run_convert_bytes_string w src dst e _ len cap h1 h3 h2, run_bytesToString w _ len cap ns ?_]
      · rfl
      have := run_loadCells_list (P := P) w ⟨(loc id).b, (loc id).o + off * 1, none⟩ (ns.map (Value.int .u8)) (fun j v hj => by
        rw [List.getElem?_map] at hj
        cases hq : ns[j]? with
        | none => rw [hq] at hj; cases hj
        | some b =>
          rw [hq] at hj; cases hj
          have hjl : j < len := by rw [← hlen]; exact (List.getElem?_eq_some_iff.1 hq).1
          have hxr : xs[off + j]? = some [PV.lit (.int .u8 b)] := by
            have h := congrArg (·[j]?) hrow
            simp only [List.getElem?_map, hq, Option.map_some, List.getElem?_take_of_lt hjl, List.getElem?_drop] at h
            exact h
          obtain ⟨u, a1, _, a3⟩ := g5 _ _ hxr 0 _ rfl
          cases a3
          rw [Addr.add_lit]
          simp only [World.cell?, g1, Option.isSome_none, Bool.false_eq_true, if_false]
          rw [← a1]
          congr 1; omega)
      simpa [hlen] using this
    · cases hb


/-- One operation. -/
def aop (P : Program) (o : Oper) (st : St) (K : D → St → Prop) : Prop :=
  match o.op with
  | .move x => K (st.ev x) st
  | .assign x => K (st.ev x) st
  | .pick c x y => match st.ev c with | .p (.lit (.bool t)) => (t = true → K (st.ev x) st) ∧ (t = false → K (st.ev y) st) | _ => False
  | .extract x i => match st.ev x with | .tup ds => (match ds[i]? with | some d => K d st | none => False) | _ => False
  | .binOp op t x y _ => abinAll P op t (st.ev x) (st.ev y) fun d => K d st
  | .unOp op _ x => aunAll op (st.ev x) fun d => K d st
  | .fieldAddr s x f => match fdO P s f with | some off => (match fieldD off (st.ev x) with | some r => ptrLive st.ob (st.ev x) ∧ K r st | none => False) | none => False
  | .indexAddr t x ix =>
    match st.ev ix with
    | .p (.lit (.int _ i)) =>
      match arO P t with
      | some (n, m) => 0 ≤ i ∧ i < (n : Int) ∧ ptrLive st.ob (st.ev x) ∧ (match fieldD (i.toNat * m) (st.ev x) with | some r => K r st | none => False)
      | none => match elO P t with | some (s, _) => indexD st.ob s i (fun d => K d st) (st.ev x) | none => False
    | _ => False
  | .load t x =>
    match tyO P t, derefD st.ob (st.ev x) with
    | some (g, n), some cs => (match loadD g n cs with | some r => K r st | none => False)
    | _, _ => False
  | .store t x y => match tyO P t with | some (_, n) => AS P n st x y (K (.p (.lit undef))) | none => False
  | .box _ x => okAll st.ob (cellsD (st.ev x)) ∧ K (.ptr st.ob.length 0 0) ⟨st.tm, st.ob ++ [.box (cellsD (st.ev x))], st.n0⟩
  | .lookup t x ix ok => lookupD P t st (st.ev x) (st.ev ix) ok K
  | .mapUpdate t m k x => updateD P t st (st.ev m) (st.ev k) (st.ev x) (K (.p (.lit undef)))
  | .insert t m k x => updateD P t st (st.ev m) (st.ev k) (st.ev x) (K (.p (.lit undef)))
  | .makeMap _ none => K (.mp st.ob.length) ⟨st.tm, st.ob ++ [.map []], st.n0⟩
  | .alloc e => match zeroO P e with | some cs => cs.all cellOk0 = true ∧ K (.ptr st.ob.length 0 0) ⟨st.tm, st.ob ++ [.box cs], st.n0⟩ | none => False
  | .build t parts =>
    match plO P t, zeroO P t with
    | some pl, some z => okParts st parts.toList ∧ (match fillD (pl[·]?) z (parts.toList.map fun x => (x.1, st.ev x.2)) with | some r => K (.agg r) st | none => False)
    | _, _ => False
  | .buildSlice t len parts =>
    match slO P t with
    | some s => okParts st parts.toList ∧ len * s ≤ 16777216 ∧
        (match rowsD s (parts.toList.map fun x => (x.1, st.ev x.2)) 0 with | some xs => xs.length = len ∧ K (.ref st.ob.length 0 len) ⟨st.tm, st.ob ++ [.row s xs], st.n0⟩ | none => False)
    | none => False
  | .makeFunc (.func f) first caps => first = #[] ∧ K (.fn f (caps.toList.map st.ev)) st
  | .slice t x lo hi mx =>
    match elO P t, boundD (lo.map st.ev), boundD (hi.map st.ev), boundD (mx.map st.ev) with
    | some (s, _), some l, some h, some m =>
      (match st.ev x with
       | .ref id _ _ => (match st.ob[id]? with | some (.row s' _) => s' = s | _ => False)
       | .p (.sl xs) => ∀ x, x ∈ xs → x.length = s
       | _ => True) ∧ partD st.ob l h m (st.ev x) fun d => K d st
    | none, some (some l), some none, some none =>
      (match P.underlying t, st.ev x with
       | some .string, .p (.lit (.string s)) => 0 ≤ l ∧ l ≤ (s.size : Int) ∧ K (.p (.lit (.string (s.extract l.toNat s.size)))) st
       | _, _ => False)
    | _, _, _, _ => False
  | .convert src dst x =>
    match P.underlying src, P.underlying dst, st.ev x with
    | some (.int _), some (.int k), .p (.lit (.int _ n)) => K (.p (.lit (.int k (k.wrap n)))) st
    | some (.slice e), some .string, d => P.underlying e = some (.int .u8) ∧ (match bytesD st.ob d with | some ns => K (.p (.lit (.string (pushB ns)))) st | none => False)
    | _, _, _ => False
  | .index t x ix =>
    match P.underlying t, st.ev x, st.ev ix with
    | some (.array n e), .agg cs, .p (.lit (.int _ i)) =>
      (match tyO P e with
      | some (false, m) => 0 ≤ i ∧ i < (n : Int) ∧ (match cs[i.toNat * m]? with | some d => K d st | none => False)
      | _ => False)
    | some .string, .p (.lit (.string s)), .p (.lit (.int _ i)) => 0 ≤ i ∧ (match s[i.toNat]? with | some b => K (.p (.lit (.int .u8 b.toNat))) st | none => False)
    | _, _, _ => False
  | .nilCheck x =>
    match st.ev x with
    | .ptr id i j => ptrLive st.ob (.ptr id i j) ∧ K (.ptr id i j) st
    | .rd y j => K (.rd y j) st
    | _ => False
  | .call c =>
    match c.callee with
    | .value x => AC P st (st.ev x) (c.args.toList.map st.ev) K
    | .builtin b => abuiltin P b c.argTypes.toList st (c.args.toList.map st.ev) K
    | _ => False
  | _ => False

section
variable {P : Program} {nt : Nat} {o : Oper} {st : St} {K : D → St → Prop}

theorem run_eq_nil {t e : TypeId} (h : P.underlying t = some (.slice e)) (a : Option Addr) (n c : Nat) (w : World) : (Op.equal t (.slice a n c) (.slice none 0 0)).run P w = .ok a.isNone w := by
  unfold Op.equal Op.maxDepth Op.equalIn
  simp only [Sem.run_bind, run_underlying h, Result.andThen_ok]
  cases a <;> rfl

theorem abinAll_sound {op : BinOp} {t : TypeId} {x y : D} {K : D → Prop} (h : abinAll P op t x y K) {H : HV} {loc : Nat → Loc} {obs : List Ob} {vx vy : Value} (hx : V H loc obs vx x) (hy : V H loc obs vy y) (w : World) :
    ∃ v d, (binOp op t vx vy).run P w = .ok v w ∧ K d ∧ V H loc obs v d := by
  have some_of : ∀ {xs : List (List PV)} {a : Option Addr} {n c : Nat}, V H loc obs (.slice a n c) (.p (.sl xs)) → (xs ≠ [] → a.isNone = false) := fun {xs a n c} hv hne => by
    cases hv with
    | p _ _ hp => cases hp with
      | none => exact absurd rfl hne
      | sl => rfl
  have isl : ∀ {xs : List (List PV)} {v : Value}, V H loc obs v (.p (.sl xs)) → ∃ a n c, v = .slice a n c := fun {xs v} hv => by
    cases hv with
    | p _ _ hp => cases hp <;> exact ⟨_, _, _, rfl⟩
  unfold abinAll at h
  split at h
  · have := hx.lit_inv; subst this
    have := hy.lit_inv; subst this
    exact ⟨_, _, by simp only [binOp, Sem.run_bind, run_equal_bool w _ _ _ h.1, Result.andThen_ok, Sem.run_pure], h.2, .p _ _ (.lit _)⟩
  · have := hx.lit_inv; subst this
    have := hy.lit_inv; subst this
    exact ⟨_, _, by simp only [binOp, Sem.run_bind, run_equal_bool w _ _ _ h.1, Result.andThen_ok, Sem.run_pure]; rfl, h.2, .p _ _ (.lit _)⟩
  · obtain ⟨⟨e, hu⟩, hK⟩ := h
    obtain ⟨a, n, c, rfl⟩ := isl hx
    cases hy with
    | nil =>
      exact ⟨.bool a.isNone, _, by simp only [binOp, Sem.run_bind, run_eq_nil hu, Result.andThen_ok, Sem.run_pure], hK _ (some_of hx), .p _ _ (.lit _)⟩
  · obtain ⟨⟨e, hu⟩, hK⟩ := h
    obtain ⟨a, n, c, rfl⟩ := isl hx
    cases hy with
    | nil =>
      exact ⟨.bool (!a.isNone), _, by simp only [binOp, Sem.run_bind, run_eq_nil hu, Result.andThen_ok, Sem.run_pure], hK _ (fun hne => by rw [some_of hx hne]; rfl), .p _ _ (.lit _)⟩
  · obtain ⟨⟨e, hu⟩, hK⟩ := h
    cases hx with
    | nil => cases hy with
      | nil => exact ⟨.bool true, _, by simp only [binOp, Sem.run_bind, run_eq_nil hu, Result.andThen_ok, Sem.run_pure]; rfl, hK, .p _ _ (.lit _)⟩
  · obtain ⟨⟨e, hu⟩, hK⟩ := h
    cases hx with
    | nil => cases hy with
      | nil => exact ⟨.bool false, _, by simp only [binOp, Sem.run_bind, run_eq_nil hu, Result.andThen_ok, Sem.run_pure]; rfl, hK, .p _ _ (.lit _)⟩
  · obtain ⟨cks, b, h1, h2, h3⟩ := eqAgg_some h
    exact ⟨_, _, (run_eq_agg w h1 h2 hx hy).1, h3, .p _ _ (.lit _)⟩
  · obtain ⟨cks, b, h1, h2, h3⟩ := eqAgg_some h
    exact ⟨_, _, (run_eq_agg w h1 h2 hx hy).2.1, h3, .p _ _ (.lit _)⟩
  · exact abin_sound h hx hy w

theorem run_eqGuard_plain {op : BinOp} {t : TypeId} {x y : Operand} {a b : Value} (h : a ≠ .nilIface) (h2 : ∀ c, a ≠ .agg c) (w : World) : (eqGuard op t x y a b).run P w = .ok () w := by
  cases a <;> first
    | exact absurd rfl h
    | exact absurd rfl (h2 _)
    | (cases op <;> rfl)

theorem abinAll_guard {op : BinOp} {t : TypeId} {x y : D} {K : D → Prop} (h : abinAll P op t x y K) {H : HV} {loc : Nat → Loc} {obs : List Ob} {vx vy : Value} (hx : V H loc obs vx x) (hy : V H loc obs vy y) (w : World) (ox oy : Operand) :
    (eqGuard op t ox oy vx vy).run P w = .ok () w := by
  have plain : (vx ≠ .nilIface ∧ ∀ c, vx ≠ .agg c) → (eqGuard op t ox oy vx vy).run P w = .ok () w := fun hp => run_eqGuard_plain hp.1 hp.2 w
  have hlit : ∀ v : Value, x = .p (.lit v) → (v ≠ .nilIface ∧ ∀ c, v ≠ .agg c) → vx ≠ .nilIface ∧ ∀ c, vx ≠ .agg c := fun v e hv => by
    subst e; have := hx.lit_inv; subst this; exact hv
  unfold abinAll at h
  split at h
  · exact plain (hlit _ rfl ⟨by simp, by simp⟩)
  · exact plain (hlit _ rfl ⟨by simp, by simp⟩)
  · refine plain ?_
    cases hx with
    | p _ _ hp => cases hp <;> exact ⟨by simp, by simp⟩
  · refine plain ?_
    cases hx with
    | p _ _ hp => cases hp <;> exact ⟨by simp, by simp⟩
  · refine plain ?_
    cases hx; exact ⟨by simp, by simp⟩
  · refine plain ?_
    cases hx; exact ⟨by simp, by simp⟩
  · obtain ⟨cks, b, h1, h2, h3⟩ := eqAgg_some h
    exact (run_eq_agg w h1 h2 hx hy).2.2 _ _ _
  · obtain ⟨cks, b, h1, h2, h3⟩ := eqAgg_some h
    exact (run_eq_agg w h1 h2 hx hy).2.2 _ _ _
  · unfold abin at h
    split at h
    · exact plain (hlit _ rfl ⟨by simp, by simp⟩)
    · exact plain (hlit _ rfl ⟨by simp, by simp⟩)
    · exact h.elim

theorem aunAll_sound {op : UnOp} {x : D} {K : D → Prop} (h : aunAll op x K) {H : HV} {loc : Nat → Loc} {obs : List Ob} {vx : Value} (hx : V H loc obs vx x) (w : World) :
    ∃ v d, (Op.unary op vx).run P w = .ok v w ∧ K d ∧ V H loc obs v d := by
  unfold aunAll at h
  split at h
  · have := hx.lit_inv; subst this
    exact ⟨_, _, by simp only [Op.unary, Sem.run_pure], h, .p _ _ (.lit _)⟩
  · have := hx.lit_inv; subst this
    exact ⟨_, _, by simp only [Op.unary, Op.intArith, Sem.run_pure], h, .p _ _ (.lit _)⟩
  · exact h.elim

theorem opS_extract {x : Operand} {i : Nat} {ds : List D} {d : D} (ho : o.op = .extract x i) (hx : st.ev x = .tup ds) (hd : ds[i]? = some d) (h : K d st) : OpS P nt o st K := by
  refine opS_pure d h fun M H0 w0 H loc w a r => ?_
  have hv := r.ev x
  rw [hx] at hv
  generalize hvx : a.eval x = vx at hv
  cases hv with
  | tup vs _ hn hc =>
    have hlt : i < vs.size := by
      rcases Nat.lt_or_ge i ds.length with h' | h'
      · omega
      · simp [List.getElem?_eq_none h'] at hd
    refine ⟨vs[i], ?_, hc i _ d (Array.getElem?_eq_getElem hlt) hd⟩
    simp only [execOp, ho, hvx, Instr.extract, Array.getElem?_eq_getElem hlt, Sem.run_bind, Sem.run_pure, Result.andThen_ok]

theorem live_of {obs : List Ob} {d : D} (h : ptrLive obs d) : ∀ id i j, d = .ptr id i j → ∃ o, obs[id]? = some o ∧ o.live = true := fun id i j e => by
  subst e; exact liveAt_of h

theorem exec_builtin1 {a : Act} {w : World} {b : Builtin} {args : Array Operand} {ts : Array TypeId} (ho : o.op = .call { callee := .builtin b, args := args, argTypes := ts }) :
    ∃ cs, (execOp a.eval o).run P w = (builtin b ts o.type cs (args.map a.eval)).run P w := by
  simp only [execOp, ho, resolve, pure_bind, invoke]
  exact ⟨_, rfl⟩

theorem abuiltin_sound {b : Builtin} {args : Array Operand} {ts : Array TypeId} (ho : o.op = .call { callee := .builtin b, args := args, argTypes := ts }) (h : abuiltin P b ts.toList st (args.toList.map st.ev) K) : OpS P nt o st K := by
  unfold abuiltin at h
  split at h
  · rename_i t x hts hargs
    obtain ⟨y, hy⟩ : ∃ y, args = #[y] := by
      have : args.toList.length = 1 := by have := congrArg List.length hargs; simpa using this
      match h2 : args.toList, this with
      | [y], _ => exact ⟨y, by apply Array.ext'; rw [h2]⟩
    subst hy
    obtain rfl : ts = #[t] := by apply Array.ext'; rw [hts]
    simp at hargs
    subst hargs
    have go : ∀ n : Nat, lenD st.ob (st.ev y) = some n → ((∃ e, P.underlying t = some (.slice e)) ∨ P.underlying t = some .string) → ((∃ e, P.underlying t = some (.slice e)) ↔ (∀ s, st.ev y ≠ .p (.lit (.string s)))) → K (iD n) st → OpS P nt o st K := by
      intro n hn h1 h2 hK
      refine opS_pure _ hK fun M H0 w0 H loc w a r => ?_
      have := len_of (w := w) (ty := o.type) h1 (r.ev y) hn h2
      refine ⟨.int .i64 n, ?_, .p _ _ (.lit _)⟩
      obtain ⟨cs, hcs⟩ := exec_builtin1 (P := P) (a := a) (w := w) ho
      rw [hcs]
      simp only [builtin, List.map_toArray, List.map_cons, List.map_nil, Sem.run_bind, this, Result.andThen_ok, Sem.run_pure]
    split at h
    · rename_i e n hu hn
      exact go n hn (.inl ⟨e, hu⟩) ⟨fun _ => h.1, fun _ => ⟨e, hu⟩⟩ h.2
    · rename_i n hu hn
      refine go n hn (.inr hu) ⟨fun ⟨e, he⟩ => (by rw [hu] at he; cases he), fun hx => ?_⟩ h.2
      obtain ⟨s, hs⟩ := h.1
      exact absurd hs (hx s)
    · exact h.elim
  · rename_i t tx x y hts hargs
    obtain ⟨x', y', hy⟩ : ∃ x' y', args = #[x', y'] := by
      have : args.toList.length = 2 := by have := congrArg List.length hargs; simpa using this
      match h2 : args.toList, this with
      | [x', y'], _ => exact ⟨x', y', by apply Array.ext'; rw [h2]⟩
    subst hy
    obtain rfl : ts = #[t, tx] := by apply Array.ext'; rw [hts]
    simp at hargs
    obtain ⟨rfl, rfl⟩ := hargs
    split at h
    · rename_i s n q h1 h2
      have htx : ∃ e, P.underlying tx = some (.slice e) := ?_
      · cases h with
        | grow h => exact opS_append ho h1 htx h
        | room h => exact opS_append_in ho h1 htx h
      unfold elO at h2
      cases hu : P.underlying tx with
      | none => rw [hu] at h2; cases h2
      | some dsc =>
        rw [hu] at h2
        cases dsc <;> dsimp only at h2 <;> try cases h2
        exact ⟨_, rfl⟩
    · rename_i s n h1 h2
      refine opS_val fun M H0 w0 H loc w a r => ?_
      obtain ⟨v, w', loc', d, st', k1, k2, k3, k4⟩ := appendZ_sound (ty := o.type) h1 h r (r.ev x') (r.ev y')
      refine ⟨v, w', H, loc', d, st', ?_, k2, k3, k4⟩
      obtain ⟨cs, hcs⟩ := exec_builtin1 (P := P) (a := a) (w := w) ho
      rw [hcs]
      simp only [builtin, List.map_toArray, List.map_cons, List.map_nil, Sem.run_bind, k1, Result.andThen_ok, Sem.run_pure]
    · exact h.elim
  · rename_i t hts hargs
    obtain ⟨y, hy⟩ : ∃ y, args = #[y] := by
      have : args.toList.length = 1 := by have := congrArg List.length hargs; simpa using this
      match h2 : args.toList, this with
      | [y], _ => exact ⟨y, by apply Array.ext'; rw [h2]⟩
    subst hy
    obtain rfl : ts = #[t] := by apply Array.ext'; rw [hts]
    simp at hargs
    split at h
    · rename_i e hu
      refine opS_pure _ h fun M H0 w0 H loc w a r => ?_
      have hv := r.ev y
      rw [hargs] at hv
      generalize hvy : a.eval y = vy at hv
      cases hv
      refine ⟨.int .i64 0, ?_, .p _ _ (.lit _)⟩
      obtain ⟨cs, hcs⟩ := exec_builtin1 (P := P) (a := a) (w := w) ho
      rw [hcs]
      simp [builtin, hvy, Builtin.cap_, run_underlying hu, goInt]
    · exact h.elim
  · rename_i k x k' y hargs
    obtain ⟨x', y', hy⟩ : ∃ x' y', args = #[x', y'] := by
      have : args.toList.length = 2 := by have := congrArg List.length hargs; simpa using this
      match h2 : args.toList, this with
      | [x', y'], _ => exact ⟨x', y', by apply Array.ext'; rw [h2]⟩
    subst hy
    simp at hargs
    refine opS_pure _ h fun M H0 w0 H loc w a r => ?_
    have h1 := r.ev x'
    have h2 := r.ev y'
    rw [hargs.1] at h1
    rw [hargs.2] at h2
    refine ⟨_, ?_, .p _ _ (.lit _)⟩
    obtain ⟨cs, hcs⟩ := exec_builtin1 (P := P) (a := a) (w := w) ho
    rw [hcs]
    simp only [builtin, List.map_toArray, List.map_cons, List.map_nil, h1.lit_inv, h2.lit_inv, Builtin.min_, List.foldlM_cons, List.foldlM_nil, Builtin.min2, pure_bind, Sem.run_bind, Sem.run_pure, Result.andThen_ok]
  · rename_i k x k' y hargs
    obtain ⟨x', y', hy⟩ : ∃ x' y', args = #[x', y'] := by
      have : args.toList.length = 2 := by have := congrArg List.length hargs; simpa using this
      match h2 : args.toList, this with
      | [x', y'], _ => exact ⟨x', y', by apply Array.ext'; rw [h2]⟩
    subst hy
    simp at hargs
    refine opS_pure _ h fun M H0 w0 H loc w a r => ?_
    have h1 := r.ev x'
    have h2 := r.ev y'
    rw [hargs.1] at h1
    rw [hargs.2] at h2
    refine ⟨_, ?_, .p _ _ (.lit _)⟩
    obtain ⟨cs, hcs⟩ := exec_builtin1 (P := P) (a := a) (w := w) ho
    rw [hcs]
    simp only [builtin, List.map_toArray, List.map_cons, List.map_nil, h1.lit_inv, h2.lit_inv, Builtin.max_, List.foldlM_cons, List.foldlM_nil, Builtin.max2, pure_bind, Sem.run_bind, Sem.run_pure, Result.andThen_ok]
  · rename_i t x hts hargs
    obtain ⟨x', hy⟩ : ∃ x', args = #[x'] := by
      have : args.toList.length = 1 := by have := congrArg List.length hargs; simpa using this
      match h2 : args.toList, this with
      | [x'], _ => exact ⟨x', by apply Array.ext'; rw [h2]⟩
    subst hy
    obtain rfl : ts = #[t] := by apply Array.ext'; rw [hts]
    simp at hargs
    subst hargs
    refine opS_val fun M H0 w0 H loc w a r => ?_
    obtain ⟨w', st', k1, k2, k3⟩ := clear_sound (ty := o.type) h r (r.ev x')
    refine ⟨.tuple #[], w', H, loc, _, st', ?_, k2, .tup _ _ rfl (fun i v d g1 g2 => by simp at g2), k3⟩
    obtain ⟨cs, hcs⟩ := exec_builtin1 (P := P) (a := a) (w := w) ho
    rw [hcs]
    simp only [builtin, List.map_toArray, List.map_cons, List.map_nil, Sem.run_bind, k1, Result.andThen_ok, Sem.run_pure]
  · rename_i t tx x y hts hargs
    obtain ⟨x', y', hy⟩ : ∃ x' y', args = #[x', y'] := by
      have : args.toList.length = 2 := by have := congrArg List.length hargs; simpa using this
      match h2 : args.toList, this with
      | [x', y'], _ => exact ⟨x', y', by apply Array.ext'; rw [h2]⟩
    subst hy
    obtain rfl : ts = #[t, tx] := by apply Array.ext'; rw [hts]
    simp at hargs
    obtain ⟨rfl, rfl⟩ := hargs
    refine opS_val fun M H0 w0 H loc w a r => ?_
    obtain ⟨n, w', st', k1, k2, k3⟩ := copy_sound (ty := o.type) h r (r.ev x') (r.ev y')
    refine ⟨_, w', H, loc, _, st', ?_, k2, .p _ _ (.lit _), k3⟩
    obtain ⟨cs, hcs⟩ := exec_builtin1 (P := P) (a := a) (w := w) ho
    rw [hcs]
    simp only [builtin, List.map_toArray, List.map_cons, List.map_nil, Sem.run_bind, k1, Result.andThen_ok, Sem.run_pure]
  · rename_i k x l hnot hargs
    refine opS_val fun M H0 w0 H loc w a r => ?_
    have hev : ∃ vs, args.toList.map a.eval = .int k x :: vs ∧ vs.length = l.length ∧ ∀ (i : Nat) v d, vs[i]? = some v → l[i]? = some d → V H loc st.ob v d := by
      match h2 : args.toList, hargs with
      | x' :: xs, hargs =>
        simp only [List.map_cons, List.cons.injEq] at hargs
        obtain ⟨e1, rfl⟩ := hargs
        have h1 := r.ev x'
        rw [e1] at h1
        refine ⟨xs.map a.eval, by rw [List.map_cons, h1.lit_inv], by simp, fun i v d g1 g2 => ?_⟩
        rw [List.getElem?_map] at g1 g2
        cases hx : xs[i]? with
        | none => rw [hx] at g1; cases g1
        | some o => rw [hx] at g1 g2; cases g1; cases g2; exact r.ev o
    obtain ⟨vs, e1, e2, e3⟩ := hev
    obtain ⟨n, k1, k2⟩ := mostD_min (P := P) (w := w) h e2 e3
    refine ⟨_, w, H, loc, _, st, ?_, k2, .p _ _ (.lit _), r⟩
    obtain ⟨cs, hcs⟩ := exec_builtin1 (P := P) (a := a) (w := w) ho
    rw [hcs]
    have e4 : (args.map a.eval).toList = .int k x :: vs := by rw [Array.toList_map]; exact e1
    simp only [builtin, Builtin.min_, e4, Sem.run_bind, k1, Result.andThen_ok, Sem.run_pure]
  · rename_i k x l hnot hargs
    refine opS_val fun M H0 w0 H loc w a r => ?_
    have hev : ∃ vs, args.toList.map a.eval = .int k x :: vs ∧ vs.length = l.length ∧ ∀ (i : Nat) v d, vs[i]? = some v → l[i]? = some d → V H loc st.ob v d := by
      match h2 : args.toList, hargs with
      | x' :: xs, hargs =>
        simp only [List.map_cons, List.cons.injEq] at hargs
        obtain ⟨e1, rfl⟩ := hargs
        have h1 := r.ev x'
        rw [e1] at h1
        refine ⟨xs.map a.eval, by rw [List.map_cons, h1.lit_inv], by simp, fun i v d g1 g2 => ?_⟩
        rw [List.getElem?_map] at g1 g2
        cases hx : xs[i]? with
        | none => rw [hx] at g1; cases g1
        | some o => rw [hx] at g1 g2; cases g1; cases g2; exact r.ev o
    obtain ⟨vs, e1, e2, e3⟩ := hev
    obtain ⟨n, k1, k2⟩ := mostD_max (P := P) (w := w) h e2 e3
    refine ⟨_, w, H, loc, _, st, ?_, k2, .p _ _ (.lit _), r⟩
    obtain ⟨cs, hcs⟩ := exec_builtin1 (P := P) (a := a) (w := w) ho
    rw [hcs]
    have e4 : (args.map a.eval).toList = .int k x :: vs := by rw [Array.toList_map]; exact e1
    simp only [builtin, Builtin.max_, e4, Sem.run_bind, k1, Result.andThen_ok, Sem.run_pure]
  · exact h.elim

theorem bound_of {x : Option Operand} {b : Option Int} (h : boundD (x.map st.ev) = some b) {M : En} {H0 : HV} {w0 : World} {H : HV} {loc : Nat → Loc} {w : World} {a : Act} (r : Rel M H0 w0 nt H loc w st a) : x.map a.eval = b.map (.int .i64) := by
  cases x with
  | none => cases h; rfl
  | some y =>
    simp only [Option.map_some] at h
    have hv := r.ev y
    cases hd : st.ev y with
    | p z =>
      rw [hd] at h hv
      cases z with
      | lit v =>
        have := hv.lit_inv
        cases v <;> try cases h
        rename_i k n
        cases k <;> cases h
        simp [this]
      | sl => cases h
    | _ => rw [hd] at h; cases h

theorem aop_sound (h : aop P o st K) : OpS P nt o st K := by
  unfold aop at h
  split at h
  · rename_i x ho
    exact opS_pure _ h fun M H0 w0 H loc w a r => ⟨_, by simp only [execOp, ho, Sem.run_pure], r.ev x⟩
  · rename_i x ho
    exact opS_pure _ h fun M H0 w0 H loc w a r => ⟨_, by simp only [execOp, ho, Sem.run_pure], r.ev x⟩
  · rename_i c x y ho
    split at h
    · rename_i t ht
      cases t with
      | true =>
        refine opS_pure _ (h.1 rfl) fun M H0 w0 H loc w a r => ?_
        have hc := r.ev c
        rw [ht] at hc
        exact ⟨_, by simp only [execOp, ho, hc.lit_inv, asBool, pure_bind, if_true, Sem.run_pure], r.ev x⟩
      | false =>
        refine opS_pure _ (h.2 rfl) fun M H0 w0 H loc w a r => ?_
        have hc := r.ev c
        rw [ht] at hc
        exact ⟨_, by simp only [execOp, ho, hc.lit_inv, asBool, pure_bind, Bool.false_eq_true, if_false, Sem.run_pure], r.ev y⟩
    · exact h.elim
  · rename_i x i ho
    split at h
    · rename_i ds hx
      split at h
      · rename_i d hd
        exact opS_extract ho hx hd h
      · exact h.elim
    · exact h.elim
  · rename_i op t x y yt ho
    refine opS_val fun M H0 w0 H loc w a r => ?_
    obtain ⟨v, d, h1, h2, h3⟩ := abinAll_sound h (r.ev x) (r.ev y) w
    have hp := abinAll_guard h (r.ev x) (r.ev y) w x y
    exact ⟨v, w, H, loc, d, st, by simp only [execOp, ho, Sem.run_bind, hp, h1, Result.andThen_ok, Sem.run_pure], h2, h3, r⟩
  · rename_i op t x ho
    refine opS_val fun M H0 w0 H loc w a r => ?_
    obtain ⟨v, d, h1, h2, h3⟩ := aunAll_sound (P := P) h (r.ev x) w
    exact ⟨v, w, H, loc, d, st, by simp only [execOp, ho, Sem.run_bind, h1, Result.andThen_ok, Sem.run_pure], h2, h3, r⟩
  · rename_i s x f ho
    split at h
    · rename_i off hf
      split at h
      · rename_i d hd
        refine opS_pure _ h.2 fun M H0 w0 H loc w a r => ?_
        obtain ⟨u, h1, h2⟩ := field_of hf (r.ev x) hd (live_of h.1)
        exact ⟨u, by simp only [execOp, ho, Sem.run_bind, h1 w, Result.andThen_ok, Sem.run_pure], h2⟩
      · exact h.elim
    · exact h.elim
  · rename_i t x ix ho
    split at h
    · rename_i k i hix
      split at h
      · rename_i n m ht
        obtain ⟨h0, h1, hl, h⟩ := h
        split at h
        · rename_i d hd
          refine opS_pure _ h fun M H0 w0 H loc w a r => ?_
          have hi := r.ev ix
          rw [hix] at hi
          obtain ⟨u, h2, h3⟩ := index_array_of (k := k) ht (r.ev x) h0 h1 hd (live_of hl)
          exact ⟨u, by simp only [execOp, ho, hi.lit_inv, Sem.run_bind, h2, Result.andThen_ok, Sem.run_pure], h3⟩
        · exact h.elim
      · split at h
        · rename_i s m ht
          refine opS_val fun M H0 w0 H loc w a r => ?_
          have hi := r.ev ix
          rw [hix] at hi
          obtain ⟨u, d, h2, h3, h4⟩ := index_of (k := k) ht (r.ev x) h
          exact ⟨u, w, H, loc, d, st, by simp only [execOp, ho, hi.lit_inv, Sem.run_bind, h2 w, Result.andThen_ok, Sem.run_pure], h4, h3, r⟩
        · exact h.elim
    · exact h.elim
  · rename_i t x ho
    split at h
    · rename_i g n cs ht hc
      split at h
      · rename_i d hd
        refine opS_pure _ h fun M H0 w0 H loc w a r => ?_
        obtain ⟨u, h1, h2⟩ := load_of r.sr (r.ev x) hc ht hd
        exact ⟨u, by simp only [execOp, ho, Sem.run_bind, h1, Result.andThen_ok, Sem.run_pure], h2⟩
      · exact h.elim
    · exact h.elim
  · rename_i t x y ho
    split at h
    · rename_i g n ht
      cases h with
      | mk h => exact opS_store ho ht h
      | away ids hd hp h =>
        intro M H0 w0 w a hi
        exact opS_store ho ht h M H0 w0 w a (hi.away hd hp)
    · exact h.elim
  · rename_i e x ho
    exact opS_box ho (okAll_mem h.1) h.2
  · rename_i t x ix ok ho
    refine opS_val fun M H0 w0 H loc w a r => ?_
    obtain ⟨v, d, h1, h2, h3⟩ := lookup_sound h r (r.ev x) (r.ev ix)
    exact ⟨v, w, H, loc, d, st, by simp only [execOp, ho, Sem.run_bind, h1, Result.andThen_ok, Sem.run_pure], h2, h3, r⟩
  · rename_i t m k x ho
    refine opS_skip fun M H0 w0 H loc w a r => ?_
    obtain ⟨w', st', h1, h2, h3⟩ := update_sound h r (r.ev m) (r.ev k) (r.ev x)
    exact ⟨w', H, loc, st', by simp only [execOp, ho, Sem.run_bind, h1, Result.andThen_ok, Sem.run_pure], h2, h3⟩
  · rename_i t m k x ho
    refine opS_skip fun M H0 w0 H loc w a r => ?_
    obtain ⟨w', st', h1, h2, h3⟩ := update_sound h r (r.ev m) (r.ev k) (r.ev x)
    exact ⟨w', H, loc, st', by simp only [execOp, ho, Sem.run_bind, h1, Result.andThen_ok, Sem.run_pure], h2, h3⟩
  · rename_i t ho
    refine opS_val fun M H0 w0 H loc w a r => ?_
    obtain ⟨loc', h1, h2⟩ := r.newMap
    exact ⟨_, _, H, loc', _, _, by simp only [execOp, ho, Option.map_none, Sem.run_bind, run_newmap, Result.andThen_ok, Sem.run_pure], h, h2, h1⟩
  · rename_i e ho
    split at h
    · rename_i cs hz
      exact opS_alloc ho hz h.1 h.2
    · exact h.elim
  · rename_i t parts ho
    split at h
    · rename_i pl z hp hz
      obtain ⟨hok, h⟩ := h
      split at h
      · rename_i d hf
        exact opS_build ho hp hz (okParts_mem hok) hf h
      · exact h.elim
    · exact h.elim
  · rename_i t len parts ho
    split at h
    · rename_i s hs
      obtain ⟨hok, hsm, h⟩ := h
      split at h
      · rename_i xs hf
        exact opS_buildSlice ho hs (okParts_mem hok) hf h.1 hsm h.2
      · exact h.elim
    · exact h.elim
  · rename_i f first caps ho
    obtain ⟨rfl, h⟩ := h
    refine opS_pure _ h fun M H0 w0 H loc w a r => ⟨.func (.func f) #[] (caps.map a.eval), ?_, .fn f _ _ (by simp) fun i v d h1 h2 => ?_⟩
    · simp only [execOp, ho, Instr.makeFunc, Sem.run_bind, Sem.run_pure, Result.andThen_ok, List.map_toArray, List.map_nil]
    · simp only [Array.getElem?_map, List.getElem?_map, Array.getElem?_toList] at h1 h2
      cases hx : caps[i]? with
      | none => rw [hx] at h1; cases h1
      | some x => rw [hx] at h1 h2; cases h1; cases h2; exact r.ev x
  · rename_i t x lo hi mx ho
    split at h
    · rename_i s nb l hh m ht hl hhi hm
      obtain ⟨hrow, h⟩ := h
      refine opS_val fun M H0 w0 H loc w a r => ?_
      have hnot : ∀ n e, P.underlying t ≠ some (.array n e) := fun n e hu => by
        unfold elO at ht; rw [hu] at ht; cases ht
      obtain ⟨u, d, h1, h2, h3⟩ := part_of (w := w) ht (r.ev x) h (fun id off len s' xs e hob => by
          rw [e] at hrow; simp only [hob] at hrow; exact hrow) (fun xs e => by rw [e] at hrow; exact hrow)
      refine ⟨u, w, H, loc, d, st, ?_, h3, h2, r⟩
      simp only [execOp, ho, bound_of hl r, bound_of hhi r, bound_of hm r, Sem.run_bind, h1, Result.andThen_ok, Sem.run_pure]
    · rename_i l ht hl hhi hm
      split at h
      · rename_i s hu hx
        obtain ⟨h0, h1, h⟩ := h
        refine opS_pure _ h fun M H0 w0 H loc w a r => ?_
        have hv := r.ev x
        rw [hx] at hv
        refine ⟨.string (s.extract l.toNat s.size), ?_, .p _ _ (.lit _)⟩
        have hrun : (Instr.slice t (.string s) (some (.int .i64 l)) none none).run P w = .ok (.string (s.extract l.toNat s.size)) w := by
          have hc : 0 ≤ l ∧ l ≤ (s.size : Int) := ⟨h0, h1⟩
          simp [Instr.slice, Instr.sliceBounds, Instr.sliceBound, asIntOf, run_underlying hu, hc]
        simp only [execOp, ho, bound_of hl r, bound_of hhi r, bound_of hm r, hv.lit_inv, Option.map_some, Option.map_none, Instr.sliceAt, Sem.run_bind, run_underlying hu, hrun, Result.andThen_ok, Sem.run_pure]
      · exact h.elim
    · exact h.elim
  · rename_i src dst x ho
    split at h
    · rename_i k0 k k1 n hs hd hx
      refine opS_pure _ h fun M H0 w0 H loc w a r => ?_
      have hv := r.ev x
      rw [hx] at hv
      refine ⟨.int k (k.wrap n), ?_, .p _ _ (.lit _)⟩
      simp only [execOp, ho, hv.lit_inv, convert, Sem.run_bind, run_underlying hs, run_underlying hd, Result.andThen_ok, Conv.intToInt, Sem.run_pure]
    · rename_i d e hs hd
      obtain ⟨he, h⟩ := h
      split at h
      · rename_i ns hns
        refine opS_pure _ h fun M H0 w0 H loc w a r => ?_
        refine ⟨.string (pushB ns), ?_, .p _ _ (.lit _)⟩
        simp only [execOp, ho, Sem.run_bind, convert_bytes r.sr hs hd he (r.ev x) hns, Result.andThen_ok, Sem.run_pure]
      · exact h.elim
    · exact h.elim
  · rename_i t x ix ho
    split at h
    · rename_i n e cs k i hu hx hix
      split at h
      · rename_i m hte
        obtain ⟨h0, h1, h⟩ := h
        split at h
        · rename_i d hd
          refine opS_pure _ h fun M H0 w0 H loc w a r => ?_
          have hv := r.ev x
          have hi := r.ev ix
          rw [hx] at hv
          rw [hix] at hi
          generalize hvx : a.eval x = vx at hv
          cases hv with
          | agg vs _ hn hc =>
            have hlt : i.toNat * m < vs.size := by
              rcases Nat.lt_or_ge (i.toNat * m) cs.length with h' | h'
              · omega
              · simp [List.getElem?_eq_none h'] at hd
            refine ⟨vs[i.toNat * m], ?_, hc _ _ d (Array.getElem?_eq_getElem hlt) hd⟩
            simp only [execOp, ho, hvx, hi.lit_inv, Instr.index, asIntOf, pure_bind, Sem.run_bind, run_underlying hu, Result.andThen_ok, h0, h1, and_self, if_true, (run_isAgg_of hte w).1, (run_isAgg_of hte w).2, part, Bool.false_eq_true, if_false, Array.getElem?_eq_getElem hlt, Sem.run_pure]
        · exact h.elim
      · exact h.elim
    · rename_i s k i hu hx hix
      obtain ⟨h0, h⟩ := h
      split at h
      · rename_i b hb
        refine opS_pure _ h fun M H0 w0 H loc w a r => ?_
        have hv := r.ev x
        have hi := r.ev ix
        rw [hx] at hv
        rw [hix] at hi
        refine ⟨.int .u8 b.toNat, ?_, .p _ _ (.lit _)⟩
        simp only [execOp, ho, hv.lit_inv, hi.lit_inv, Instr.index, asIntOf, pure_bind, Sem.run_bind, run_underlying hu, Result.andThen_ok, h0, if_true, hb, Sem.run_pure]
      · exact h.elim
    · exact h.elim
  · rename_i x ho
    split at h
    · rename_i id i j hx
      refine opS_pure _ h.2 fun M H0 w0 H loc w a r => ?_
      have hv := r.ev x
      rw [hx] at hv
      generalize hvx : a.eval x = vx at hv
      refine ⟨vx, ?_, hv⟩
      cases hv with
      | ptr => simp only [execOp, ho, hvx, Sem.run_pure]
      | ptrBox => simp only [execOp, ho, hvx, Sem.run_pure]
      | ptrGone _ _ _ _ hob => exact absurd (liveAt_of h.1) (fun ⟨o, h1, h2⟩ => by rw [hob] at h1; cases h1; cases h2)
    · rename_i y j hx
      refine opS_pure _ h fun M H0 w0 H loc w a r => ?_
      have hv := r.ev x
      rw [hx] at hv
      generalize hvx : a.eval x = vx at hv
      refine ⟨vx, ?_, hv⟩
      cases hv with
      | rd => simp only [execOp, ho, hvx, Sem.run_pure]
    · exact h.elim
  · rename_i c ho
    obtain ⟨callee, args, ts⟩ := c
    split at h
    · rename_i x hc
      dsimp only at hc h
      subst hc
      exact opS_ac ho h
    · rename_i b hc
      dsimp only at hc h
      subst hc
      exact abuiltin_sound ho h
    · exact h.elim
  · exact h.elim

end

/-- A region: its operations one by one, then what is known of some temporaries. -/
theorem awp_reg {P : Program} {nt : Nat} {id : Nat} {l : List Oper} {Q : Exit → St → Prop} {st : St} (ts : List Nat) (h : alist (aop P) nt l.toArray l st fun st' => Q .normal (st'.keep ts)) :
    AWp P nt (.region id l.toArray false) Q st := by
  intro M H0 w0 w a hi
  refine wp_region_lit ?_
  have := alist_sound (P := P) (fun o st K h => aop_sound h) l st _ h M H0 w0 w a hi
  revert this
  generalize l.toArray = ops
  intro this
  exact wpList_mono (fun e a w ⟨he, s, q, i⟩ => ⟨s.keep ts, by subst he; exact q, i.keep ts⟩) this

end Go.Ab

/- Facts on the types of this seat's program, by a program of this session (gentypes.py). -/
namespace Go.Proofs.Ytagphggcdmjlpaa.T
open Go.Ab
theorem un2 : Try.prog.underlying 2 = some (.int .i64) := by kernel_rfl
theorem zv2 : zvO Try.prog 2 = some (.int .i64 0) := by kernel_rfl
theorem ty2 : tyO Try.prog 2 = some (false, 1) := by kernel_rfl
theorem z2 : zeroO Try.prog 2 = some [.p (.lit (.int .i64 0))] := by kernel_rfl
theorem un3 : Try.prog.underlying 3 = some (.int .i64) := by kernel_rfl
theorem zv3 : zvO Try.prog 3 = some (.int .i64 0) := by kernel_rfl
theorem ty3 : tyO Try.prog 3 = some (false, 1) := by kernel_rfl
theorem z3 : zeroO Try.prog 3 = some [.p (.lit (.int .i64 0))] := by kernel_rfl
theorem un4 : Try.prog.underlying 4 = some .bool := by kernel_rfl
theorem zv4 : zvO Try.prog 4 = some (.bool false) := by kernel_rfl
theorem ty4 : tyO Try.prog 4 = some (false, 1) := by kernel_rfl
theorem z4 : zeroO Try.prog 4 = some [.p (.lit (.bool false))] := by kernel_rfl
theorem un5 : Try.prog.underlying 5 = some (.int .u8) := by kernel_rfl
theorem zv5 : zvO Try.prog 5 = some (.int .u8 0) := by kernel_rfl
theorem ty5 : tyO Try.prog 5 = some (false, 1) := by kernel_rfl
theorem z5 : zeroO Try.prog 5 = some [.p (.lit (.int .u8 0))] := by kernel_rfl
theorem un9 : Try.prog.underlying 9 = some .string := by kernel_rfl
theorem zv9 : zvO Try.prog 9 = some (.string ByteArray.empty) := by kernel_rfl
theorem ty9 : tyO Try.prog 9 = some (false, 1) := by kernel_rfl
theorem z9 : zeroO Try.prog 9 = some [.p (.lit (.string ByteArray.empty))] := by kernel_rfl
theorem un12 : Try.prog.underlying 12 = some (.int .u64) := by kernel_rfl
theorem zv12 : zvO Try.prog 12 = some (.int .u64 0) := by kernel_rfl
theorem ty12 : tyO Try.prog 12 = some (false, 1) := by kernel_rfl
theorem z12 : zeroO Try.prog 12 = some [.p (.lit (.int .u64 0))] := by kernel_rfl
theorem un21 : Try.prog.underlying 21 = some (.int .i32) := by kernel_rfl
theorem zv21 : zvO Try.prog 21 = some (.int .i32 0) := by kernel_rfl
theorem ty21 : tyO Try.prog 21 = some (false, 1) := by kernel_rfl
theorem z21 : zeroO Try.prog 21 = some [.p (.lit (.int .i32 0))] := by kernel_rfl
theorem un22 : Try.prog.underlying 22 = some (.slice 34) := by kernel_rfl
theorem ty22 : tyO Try.prog 22 = some (false, 1) := by kernel_rfl
theorem z22 : zeroO Try.prog 22 = some [.nil] := by kernel_rfl
theorem el22 : elO Try.prog 22 = some (1, 8) := by kernel_rfl
theorem ar22 : arO Try.prog 22 = none := by kernel_rfl
theorem sl22 : slO Try.prog 22 = some 1 := by kernel_rfl
theorem ap22 : apO Try.prog 22 = some (1, 8) := by kernel_rfl
theorem un23 : Try.prog.underlying 23 = some (.slice 34) := by kernel_rfl
theorem ty23 : tyO Try.prog 23 = some (false, 1) := by kernel_rfl
theorem z23 : zeroO Try.prog 23 = some [.nil] := by kernel_rfl
theorem el23 : elO Try.prog 23 = some (1, 8) := by kernel_rfl
theorem ar23 : arO Try.prog 23 = none := by kernel_rfl
theorem sl23 : slO Try.prog 23 = some 1 := by kernel_rfl
theorem ap23 : apO Try.prog 23 = some (1, 8) := by kernel_rfl
theorem un24 : Try.prog.underlying 24 = some (.slice 30) := by kernel_rfl
theorem ty24 : tyO Try.prog 24 = some (false, 1) := by kernel_rfl
theorem z24 : zeroO Try.prog 24 = some [.nil] := by kernel_rfl
theorem el24 : elO Try.prog 24 = some (5, 64) := by kernel_rfl
theorem ar24 : arO Try.prog 24 = none := by kernel_rfl
theorem sl24 : slO Try.prog 24 = some 5 := by kernel_rfl
theorem ap24 : apO Try.prog 24 = some (5, 64) := by kernel_rfl
theorem un25 : Try.prog.underlying 25 = some (.int .i64) := by kernel_rfl
theorem zv25 : zvO Try.prog 25 = some (.int .i64 0) := by kernel_rfl
theorem ty25 : tyO Try.prog 25 = some (false, 1) := by kernel_rfl
theorem z25 : zeroO Try.prog 25 = some [.p (.lit (.int .i64 0))] := by kernel_rfl
theorem ty29 : tyO Try.prog 29 = some (true, 5) := by kernel_rfl
theorem z29 : zeroO Try.prog 29 = some [.p (.lit (.int .i64 0)), .p (.lit (.int .i64 0)), .p (.lit (.int .i64 0)), .p (.lit (.string ByteArray.empty)), .nil] := by kernel_rfl
theorem pl29 : plO Try.prog 29 = some [(0, 1), (1, 1), (2, 1), (3, 1), (4, 1)] := by kernel_rfl
theorem fd29_0 : fdO Try.prog 29 0 = some 0 := by kernel_rfl
theorem fd29_1 : fdO Try.prog 29 1 = some 1 := by kernel_rfl
theorem fd29_2 : fdO Try.prog 29 2 = some 2 := by kernel_rfl
theorem fd29_3 : fdO Try.prog 29 3 = some 3 := by kernel_rfl
theorem fd29_4 : fdO Try.prog 29 4 = some 4 := by kernel_rfl
theorem ar29 : arO Try.prog 29 = none := by kernel_rfl
theorem ty30 : tyO Try.prog 30 = some (true, 5) := by kernel_rfl
theorem z30 : zeroO Try.prog 30 = some [.p (.lit (.int .i64 0)), .p (.lit (.int .i64 0)), .p (.lit (.int .i64 0)), .p (.lit (.string ByteArray.empty)), .nil] := by kernel_rfl
theorem pl30 : plO Try.prog 30 = some [(0, 1), (1, 1), (2, 1), (3, 1), (4, 1)] := by kernel_rfl
theorem fd30_0 : fdO Try.prog 30 0 = some 0 := by kernel_rfl
theorem fd30_1 : fdO Try.prog 30 1 = some 1 := by kernel_rfl
theorem fd30_2 : fdO Try.prog 30 2 = some 2 := by kernel_rfl
theorem fd30_3 : fdO Try.prog 30 3 = some 3 := by kernel_rfl
theorem fd30_4 : fdO Try.prog 30 4 = some 4 := by kernel_rfl
theorem ar30 : arO Try.prog 30 = none := by kernel_rfl
theorem un34 : Try.prog.underlying 34 = some (.int .u64) := by kernel_rfl
theorem zv34 : zvO Try.prog 34 = some (.int .u64 0) := by kernel_rfl
theorem ty34 : tyO Try.prog 34 = some (false, 1) := by kernel_rfl
theorem z34 : zeroO Try.prog 34 = some [.p (.lit (.int .u64 0))] := by kernel_rfl
theorem un36 : Try.prog.underlying 36 = some (.slice 38) := by kernel_rfl
theorem ty36 : tyO Try.prog 36 = some (false, 1) := by kernel_rfl
theorem z36 : zeroO Try.prog 36 = some [.nil] := by kernel_rfl
theorem el36 : elO Try.prog 36 = some (4, 56) := by kernel_rfl
theorem ar36 : arO Try.prog 36 = none := by kernel_rfl
theorem sl36 : slO Try.prog 36 = some 4 := by kernel_rfl
theorem ap36 : apO Try.prog 36 = some (4, 56) := by kernel_rfl
theorem ty37 : tyO Try.prog 37 = some (true, 4) := by kernel_rfl
theorem z37 : zeroO Try.prog 37 = some [.p (.lit (.int .i64 0)), .p (.lit (.int .i64 0)), .p (.lit (.string ByteArray.empty)), .nil] := by kernel_rfl
theorem pl37 : plO Try.prog 37 = some [(0, 1), (1, 1), (2, 1), (3, 1)] := by kernel_rfl
theorem fd37_0 : fdO Try.prog 37 0 = some 0 := by kernel_rfl
theorem fd37_1 : fdO Try.prog 37 1 = some 1 := by kernel_rfl
theorem fd37_2 : fdO Try.prog 37 2 = some 2 := by kernel_rfl
theorem fd37_3 : fdO Try.prog 37 3 = some 3 := by kernel_rfl
theorem ar37 : arO Try.prog 37 = none := by kernel_rfl
theorem ty38 : tyO Try.prog 38 = some (true, 4) := by kernel_rfl
theorem z38 : zeroO Try.prog 38 = some [.p (.lit (.int .i64 0)), .p (.lit (.int .i64 0)), .p (.lit (.string ByteArray.empty)), .nil] := by kernel_rfl
theorem pl38 : plO Try.prog 38 = some [(0, 1), (1, 1), (2, 1), (3, 1)] := by kernel_rfl
theorem fd38_0 : fdO Try.prog 38 0 = some 0 := by kernel_rfl
theorem fd38_1 : fdO Try.prog 38 1 = some 1 := by kernel_rfl
theorem fd38_2 : fdO Try.prog 38 2 = some 2 := by kernel_rfl
theorem fd38_3 : fdO Try.prog 38 3 = some 3 := by kernel_rfl
theorem ar38 : arO Try.prog 38 = none := by kernel_rfl
theorem un55 : Try.prog.underlying 55 = some (.map 3 3) := by kernel_rfl
theorem ty55 : tyO Try.prog 55 = some (false, 1) := by kernel_rfl
theorem z55 : zeroO Try.prog 55 = some [.p (.lit (.map none))] := by kernel_rfl
theorem un58 : Try.prog.underlying 58 = some (.slice 3) := by kernel_rfl
theorem ty58 : tyO Try.prog 58 = some (false, 1) := by kernel_rfl
theorem z58 : zeroO Try.prog 58 = some [.nil] := by kernel_rfl
theorem el58 : elO Try.prog 58 = some (1, 8) := by kernel_rfl
theorem ar58 : arO Try.prog 58 = none := by kernel_rfl
theorem sl58 : slO Try.prog 58 = some 1 := by kernel_rfl
theorem ap58 : apO Try.prog 58 = some (1, 8) := by kernel_rfl
theorem ty63 : tyO Try.prog 63 = some (true, 3) := by kernel_rfl
theorem z63 : zeroO Try.prog 63 = some [.nil, .p (.lit (.int .i64 0)), .nil] := by kernel_rfl
theorem pl63 : plO Try.prog 63 = some [(0, 1), (1, 1), (2, 1)] := by kernel_rfl
theorem fd63_0 : fdO Try.prog 63 0 = some 0 := by kernel_rfl
theorem fd63_1 : fdO Try.prog 63 1 = some 1 := by kernel_rfl
theorem fd63_2 : fdO Try.prog 63 2 = some 2 := by kernel_rfl
theorem ar63 : arO Try.prog 63 = none := by kernel_rfl
theorem ty64 : tyO Try.prog 64 = some (true, 3) := by kernel_rfl
theorem z64 : zeroO Try.prog 64 = some [.nil, .p (.lit (.int .i64 0)), .nil] := by kernel_rfl
theorem pl64 : plO Try.prog 64 = some [(0, 1), (1, 1), (2, 1)] := by kernel_rfl
theorem fd64_0 : fdO Try.prog 64 0 = some 0 := by kernel_rfl
theorem fd64_1 : fdO Try.prog 64 1 = some 1 := by kernel_rfl
theorem fd64_2 : fdO Try.prog 64 2 = some 2 := by kernel_rfl
theorem ar64 : arO Try.prog 64 = none := by kernel_rfl
theorem un70 : Try.prog.underlying 70 = some (.slice 139) := by kernel_rfl
theorem ty70 : tyO Try.prog 70 = some (false, 1) := by kernel_rfl
theorem z70 : zeroO Try.prog 70 = some [.nil] := by kernel_rfl
theorem el70 : elO Try.prog 70 = some (2, 16) := by kernel_rfl
theorem ar70 : arO Try.prog 70 = none := by kernel_rfl
theorem sl70 : slO Try.prog 70 = some 2 := by kernel_rfl
theorem ap70 : apO Try.prog 70 = some (2, 16) := by kernel_rfl
theorem un76 : Try.prog.underlying 76 = some (.slice 25) := by kernel_rfl
theorem ty76 : tyO Try.prog 76 = some (false, 1) := by kernel_rfl
theorem z76 : zeroO Try.prog 76 = some [.nil] := by kernel_rfl
theorem el76 : elO Try.prog 76 = some (1, 8) := by kernel_rfl
theorem ar76 : arO Try.prog 76 = none := by kernel_rfl
theorem sl76 : slO Try.prog 76 = some 1 := by kernel_rfl
theorem ap76 : apO Try.prog 76 = some (1, 8) := by kernel_rfl
theorem un81 : Try.prog.underlying 81 = some (.slice 86) := by kernel_rfl
theorem ty81 : tyO Try.prog 81 = some (false, 1) := by kernel_rfl
theorem z81 : zeroO Try.prog 81 = some [.nil] := by kernel_rfl
theorem el81 : elO Try.prog 81 = some (2, 24) := by kernel_rfl
theorem ar81 : arO Try.prog 81 = none := by kernel_rfl
theorem sl81 : slO Try.prog 81 = some 2 := by kernel_rfl
theorem ap81 : apO Try.prog 81 = some (2, 24) := by kernel_rfl
theorem un82 : Try.prog.underlying 82 = some (.slice 86) := by kernel_rfl
theorem ty82 : tyO Try.prog 82 = some (false, 1) := by kernel_rfl
theorem z82 : zeroO Try.prog 82 = some [.nil] := by kernel_rfl
theorem el82 : elO Try.prog 82 = some (2, 24) := by kernel_rfl
theorem ar82 : arO Try.prog 82 = none := by kernel_rfl
theorem sl82 : slO Try.prog 82 = some 2 := by kernel_rfl
theorem ap82 : apO Try.prog 82 = some (2, 24) := by kernel_rfl
theorem ty85 : tyO Try.prog 85 = some (true, 2) := by kernel_rfl
theorem z85 : zeroO Try.prog 85 = some [.p (.lit (.string ByteArray.empty)), .p (.lit (.int .i64 0))] := by kernel_rfl
theorem pl85 : plO Try.prog 85 = some [(0, 1), (1, 1)] := by kernel_rfl
theorem fd85_0 : fdO Try.prog 85 0 = some 0 := by kernel_rfl
theorem fd85_1 : fdO Try.prog 85 1 = some 1 := by kernel_rfl
theorem ar85 : arO Try.prog 85 = none := by kernel_rfl
theorem eq85 : eqO Try.prog 85 = some [.str, .int .i64] := by kernel_rfl
theorem ty86 : tyO Try.prog 86 = some (true, 2) := by kernel_rfl
theorem z86 : zeroO Try.prog 86 = some [.p (.lit (.string ByteArray.empty)), .p (.lit (.int .i64 0))] := by kernel_rfl
theorem pl86 : plO Try.prog 86 = some [(0, 1), (1, 1)] := by kernel_rfl
theorem fd86_0 : fdO Try.prog 86 0 = some 0 := by kernel_rfl
theorem fd86_1 : fdO Try.prog 86 1 = some 1 := by kernel_rfl
theorem ar86 : arO Try.prog 86 = none := by kernel_rfl
theorem eq86 : eqO Try.prog 86 = some [.str, .int .i64] := by kernel_rfl
theorem un94 : Try.prog.underlying 94 = some (.array 6 23) := by kernel_rfl
theorem ty94 : tyO Try.prog 94 = some (true, 6) := by kernel_rfl
theorem z94 : zeroO Try.prog 94 = some [.nil, .nil, .nil, .nil, .nil, .nil] := by kernel_rfl
theorem pl94 : plO Try.prog 94 = some [(0, 1), (1, 1), (2, 1), (3, 1), (4, 1), (5, 1)] := by kernel_rfl
theorem ar94 : arO Try.prog 94 = some (6, 1) := by kernel_rfl
theorem un95 : Try.prog.underlying 95 = some (.array 2 82) := by kernel_rfl
theorem ty95 : tyO Try.prog 95 = some (true, 2) := by kernel_rfl
theorem z95 : zeroO Try.prog 95 = some [.nil, .nil] := by kernel_rfl
theorem pl95 : plO Try.prog 95 = some [(0, 1), (1, 1)] := by kernel_rfl
theorem ar95 : arO Try.prog 95 = some (2, 1) := by kernel_rfl
theorem un100 : Try.prog.underlying 100 = some (.int .u64) := by kernel_rfl
theorem zv100 : zvO Try.prog 100 = some (.int .u64 0) := by kernel_rfl
theorem ty100 : tyO Try.prog 100 = some (false, 1) := by kernel_rfl
theorem z100 : zeroO Try.prog 100 = some [.p (.lit (.int .u64 0))] := by kernel_rfl
theorem un101 : Try.prog.underlying 101 = some (.slice 5) := by kernel_rfl
theorem ty101 : tyO Try.prog 101 = some (false, 1) := by kernel_rfl
theorem z101 : zeroO Try.prog 101 = some [.nil] := by kernel_rfl
theorem el101 : elO Try.prog 101 = some (1, 1) := by kernel_rfl
theorem ar101 : arO Try.prog 101 = none := by kernel_rfl
theorem sl101 : slO Try.prog 101 = some 1 := by kernel_rfl
theorem ap101 : apO Try.prog 101 = some (1, 1) := by kernel_rfl
theorem ty109 : tyO Try.prog 109 = some (false, 1) := by kernel_rfl
theorem z109 : zeroO Try.prog 109 = some [.p (.lit (.pointer none))] := by kernel_rfl
theorem un110 : Try.prog.underlying 110 = some (.array 2 23) := by kernel_rfl
theorem ty110 : tyO Try.prog 110 = some (true, 2) := by kernel_rfl
theorem z110 : zeroO Try.prog 110 = some [.nil, .nil] := by kernel_rfl
theorem pl110 : plO Try.prog 110 = some [(0, 1), (1, 1)] := by kernel_rfl
theorem ar110 : arO Try.prog 110 = some (2, 1) := by kernel_rfl
theorem ty111 : tyO Try.prog 111 = some (false, 1) := by kernel_rfl
theorem z111 : zeroO Try.prog 111 = some [.p (.lit (.pointer none))] := by kernel_rfl
theorem un112 : Try.prog.underlying 112 = some (.map 3 34) := by kernel_rfl
theorem ty112 : tyO Try.prog 112 = some (false, 1) := by kernel_rfl
theorem z112 : zeroO Try.prog 112 = some [.p (.lit (.map none))] := by kernel_rfl
theorem ty113 : tyO Try.prog 113 = some (true, 4) := by kernel_rfl
theorem z113 : zeroO Try.prog 113 = some [.nil, .nil, .nil, .p (.lit (.map none))] := by kernel_rfl
theorem pl113 : plO Try.prog 113 = some [(0, 1), (1, 1), (2, 1), (3, 1)] := by kernel_rfl
theorem fd113_0 : fdO Try.prog 113 0 = some 0 := by kernel_rfl
theorem fd113_1 : fdO Try.prog 113 1 = some 1 := by kernel_rfl
theorem fd113_2 : fdO Try.prog 113 2 = some 2 := by kernel_rfl
theorem fd113_3 : fdO Try.prog 113 3 = some 3 := by kernel_rfl
theorem ar113 : arO Try.prog 113 = none := by kernel_rfl
theorem ty114 : tyO Try.prog 114 = some (true, 4) := by kernel_rfl
theorem z114 : zeroO Try.prog 114 = some [.nil, .nil, .nil, .p (.lit (.map none))] := by kernel_rfl
theorem pl114 : plO Try.prog 114 = some [(0, 1), (1, 1), (2, 1), (3, 1)] := by kernel_rfl
theorem fd114_0 : fdO Try.prog 114 0 = some 0 := by kernel_rfl
theorem fd114_1 : fdO Try.prog 114 1 = some 1 := by kernel_rfl
theorem fd114_2 : fdO Try.prog 114 2 = some 2 := by kernel_rfl
theorem fd114_3 : fdO Try.prog 114 3 = some 3 := by kernel_rfl
theorem ar114 : arO Try.prog 114 = none := by kernel_rfl
theorem un116 : Try.prog.underlying 116 = some (.slice 118) := by kernel_rfl
theorem ty116 : tyO Try.prog 116 = some (false, 1) := by kernel_rfl
theorem z116 : zeroO Try.prog 116 = some [.nil] := by kernel_rfl
theorem el116 : elO Try.prog 116 = some (2, 16) := by kernel_rfl
theorem ar116 : arO Try.prog 116 = none := by kernel_rfl
theorem sl116 : slO Try.prog 116 = some 2 := by kernel_rfl
theorem ap116 : apO Try.prog 116 = some (2, 16) := by kernel_rfl
theorem ty117 : tyO Try.prog 117 = some (true, 2) := by kernel_rfl
theorem z117 : zeroO Try.prog 117 = some [.p (.lit (.int .u64 0)), .p (.lit (.int .u64 0))] := by kernel_rfl
theorem pl117 : plO Try.prog 117 = some [(0, 1), (1, 1)] := by kernel_rfl
theorem fd117_0 : fdO Try.prog 117 0 = some 0 := by kernel_rfl
theorem fd117_1 : fdO Try.prog 117 1 = some 1 := by kernel_rfl
theorem ar117 : arO Try.prog 117 = none := by kernel_rfl
theorem eq117 : eqO Try.prog 117 = some [.int .u64, .int .u64] := by kernel_rfl
theorem ty118 : tyO Try.prog 118 = some (true, 2) := by kernel_rfl
theorem z118 : zeroO Try.prog 118 = some [.p (.lit (.int .u64 0)), .p (.lit (.int .u64 0))] := by kernel_rfl
theorem pl118 : plO Try.prog 118 = some [(0, 1), (1, 1)] := by kernel_rfl
theorem fd118_0 : fdO Try.prog 118 0 = some 0 := by kernel_rfl
theorem fd118_1 : fdO Try.prog 118 1 = some 1 := by kernel_rfl
theorem ar118 : arO Try.prog 118 = none := by kernel_rfl
theorem eq118 : eqO Try.prog 118 = some [.int .u64, .int .u64] := by kernel_rfl
theorem un124 : Try.prog.underlying 124 = some (.map 3 4) := by kernel_rfl
theorem ty124 : tyO Try.prog 124 = some (false, 1) := by kernel_rfl
theorem z124 : zeroO Try.prog 124 = some [.p (.lit (.map none))] := by kernel_rfl
theorem un139 : Try.prog.underlying 139 = some (.array 2 3) := by kernel_rfl
theorem ty139 : tyO Try.prog 139 = some (true, 2) := by kernel_rfl
theorem z139 : zeroO Try.prog 139 = some [.p (.lit (.int .i64 0)), .p (.lit (.int .i64 0))] := by kernel_rfl
theorem eq139 : eqO Try.prog 139 = some [.int .i64, .int .i64] := by kernel_rfl
theorem pl139 : plO Try.prog 139 = some [(0, 1), (1, 1)] := by kernel_rfl
theorem ar139 : arO Try.prog 139 = some (2, 1) := by kernel_rfl
theorem ty140 : tyO Try.prog 140 = some (false, 1) := by kernel_rfl
theorem z140 : zeroO Try.prog 140 = some [.p (.lit (.pointer none))] := by kernel_rfl
theorem ty141 : tyO Try.prog 141 = some (true, 4) := by kernel_rfl
theorem z141 : zeroO Try.prog 141 = some [.nil, .p (.lit (.int .i64 0)), .nil, .p (.lit (.map none))] := by kernel_rfl
theorem pl141 : plO Try.prog 141 = some [(0, 1), (1, 1), (2, 1), (3, 1)] := by kernel_rfl
theorem fd141_0 : fdO Try.prog 141 0 = some 0 := by kernel_rfl
theorem fd141_1 : fdO Try.prog 141 1 = some 1 := by kernel_rfl
theorem fd141_2 : fdO Try.prog 141 2 = some 2 := by kernel_rfl
theorem fd141_3 : fdO Try.prog 141 3 = some 3 := by kernel_rfl
theorem ar141 : arO Try.prog 141 = none := by kernel_rfl
theorem ty142 : tyO Try.prog 142 = some (true, 4) := by kernel_rfl
theorem z142 : zeroO Try.prog 142 = some [.nil, .p (.lit (.int .i64 0)), .nil, .p (.lit (.map none))] := by kernel_rfl
theorem pl142 : plO Try.prog 142 = some [(0, 1), (1, 1), (2, 1), (3, 1)] := by kernel_rfl
theorem fd142_0 : fdO Try.prog 142 0 = some 0 := by kernel_rfl
theorem fd142_1 : fdO Try.prog 142 1 = some 1 := by kernel_rfl
theorem fd142_2 : fdO Try.prog 142 2 = some 2 := by kernel_rfl
theorem fd142_3 : fdO Try.prog 142 3 = some 3 := by kernel_rfl
theorem ar142 : arO Try.prog 142 = none := by kernel_rfl
theorem un164 : Try.prog.underlying 164 = some (.array 4 3) := by kernel_rfl
theorem ty164 : tyO Try.prog 164 = some (true, 4) := by kernel_rfl
theorem z164 : zeroO Try.prog 164 = some [.p (.lit (.int .i64 0)), .p (.lit (.int .i64 0)), .p (.lit (.int .i64 0)), .p (.lit (.int .i64 0))] := by kernel_rfl
theorem eq164 : eqO Try.prog 164 = some [.int .i64, .int .i64, .int .i64, .int .i64] := by kernel_rfl
theorem pl164 : plO Try.prog 164 = some [(0, 1), (1, 1), (2, 1), (3, 1)] := by kernel_rfl
theorem ar164 : arO Try.prog 164 = some (4, 1) := by kernel_rfl
theorem un165 : Try.prog.underlying 165 = some (.array 6 3) := by kernel_rfl
theorem ty165 : tyO Try.prog 165 = some (true, 6) := by kernel_rfl
theorem z165 : zeroO Try.prog 165 = some [.p (.lit (.int .i64 0)), .p (.lit (.int .i64 0)), .p (.lit (.int .i64 0)), .p (.lit (.int .i64 0)), .p (.lit (.int .i64 0)), .p (.lit (.int .i64 0))] := by kernel_rfl
theorem eq165 : eqO Try.prog 165 = some [.int .i64, .int .i64, .int .i64, .int .i64, .int .i64, .int .i64] := by kernel_rfl
theorem pl165 : plO Try.prog 165 = some [(0, 1), (1, 1), (2, 1), (3, 1), (4, 1), (5, 1)] := by kernel_rfl
theorem ar165 : arO Try.prog 165 = some (6, 1) := by kernel_rfl
theorem un167 : Try.prog.underlying 167 = some (.int .i64) := by kernel_rfl
theorem zv167 : zvO Try.prog 167 = some (.int .i64 0) := by kernel_rfl
theorem ty167 : tyO Try.prog 167 = some (false, 1) := by kernel_rfl
theorem z167 : zeroO Try.prog 167 = some [.p (.lit (.int .i64 0))] := by kernel_rfl
theorem un174 : Try.prog.underlying 174 = some (.int .u32) := by kernel_rfl
theorem zv174 : zvO Try.prog 174 = some (.int .u32 0) := by kernel_rfl
theorem ty174 : tyO Try.prog 174 = some (false, 1) := by kernel_rfl
theorem z174 : zeroO Try.prog 174 = some [.p (.lit (.int .u32 0))] := by kernel_rfl
theorem un177 : Try.prog.underlying 177 = some (.int .u64) := by kernel_rfl
theorem zv177 : zvO Try.prog 177 = some (.int .u64 0) := by kernel_rfl
theorem ty177 : tyO Try.prog 177 = some (false, 1) := by kernel_rfl
theorem z177 : zeroO Try.prog 177 = some [.p (.lit (.int .u64 0))] := by kernel_rfl
theorem ty182 : tyO Try.prog 182 = some (false, 1) := by kernel_rfl
theorem z182 : zeroO Try.prog 182 = some [.p (.lit (.pointer none))] := by kernel_rfl
theorem ty194 : tyO Try.prog 194 = some (false, 1) := by kernel_rfl
theorem z194 : zeroO Try.prog 194 = some [.p (.lit (.pointer none))] := by kernel_rfl
attribute [go_sem] un2 zv2 ty2 z2 un3 zv3 ty3 z3 un4 zv4 ty4 z4 un5 zv5 ty5 z5 un9 zv9 ty9 z9 un12 zv12 ty12 z12 un21 zv21 ty21 z21 un22 ty22 z22 el22 ar22 sl22 ap22 un23 ty23 z23 el23 ar23 sl23 ap23 un24 ty24 z24 el24 ar24 sl24 ap24 un25 zv25 ty25 z25 ty29 z29 pl29 fd29_0 fd29_1 fd29_2 fd29_3 fd29_4 ar29 ty30 z30 pl30 fd30_0 fd30_1 fd30_2 fd30_3 fd30_4 ar30 un34 zv34 ty34 z34 un36 ty36 z36 el36 ar36 sl36 ap36 ty37 z37 pl37 fd37_0 fd37_1 fd37_2 fd37_3 ar37 ty38 z38 pl38 fd38_0 fd38_1 fd38_2 fd38_3 ar38 un55 ty55 z55 un58 ty58 z58 el58 ar58 sl58 ap58 ty63 z63 pl63 fd63_0 fd63_1 fd63_2 ar63 ty64 z64 pl64 fd64_0 fd64_1 fd64_2 ar64 un70 ty70 z70 el70 ar70 sl70 ap70 un76 ty76 z76 el76 ar76 sl76 ap76 un81 ty81 z81 el81 ar81 sl81 ap81 un82 ty82 z82 el82 ar82 sl82 ap82 ty85 z85 pl85 fd85_0 fd85_1 ar85 eq85 ty86 z86 pl86 fd86_0 fd86_1 ar86 eq86 un94 ty94 z94 pl94 ar94 un95 ty95 z95 pl95 ar95 un100 zv100 ty100 z100 un101 ty101 z101 el101 ar101 sl101 ap101 ty109 z109 un110 ty110 z110 pl110 ar110 ty111 z111 un112 ty112 z112 ty113 z113 pl113 fd113_0 fd113_1 fd113_2 fd113_3 ar113 ty114 z114 pl114 fd114_0 fd114_1 fd114_2 fd114_3 ar114 un116 ty116 z116 el116 ar116 sl116 ap116 ty117 z117 pl117 fd117_0 fd117_1 ar117 eq117 ty118 z118 pl118 fd118_0 fd118_1 ar118 eq118 un124 ty124 z124 un139 ty139 z139 eq139 pl139 ar139 ty140 z140 ty141 z141 pl141 fd141_0 fd141_1 fd141_2 fd141_3 ar141 ty142 z142 pl142 fd142_0 fd142_1 fd142_2 fd142_3 ar142 un164 ty164 z164 eq164 pl164 ar164 un165 ty165 z165 eq165 pl165 ar165 un167 zv167 ty167 z167 un174 zv174 ty174 z174 un177 zv177 ty177 z177 ty182 z182 ty194 z194
end Go.Proofs.Ytagphggcdmjlpaa.T

/- The calculus as it is used: a function's contract, its statements one by one, what simp unfolds. No program is named here. -/
namespace Go.Ab

/-- A call by the function's body, what is asked at its end behind a name. -/
theorem acalls_body {P : Program} {f : FuncId} {fn : Func} {c : Code} {args : List D} {obs : List Ob} {Q : D → List Ob → Prop} (ts : List Nat) {n : Nat}
    (hf : P.funcs[f]? = some fn) (hb : fn.body = some c) (hr : fn.results = (ts.map ResultVar.tmp).toArray) (hnt : fn.ntmps = n) (hn : args.length ≤ n) (hub : ∀ o, o ∈ obs → o ≠ .unborn)
    (h : ∀ R : Exit → St → Prop, (∀ st, Q (resD st ts) st.ob → R .ret st) → (∀ st, Q (resD st ts) st.ob → R .normal st) → AWp P n c R ⟨startTm args, obs, obs.length⟩) : ACalls P f args obs Q := by
  subst hnt
  exact acalls_of ts hf hb hr hn (h _ (fun st q => ⟨.inr rfl, q⟩) (fun st q => ⟨.inl rfl, q⟩)) hub

section
variable {P : Program} {nt : Nat} {Q : Exit → St → Prop} {st : St}

theorem awp_seq_k {x y : Code} (h : ∀ K : St → Prop, (∀ s, AWp P nt y Q s → K s) → AWp P nt x (andThen K Q) st) : AWp P nt (.seq x y) Q st := awp_seq (h _ fun _ h => h)

/-- A region that is followed by something. -/
theorem awp_reg_seq {id : Nat} {l : List Oper} {y : Code} (ts : List Nat) (h : ∀ K : St → Prop, (∀ s, AWp P nt y Q s → K s) → alist (aop P) nt l.toArray l st fun st' => K (st'.keep ts)) : AWp P nt (.seq (.region id l.toArray false) y) Q st :=
  awp_seq (awp_reg ts (h _ fun _ h => h))

/-- A region at a statement's end. -/
theorem awp_reg_end {id : Nat} {l : List Oper} (ts : List Nat) (h : ∀ K : St → Prop, (∀ s, Q .normal s → K s) → alist (aop P) nt l.toArray l st fun st' => K (st'.keep ts)) : AWp P nt (.region id l.toArray false) Q st :=
  awp_reg ts (h _ fun _ h => h)

/-- A branch. -/
theorem awp_if {t : Nat} {x y : Code} (b : Bool) (hb : st.tm t = bD b) (h1 : b = true → AWp P nt x Q st) (h2 : b = false → AWp P nt y Q st) : AWp P nt (.cond (.tmp t) x y) Q st :=
  awp_cond t rfl b hb h1 h2

/-- The state may be said weaker: fewer temporaries, objects left out or numbered anew. -/
theorem awp_cut {c : Code} (ts ids : List Nat) (hd : ids.Nodup) (hp : ∀ k, k < st.n0 → ids[k]? = some k) (h : AWp P nt c Q (st.cut ts ids)) : AWp P nt c Q st :=
  fun M H0 w0 w a hi => h M H0 w0 w a (hi.cut ts hd hp)

end

/-- The temporaries at a function's begin, as a list. -/
def startL : Nat → List D → List (Nat × D)
  | _, [] => []
  | k, d :: l => (k, d) :: startL (k + 1) l

theorem startL_eq : ∀ (l : List D) (k t : Nat), ofL (startL k l) t = if k ≤ t then l.getD (t - k) .none else .none
  | [], k, t => by simp [startL, ofL]
  | d :: l, k, t => by
    simp only [startL, ofL, startL_eq l (k + 1) t]
    by_cases h : k = t
    · subst h; simp
    · by_cases h2 : k + 1 ≤ t
      · rw [if_neg h, if_pos h2, if_pos (by omega), show t - k = (t - (k + 1)) + 1 by omega]
        simp
      · rw [if_neg h, if_neg h2, if_neg (by omega)]

theorem startTm_eq (args : List D) : startTm args = ofL (startL 0 args) := by
  funext t
  rw [startL_eq]
  simp [startTm]

/-- A function's contract by its body, what is asked at its end behind a name. -/
theorem acalls_fn {P : Program} {f : FuncId} {fn : Func} {c : Code} {args : List D} {obs : List Ob} {Q : D → List Ob → Prop} (ts : List Nat) {n : Nat}
    (hf : P.funcs[f]? = some fn) (hb : fn.body = some c) (hr : fn.results = (ts.map ResultVar.tmp).toArray) (hnt : fn.ntmps = n) (hn : args.length ≤ n) (hub : ∀ o, o ∈ obs → o ≠ .unborn)
    (h : ∀ R : Exit → St → Prop, (∀ st, Q (resD st ts) st.ob → R .ret st) → (∀ st, Q (resD st ts) st.ob → R .normal st) → AWp P n c R ⟨ofL (startL 0 args), obs, obs.length⟩) : ACalls P f args obs Q :=
  acalls_body ts hf hb hr hnt hn hub fun R h1 h2 => by rw [startTm_eq]; exact h R h1 h2

section
variable {P : Program} {nt : Nat} {ops : Array Oper} {o : Oper} {rest : List Oper} {K : St → Prop} {l : List (Nat × D)} {ob : List Ob} {n0 : Nat}

/-- An operation without a guard. -/
theorem al_run {t : Nat} (hg : o.guard = none) (hd : o.dst = some t) (ht : t < nt)
    (h : ∀ K' : D → St → Prop, (∀ d {l' : List (Nat × D)} ob', alist (aop P) nt ops rest ⟨ofL ((t, d) :: l'), ob', n0⟩ K → K' d ⟨ofL l', ob', n0⟩) → aop P o ⟨ofL l, ob, n0⟩ K') : alist (aop P) nt ops (o :: rest) ⟨ofL l, ob, n0⟩ K := by
  unfold alist
  rw [hg]
  dsimp only
  rw [hd]
  exact ⟨ht, h _ fun d _ ob' hx => hx⟩

/-- One without a result. -/
theorem al_do (hg : o.guard = none) (hd : o.dst = none)
    (h : ∀ K' : D → St → Prop, (∀ d {l' : List (Nat × D)} ob', alist (aop P) nt ops rest ⟨ofL l', ob', n0⟩ K → K' d ⟨ofL l', ob', n0⟩) → aop P o ⟨ofL l, ob, n0⟩ K') : alist (aop P) nt ops (o :: rest) ⟨ofL l, ob, n0⟩ K := by
  unfold alist
  rw [hg]
  dsimp only
  rw [hd]
  exact ⟨trivial, h _ fun d _ ob' hx => hx⟩

/-- A guarded one that is wanted. -/
theorem al_then {t j : Nat} {want : Bool} (hg : o.guard = some (j, want)) (hb : guardD ops ⟨ofL l, ob, n0⟩ j = bD want) (hd : o.dst = some t) (ht : t < nt)
    (h : ∀ K' : D → St → Prop, (∀ d {l' : List (Nat × D)} ob', alist (aop P) nt ops rest ⟨ofL ((t, d) :: l'), ob', n0⟩ K → K' d ⟨ofL l', ob', n0⟩) → aop P o ⟨ofL l, ob, n0⟩ K') : alist (aop P) nt ops (o :: rest) ⟨ofL l, ob, n0⟩ K := by
  unfold alist
  rw [hg]
  dsimp only
  rw [hb]
  dsimp only [bD]
  rw [hd]
  exact ⟨ht, fun _ => h _ fun d _ ob' hx => hx, fun e => by cases want <;> simp at e⟩

/-- A guarded one that is not. -/
theorem al_else {t j : Nat} {want : Bool} (hg : o.guard = some (j, want)) (hb : guardD ops ⟨ofL l, ob, n0⟩ j = bD (!want)) (hd : o.dst = some t) (ht : t < nt)
    (h : alist (aop P) nt ops rest ⟨ofL ((t, .p (.lit undef)) :: l), ob, n0⟩ K) : alist (aop P) nt ops (o :: rest) ⟨ofL l, ob, n0⟩ K := by
  unfold alist
  rw [hg]
  dsimp only
  rw [hb, hd]
  exact ⟨ht, fun e => by cases want <;> simp at e, fun _ => h⟩

theorem al_undef {t j : Nat} {want : Bool} (hg : o.guard = some (j, want)) (hb : guardD ops ⟨ofL l, ob, n0⟩ j = .p (.lit undef)) (hd : o.dst = some t) (ht : t < nt)
    (h : alist (aop P) nt ops rest ⟨ofL ((t, .p (.lit undef)) :: l), ob, n0⟩ K) : alist (aop P) nt ops (o :: rest) ⟨ofL l, ob, n0⟩ K := by
  unfold alist
  rw [hg]
  dsimp only
  rw [hb, hd]
  exact ⟨ht, h⟩

/-- A guard that is not decided yet. -/
theorem al_split {g j : Nat} {want : Bool} (b : Bool) (_hg : o.guard = some (j, want)) (_hgd : (ops[j]?).bind (·.dst) = some g) (hb : ofL l g = bD b)
    (h1 : b = true → alist (aop P) nt ops (o :: rest) ⟨ofL ((g, bD true) :: l), ob, n0⟩ K) (h2 : b = false → alist (aop P) nt ops (o :: rest) ⟨ofL ((g, bD false) :: l), ob, n0⟩ K) : alist (aop P) nt ops (o :: rest) ⟨ofL l, ob, n0⟩ K := by
  have same : ∀ c : Bool, b = c → ofL ((g, bD c) :: l) = ofL l := fun c hc => by
    subst hc
    funext k
    simp only [ofL]
    split
    · rename_i e; rw [← e, hb]
    · rfl
  cases b with
  | true => have := h1 rfl; rw [same true rfl] at this; exact this
  | false => have := h2 rfl; rw [same false rfl] at this; exact this

/-- What a step asks of its operation, in one equation each. -/
def gtD (nt : Nat) (o : Oper) : Option Nat := match o.guard, o.dst with
  | none, some t => bif Nat.blt t nt then some t else none
  | _, _ => none
def gtN (o : Oper) : Bool := match o.guard, o.dst with
  | none, none => true
  | _, _ => false
def gtG (nt : Nat) (o : Oper) : Option (Nat × Nat × Bool) := match o.guard, o.dst with
  | some (j, want), some t => bif Nat.blt t nt then some (t, j, want) else none
  | _, _ => none

theorem cond_some {α : Type} {b : Bool} {x y : α} (h : (bif b then some x else none) = some y) : b = true ∧ x = y := by
  cases b
  · cases h
  · cases h; exact ⟨rfl, rfl⟩
theorem lt_of_blt {a b : Nat} (h : Nat.blt a b = true) : a < b := by
  simpa [Nat.blt_eq] using h
theorem gtD_of {nt t : Nat} {o : Oper} (h : gtD nt o = some t) : o.guard = none ∧ o.dst = some t ∧ t < nt := by
  unfold gtD at h
  split at h
  · obtain ⟨hb, rfl⟩ := cond_some h
    exact ⟨by assumption, by assumption, lt_of_blt hb⟩
  · cases h
theorem gtN_of {o : Oper} (h : gtN o = true) : o.guard = none ∧ o.dst = none := by
  unfold gtN at h
  split at h
  · exact ⟨by assumption, by assumption⟩
  · cases h
theorem gtG_of {nt t j : Nat} {w : Bool} {o : Oper} (h : gtG nt o = some (t, j, w)) : o.guard = some (j, w) ∧ o.dst = some t ∧ t < nt := by
  unfold gtG at h
  split at h
  · obtain ⟨hb, e⟩ := cond_some h
    cases e
    exact ⟨by assumption, by assumption, lt_of_blt hb⟩
  · cases h

theorem al_r {t : Nat} (c : gtD nt o = some t)
    (h : ∀ K' : D → St → Prop, (∀ d {l' : List (Nat × D)} ob', alist (aop P) nt ops rest ⟨ofL ((t, d) :: l'), ob', n0⟩ K → K' d ⟨ofL l', ob', n0⟩) → aop P o ⟨ofL l, ob, n0⟩ K') : alist (aop P) nt ops (o :: rest) ⟨ofL l, ob, n0⟩ K :=
  al_run (gtD_of c).1 (gtD_of c).2.1 (gtD_of c).2.2 h
theorem al_d (c : gtN o = true)
    (h : ∀ K' : D → St → Prop, (∀ d {l' : List (Nat × D)} ob', alist (aop P) nt ops rest ⟨ofL l', ob', n0⟩ K → K' d ⟨ofL l', ob', n0⟩) → aop P o ⟨ofL l, ob, n0⟩ K') : alist (aop P) nt ops (o :: rest) ⟨ofL l, ob, n0⟩ K :=
  al_do (gtN_of c).1 (gtN_of c).2 h
theorem al_t {t j : Nat} {want : Bool} (c : gtG nt o = some (t, j, want)) (hb : guardD ops ⟨ofL l, ob, n0⟩ j = bD want)
    (h : ∀ K' : D → St → Prop, (∀ d {l' : List (Nat × D)} ob', alist (aop P) nt ops rest ⟨ofL ((t, d) :: l'), ob', n0⟩ K → K' d ⟨ofL l', ob', n0⟩) → aop P o ⟨ofL l, ob, n0⟩ K') : alist (aop P) nt ops (o :: rest) ⟨ofL l, ob, n0⟩ K :=
  al_then (gtG_of c).1 hb (gtG_of c).2.1 (gtG_of c).2.2 h
theorem al_e {t j : Nat} {want : Bool} (c : gtG nt o = some (t, j, want)) (hb : guardD ops ⟨ofL l, ob, n0⟩ j = bD (!want))
    (h : alist (aop P) nt ops rest ⟨ofL ((t, .p (.lit undef)) :: l), ob, n0⟩ K) : alist (aop P) nt ops (o :: rest) ⟨ofL l, ob, n0⟩ K :=
  al_else (gtG_of c).1 hb (gtG_of c).2.1 (gtG_of c).2.2 h
theorem al_u {t j : Nat} {want : Bool} (c : gtG nt o = some (t, j, want)) (hb : guardD ops ⟨ofL l, ob, n0⟩ j = .p (.lit undef))
    (h : alist (aop P) nt ops rest ⟨ofL ((t, .p (.lit undef)) :: l), ob, n0⟩ K) : alist (aop P) nt ops (o :: rest) ⟨ofL l, ob, n0⟩ K :=
  al_undef (gtG_of c).1 hb (gtG_of c).2.1 (gtG_of c).2.2 h
theorem al_s {g j : Nat} {want : Bool} (b : Bool) (hg : o.guard = some (j, want)) (hgd : (ops[j]?).bind (·.dst) = some g) (hb : ofL l g = bD b)
    (h1 : b = true → alist (aop P) nt ops (o :: rest) ⟨ofL ((g, bD true) :: l), ob, n0⟩ K) (h2 : b = false → alist (aop P) nt ops (o :: rest) ⟨ofL ((g, bD false) :: l), ob, n0⟩ K) : alist (aop P) nt ops (o :: rest) ⟨ofL l, ob, n0⟩ K :=
  al_split b hg hgd hb h1 h2

theorem al_nil (h : K ⟨ofL l, ob, n0⟩) : alist (aop P) nt ops [] ⟨ofL l, ob, n0⟩ K := h

end

theorem ofL_nil (t : Nat) : ofL [] t = .none := rfl
theorem ofL_cons (k t : Nat) (d : D) (l : List (Nat × D)) : ofL ((k, d) :: l) t = if k = t then d else ofL l t := rfl

attribute [go_sem] ofL_nil ofL_cons startL aop abinAll appendZ eqAgg eqCells abin intBin aunAll abuiltin mostD clearD copyD lookupD updateD appendIn zpv mget mset dstOk St.ev startTm Ab.cellsD okAll okParts cellOk liveAt ptrLive Ob.live St.put St.keep St.cut andThen inBlock guardD fieldD indexD derefD loadD storeD putAt toPV toPVs rowsD rowsOf lenD fillD partD boundD
  appendD Ab.constD Ab.constC resD cellOk0 renOb newObs D.map D.mapL ren1 idx back give give0 giveRow setAll merge Value.oneCell'
attribute [go_sem] List.getD_cons_zero List.getD_cons_succ List.getD_nil List.map_cons List.map_nil List.getElem?_cons_zero List.getElem?_cons_succ List.getElem?_nil List.length_cons List.length_nil List.cons_append List.nil_append List.append_nil
  List.take_succ_cons List.take_zero List.take_nil List.drop_succ_cons List.drop_zero List.drop_nil List.set_cons_zero List.set_cons_succ List.set_nil Option.map_some Option.map_none Option.bind_some Option.bind_none List.getElem?_toArray
  true_and and_true if_true if_false Bool.false_eq_true List.all_cons List.all_nil Bool.and_true Bool.true_and forall_const Option.getD_some Option.getD_none List.map_append List.length_append List.length_map List.drop_length Nat.add_zero Nat.zero_add
  Bool.not_true Bool.not_false false_implies true_implies implies_true List.length_set decide_true decide_false
attribute [go_sem] bytesD bytes_map

end Go.Ab

/- What a function has made may be frozen: from then on it is data. Calls of functions that hand out data alone. No program is named here. -/
namespace Go.Ab

/-- The state with some temporaries alone, some objects alone; rows that are not among them are data from here on. -/
def St.frz (ts ids : List Nat) (st : St) : St := ⟨ofL (ts.map fun t => (t, D.map (give ids st.ob) (st.tm t))), newObs st.ob ids, st.n0⟩

open Classical in
theorem Is.frz {M : En} {H0 : HV} {w0 : World} {nt : Nat} {st : St} {a : Act} {w : World} (h : Is M H0 w0 nt st a w) (ts : List Nat) {ids : List Nat} (hd : ids.Nodup) (hp : ∀ k, k < st.n0 → ids[k]? = some k) :
    Is M H0 w0 nt (st.frz ts ids) a w := by
  obtain ⟨H, loc, r⟩ := h
  let lent : Nat → Prop := fun b => ∃ (i : Nat) (o : Ob), st.ob[i]? = some o ∧ o.live = true ∧ (loc i).r = true ∧ i ∉ ids ∧ (loc i).b = b
  let Hc : HV := fun b => if lent b then (match w.heap[b]? with | some (.cells c _ _) => some c | _ => none) else H b
  have notLent : ∀ {b : Nat} {c : Array Value}, H b = some c → ¬ lent b := fun {b c} hb => by
    rintro ⟨i, o, hio, hl, hr, hni, rfl⟩
    rw [r.sr.apart i o hio hl hr] at hb; cases hb
  have hHc : HLe H Hc := fun b c hb => ⟨c, by simp only [Hc, if_neg (notLent hb)]; exact hb, fun _ _ h => h⟩
  have lentIds : ∀ {k : Nat} {o : Ob}, (newObs st.ob ids)[k]? = some o → o.live = true → (loc (ids.getD k 0)).r = true → ¬ lent (loc (ids.getD k 0)).b := by
    rintro k o hk hl hr ⟨i, o2, hio, hl2, hr2, hni, e⟩
    obtain ⟨j, o3, hj, rfl, hx2⟩ := newObs_of hk
    rw [renOb_live] at hl
    have hg : ids.getD k 0 = j := by simp [List.getD_eq_getElem?_getD, hj]
    rw [hg] at hr e
    rcases hx2 with hx2 | rfl
    · have := r.sr.inj i j o2 o3 hio hx2 hl2 hl hr2 hr e
      exact hni (this ▸ List.mem_of_getElem? hj)
    · cases hl
  have hsrc : Sr Hc (fun k => loc (ids.getD k 0)) (newObs st.ob ids) w := by
    have s0 := r.sr.ren hd
    refine ⟨fun b c hb => ?_, fun k o hk => ?_, fun k o hk hl hr => ?_, s0.inj⟩
    · simp only [Hc] at hb
      split at hb
      · cases hw : w.heap[b]? with
        | none => rw [hw] at hb; cases hb
        | some ob =>
          rw [hw] at hb
          cases ob <;> dsimp only at hb <;> try cases hb
          exact ⟨_, _, _, rfl, fun _ _ h => h⟩
      · exact r.sr.heap b c hb
    · exact Ob.holds_turn hHc (Turns.refl _ _) (fun _ => rfl) (s0.obj k o hk)
    · have h1 := s0.apart k o hk hl hr
      simp only [Hc, if_neg (lentIds hk hl hr)]
      exact h1
  have hrow : Leafy (giveRow ids st.ob) H Hc loc (fun k => loc (ids.getD k 0)) st.ob (newObs st.ob ids) := by
    intro v d hv n1 n2 n3
    have base : V Hc (fun k => loc (ids.getD k 0)) (newObs st.ob ids) v (ren1 ids d) := (leafy_ren H loc st.ob ids v d hv n1 n2 n3).turn hHc (Turns.refl _ _)
    by_cases hd' : ∃ id off len, d = .ref id off len ∧ idx ids id = none
    · obtain ⟨id, off, len, rfl, hid⟩ := hd'
      have hni := idx_none hid
      simp only [giveRow, hid]
      cases hv with
      | ref _ _ _ cap s xs hob hl hcap hx hr hn' =>
        simp only [hob]
        have hlent : lent (loc id).b := ⟨id, _, hob, rfl, hr, hni, rfl⟩
        rcases r.sr.obj id _ hob with ⟨h1, _⟩ | ⟨_, c, e, h1, h2, h3, h4, h5⟩
        · rw [hr] at h1; cases h1
        · have hHb : Hc (loc id).b = some c := by simp only [Hc, if_pos hlent, h1]
          have hlen : ((xs.drop off).take len).length = len := by simp; omega
          have hget : ∀ (k : Nat) z, ((xs.drop off).take len)[k]? = some z → xs[off + k]? = some z := fun k z hk => by
            rw [List.getElem?_take] at hk
            split at hk
            · rw [List.getElem?_drop] at hk; exact hk
            · cases hk
          have cellAt : ∀ (k : Nat) z, ((xs.drop off).take len)[k]? = some z → ∀ (j : Nat) y, z[j]? = some y → ∃ u, c[(loc id).o + off * s + k * s + j]? = some u ∧ u.oneCell' = true ∧ PVr H u y := fun k z hk j y hy => by
            obtain ⟨u, a1, a2, a3⟩ := h5 _ z (hget k z hk) j y hy
            exact ⟨u, by rw [show (loc id).o + off * s + k * s + j = (loc id).o + (off + k) * s + j by rw [Nat.add_mul]; omega]; exact a1, a2, a3⟩
          have hpv := PVr.sl (H := Hc) (loc id).b ((loc id).o + off * s) cap s c ((xs.drop off).take len) (fun k j => (c[(loc id).o + off * s + k * s + j]?).getD undef) hHb
            (fun z hz => h4 z (List.mem_of_mem_drop (List.mem_of_mem_take hz))) (by omega)
            (fun k z hk j y hy => by obtain ⟨u, a1, _⟩ := cellAt k z hk j y hy; rw [a1]; rfl)
            (fun k z hk j y hy => by obtain ⟨u, a1, a2, _⟩ := cellAt k z hk j y hy; rw [a1]; exact a2)
            (fun k z hk j y hy => by obtain ⟨u, a1, _, a3⟩ := cellAt k z hk j y hy; rw [a1]; exact a3.mono hHc)
          rw [hlen] at hpv
          exact .p _ _ hpv
      | ref0 b _ _ s xs hob hl =>
        simp only [hob]
        rw [List.take_zero]
        exact .p _ _ (.none _ _)
      | refGone v _ _ _ hob => simp only [hob]; exact .none _
    · have : giveRow ids st.ob d = ren1 ids d := by
        cases d <;> first | rfl | skip
        rename_i id off len
        simp only [giveRow, ren1]
        cases hid : idx ids id with
        | some k => rfl
        | none => exact absurd ⟨id, off, len, rfl, hid⟩ hd'
      rw [this]; exact base
  have hleaf : Leafy (give ids st.ob) H Hc loc (fun k => loc (ids.getD k 0)) st.ob (newObs st.ob ids) := by
    intro v d hv n1 n2 n3
    by_cases hd' : ∃ id i j, d = .ptr id i j ∧ idx ids id = none
    · obtain ⟨id, i, j, rfl, hid⟩ := hd'
      have hni := idx_none hid
      simp only [give, hid]
      cases hv with
      | ptr _ _ _ s xs hob => simp only [hob]; exact .none _
      | ptrGone _ _ _ _ hob => simp only [hob]; exact .none _
      | ptrBox _ _ cs hob =>
        simp only [hob]
        split
        · rename_i xs hxs
          obtain ⟨hr, c, e, h1, h2, h3, h5⟩ := r.sr.obj id _ hob
          have hlent : lent (loc id).b := ⟨id, _, hob, rfl, hr, hni, rfl⟩
          have hHb : Hc (loc id).b = some c := by simp only [Hc, if_pos hlent, h1]
          obtain ⟨hyl, hyg⟩ := toPVs_get hxs
          have cellAt : ∀ (k : Nat) y, xs[k]? = some y → ∃ u, c[(loc id).o + k]? = some u ∧ u.oneCell' = true ∧ PVr Hc u y := fun k y hy => by
            obtain ⟨d, hd1, hd2⟩ := hyg k y hy
            rw [List.getElem?_map] at hd1
            cases hck : cs[k]? with
            | none => rw [hck] at hd1; cases hd1
            | some d0 =>
              rw [hck] at hd1; cases hd1
              obtain ⟨u, a1, a2, a3⟩ := h5 k d0 hck
              have n1 : ∀ f c, d0 ≠ .fn f c := fun f c e => by subst e; simp [giveRow, ren1, toPV] at hd2
              have n2 : ∀ c, d0 ≠ .agg c := fun c e => by subst e; simp [giveRow, ren1, toPV] at hd2
              have n3 : ∀ c, d0 ≠ .tup c := fun c e => by subst e; simp [giveRow, ren1, toPV] at hd2
              exact ⟨u, a1, a2, toPV_of (hrow u d0 a3 n1 n2 n3) hd2⟩
          exact .rd (loc id).b (loc id).o c xs j (fun k => (c[(loc id).o + k]?).getD undef) hHb
            (fun k y hy => by obtain ⟨u, a1, _⟩ := cellAt k y hy; rw [a1]; rfl)
            (fun k y hy => by obtain ⟨u, a1, a2, _⟩ := cellAt k y hy; rw [a1]; exact a2)
            (fun k y hy => by obtain ⟨u, a1, _, a3⟩ := cellAt k y hy; rw [a1]; exact a3)
        · exact .none _
    by_cases hdg : ∃ id s off len, d = .gref id s off len ∧ idx ids id = none
    · obtain ⟨id, s, off, len, rfl, hid⟩ := hdg
      exact give_gref r.sr (fun i o hio hl hr hni c e f hw => by
        have hlent : lent (loc i).b := ⟨i, o, hio, hl, hr, hni, rfl⟩
        simp only [Hc, if_pos hlent, hw]) hrow hv hid
    by_cases hnil : d = .nil
    · subst hnil
      cases hv
      exact .p _ _ (.none _ _)
    · have : give ids st.ob d = giveRow ids st.ob d := by
        cases d <;> first | rfl | exact absurd rfl hnil | skip
        · rename_i id i j
          simp only [give, giveRow, ren1]
          cases hid : idx ids id with
          | some k => rfl
          | none => exact absurd ⟨id, i, j, rfl, hid⟩ hd'
        · rename_i id s off len
          simp only [give, giveRow, ren1]
          cases hid : idx ids id with
          | some k => rfl
          | none => exact absurd ⟨id, s, off, len, rfl, hid⟩ hdg
      rw [this]; exact hrow v d hv n1 n2 n3
  refine ⟨Hc, fun k => loc (ids.getD k 0), hsrc, fun t => ?_, r.sz, r.df, ⟨r.gr.os, r.gr.tape, r.gr.output, r.gr.size, r.gr.kept, r.gr.more.trans hHc, fun b c hb => ?_⟩, fun k o ho hv hr => ?_, r.n0, fun k o ho => ?_⟩
  · have e : (st.frz ts ids).tm t = keepTm ts (fun t => D.map (give ids st.ob) (st.tm t)) t := rfl
    rw [e]
    rcases keepTm_is ts (fun t => D.map (give ids st.ob) (st.tm t)) t with h | h
    · rw [h]; exact (r.tm t).map hleaf
    · rw [h]; exact .none _
  · by_cases hl : lent b
    · obtain ⟨i, o, hio, hlv, hr, hni, rfl⟩ := hl
      rcases r.own i o hio hlv hr with h1 | h1
      · exact .inr (.inr h1)
      · exact .inr (.inl h1)
    · simp only [Hc, if_neg hl] at hb
      exact r.gr.new b c hb
  · obtain ⟨i, o', hi, rfl, hx⟩ := newObs_of ho
    rw [renOb_live] at hv
    have hl : loc (ids.getD k 0) = loc i := by simp [List.getD_eq_getElem?_getD, hi]
    have hr2 : (loc (ids.getD k 0)).r = true := hr
    show M.M (loc (ids.getD k 0)).b ∨ _ ≤ (loc (ids.getD k 0)).b
    rw [hl] at hr2 ⊢
    rcases hx with hx | rfl
    · exact r.own i o' hx hv hr2
    · cases hv
  · have hk : k < st.n0 := by
      rw [← r.n0]
      rcases Nat.lt_or_ge k M.ob.length with h' | h'
      · exact h'
      · simp [List.getElem?_eq_none h'] at ho
    have hk2 := hp k hk
    have hl : loc (ids.getD k 0) = loc k := by simp [List.getD_eq_getElem?_getD, hk2]
    rcases r.ent k o ho with h1 | ⟨o', h1, h2, h3⟩
    · exact .inl (newObs_get hk2 h1)
    · refine .inr ⟨_, newObs_get hk2 h1, ?_, ?_⟩
      · cases o' <;> cases o <;> simp_all [Ob.sameShape, renOb, D.mapL_eq]
      · show loc (ids.getD k 0) = _
        rw [hl]; exact h3

theorem awp_frz {P : Program} {nt : Nat} {Q : Exit → St → Prop} {st : St} {c : Code} (ts ids : List Nat) (hd : ids.Nodup) (hp : ∀ k, k < st.n0 → ids[k]? = some k) (h : AWp P nt c Q (st.frz ts ids)) : AWp P nt c Q st :=
  fun M H0 w0 w a hi => h M H0 w0 w a (hi.frz ts hd hp)

/-- A function that takes data and hands out data. -/
def ACallP (P : Program) (f : FuncId) (args : List D) (r : D) : Prop := ACalls P f args [] fun r' obs' => r' = r ∧ obs' = []

/-- Such a function, by its body: at its end all is frozen. -/
theorem acallp_fn {P : Program} {f : FuncId} {fn : Func} {c : Code} {args : List D} {r : D} (ts : List Nat) {n : Nat}
    (hf : P.funcs[f]? = some fn) (hb : fn.body = some c) (hr : fn.results = (ts.map ResultVar.tmp).toArray) (hnt : fn.ntmps = n) (hn : args.length ≤ n)
    (h : ∀ R : Exit → St → Prop, (∀ e st, (e = .ret ∨ e = .normal) → st.n0 = 0 → resD (st.frz ts []) ts = r → R e st) → AWp P n c R ⟨ofL (startL 0 args), [], 0⟩) : ACallP P f args r := by
  refine acalls_fn ts hf hb hr hnt hn (fun o ho => by cases ho) fun R h1 h2 => ?_
  have := h (fun e st => ((e = .ret ∨ e = .normal) ∧ st.n0 = 0 ∧ resD (st.frz ts []) ts = r)) (fun e st a b c => ⟨a, b, c⟩)
  intro M H0 w0 w a hi
  refine wp_mono (this M H0 w0 w a hi) ?_
  rintro e a' w' ⟨st', ⟨he, hn0, hq⟩, hi'⟩
  refine ⟨st'.frz ts [], ?_, hi'.frz ts List.nodup_nil (fun k hk => by rw [hn0] at hk; omega)⟩
  rcases he with rfl | rfl
  · exact h1 _ ⟨hq, rfl⟩
  · exact h2 _ ⟨hq, rfl⟩

/-- A function that takes data and pointers to objects, which are at its end as they were, and hands out data. -/
def ACallO (P : Program) (f : FuncId) (args : List D) (obs : List Ob) (r : D) : Prop := ACalls P f args obs fun r' obs' => r' = r ∧ obs' = obs

theorem ACallO.p {P : Program} {f : FuncId} {args : List D} {r : D} (h : ACallO P f args [] r) : ACallP P f args r := h
theorem ACallP.o {P : Program} {f : FuncId} {args : List D} {r : D} (h : ACallP P f args r) : ACallO P f args [] r := h

theorem acallo_fn {P : Program} {f : FuncId} {fn : Func} {c : Code} {args : List D} {obs : List Ob} {r : D} (ts ids : List Nat) {n : Nat}
    (hf : P.funcs[f]? = some fn) (hb : fn.body = some c) (hr : fn.results = (ts.map ResultVar.tmp).toArray) (hnt : fn.ntmps = n) (hn : args.length ≤ n) (hub : ∀ o, o ∈ obs → o ≠ .unborn) (hd : ids.Nodup) (hp : ∀ k, k < obs.length → ids[k]? = some k)
    (h : ∀ R : Exit → St → Prop, (∀ e st, (e = .ret ∨ e = .normal) → st.n0 = obs.length → resD (st.frz ts ids) ts = r → newObs st.ob ids = obs → R e st) → AWp P n c R ⟨ofL (startL 0 args), obs, obs.length⟩) : ACallO P f args obs r := by
  refine acalls_fn ts hf hb hr hnt hn hub fun R h1 h2 => ?_
  have := h (fun e st => ((e = .ret ∨ e = .normal) ∧ st.n0 = obs.length ∧ resD (st.frz ts ids) ts = r ∧ newObs st.ob ids = obs)) (fun e st a b c d => ⟨a, b, c, d⟩)
  intro M H0 w0 w a hi
  refine wp_mono (this M H0 w0 w a hi) ?_
  rintro e a' w' ⟨st', ⟨he, hn0, hq, ho⟩, hi'⟩
  refine ⟨st'.frz ts ids, ?_, hi'.frz ts hd (fun k hk => hp k (by rw [hn0] at hk; exact hk))⟩
  rcases he with rfl | rfl
  · exact h1 _ ⟨hq, ho⟩
  · exact h2 _ ⟨hq, ho⟩

section
variable {P : Program} {f : FuncId} {caps args : List D} {st : St} {r : D} {K : D → St → Prop}

/-- A call of such a function with data. -/
theorem acall_p {args' : List D} (hc : ∀ args w, (callFunc f args).run P w = .ok (.enter f args) w) (h : ACallP P f args' r) (e : (args ++ caps).map (D.map (ren1 [])) = args') (hr : D.map (back [] st.ob.length) r = r) (k : K r st) : AC P st (.fn f caps) args K := by
  subst e
  refine .mk ⟨hc, [], _, List.nodup_nil, fun i hi => (by cases hi), .inl ⟨h, ?_⟩⟩
  rintro r' obs' ⟨rfl, rfl⟩
  refine ⟨Nat.le_refl _, ?_⟩
  rw [hr]
  simpa [merge, setAll] using k

/-- A call with data and pointers to objects, which are then as they were. -/
theorem acall_o {args' : List D} {obs : List Ob} (ids : List Nat) (hc : ∀ args w, (callFunc f args).run P w = .ok (.enter f args) w) (h : ACallO P f args' obs r) (e : (args ++ caps).map (D.map (ren1 ids)) = args') (hob : newObs st.ob ids = obs)
    (hm : merge st.ob ids obs = st.ob) (hd : ids.Nodup) (hlt : ∀ i, i ∈ ids → i < st.ob.length) (hl : ids.length ≤ obs.length) (hr : D.map (back ids st.ob.length) r = r) (k : K r st) : AC P st (.fn f caps) args K := by
  subst e
  subst hob
  refine .mk ⟨hc, ids, _, hd, hlt, .inl ⟨h, ?_⟩⟩
  rintro r' obs' ⟨rfl, rfl⟩
  refine ⟨hl, ?_⟩
  rw [hr, hm]
  exact k

/-- A call with rows of the caller's, lent for this call: what comes back is flat. -/
theorem acall_g {args' : List D} (hc : ∀ args w, (callFunc f args).run P w = .ok (.enter f args) w) (h : ACallP P f args' r) (e : (args ++ caps).map (D.map (give [] st.ob)) = args') (hr : D.map (back [] st.ob.length) r = r) (hf : D.all flatL r) (k : K r st) : AC P st (.fn f caps) args K := by
  subst e
  refine .mk ⟨hc, [], _, List.nodup_nil, fun i hi => (by cases hi), .inr ⟨h, ?_⟩⟩
  rintro r' obs' ⟨rfl, rfl⟩
  refine ⟨Nat.le_refl _, hf, fun o ho => (by cases ho), ?_⟩
  rw [hr]
  simpa [merge, setAll] using k

end

def toQ (s1 : St) : Exit → St → Prop
  | .normal, s => s1 = s
  | _, _ => False

/-- A region, the state behind it told. -/
theorem awp_reg_to {P : Program} {nt : Nat} {Q : Exit → St → Prop} {st : St} {id : Nat} {l : List Oper} {y : Code} (ts : List Nat) (s1 : St) (h : alist (aop P) nt l.toArray l st fun st' => s1 = st'.keep ts) (k : AWp P nt y Q s1) : AWp P nt (.seq (.region id l.toArray false) y) Q st :=
  awp_seq ((awp_reg (Q := toQ s1) ts h).mono fun e s hs => by
    cases e with
    | normal => cases hs; exact k
    | _ => exact hs.elim)

theorem awp_reg_end_to {P : Program} {nt : Nat} {Q : Exit → St → Prop} {st : St} {id : Nat} {l : List Oper} (ts : List Nat) (s1 : St) (h : alist (aop P) nt l.toArray l st fun st' => s1 = st'.keep ts) (k : Q .normal s1) : AWp P nt (.region id l.toArray false) Q st :=
  (awp_reg (Q := toQ s1) ts h).mono fun e s hs => by
    cases e with
    | normal => cases hs; exact k
    | _ => exact hs.elim

/-- Memory, as data. -/
def hvOf (w : World) : HV := fun b => match w.heap[b]? with | some (.cells c _ _) => some c | _ => none

/-- A function's contract at a world: nothing of it has turned. -/
theorem ACallP.walk {P : Program} {f : FuncId} {args : List D} {r : D} (h : ACallP P f args r) (w : World) (vs : Array Value) (hn : vs.size = args.length)
    (hv : ∀ (i : Nat) v d, vs[i]? = some v → args[i]? = some d → V (hvOf w) (fun _ => ⟨0, 0, 0, false⟩) [] v d) :
    Calls P f vs w fun e w' => (∃ v H' loc', e = .returned v ∧ V H' loc' [] v r) ∧ Go.RowKit.Below w.heap.size w w' := by
  refine (h (hvOf w) (fun _ => ⟨0, 0, 0, false⟩) w vs ⟨fun b c hb => ?_, fun i o hi => (by cases hi), fun i o hi => (by cases hi), fun i j o o' hi => by cases hi⟩ hn hv).mono ?_
  · simp only [hvOf] at hb
    cases hw : w.heap[b]? with
    | none => rw [hw] at hb; cases hb
    | some ob =>
      rw [hw] at hb
      cases ob <;> dsimp only at hb <;> try cases hb
      exact ⟨_, _, _, rfl, fun _ _ h => h⟩
  · rintro e w' ⟨v, H', loc', r', obs', ⟨rfl, rfl⟩, he, hv', _, gr, _⟩
    exact ⟨⟨v, H', loc', he, hv'⟩, gr.os, gr.tape, gr.output, gr.size, fun k hk => gr.kept k hk (by rintro ⟨i, o, h1, _⟩; cases h1)⟩


attribute [go_sem] St.frz

end Go.Ab

/- Regions that draw the order of their operations: operations that only read data may be taken first. No program is named here. -/
namespace Go.Ab

/-- A world in which all of this data stands. -/
def SofH (H : HV) (w : World) : Prop := ∀ b c, H b = some c → ∃ c' e f, w.heap[b]? = some (.cells c' e f) ∧ ∀ (i : Nat) v, c[i]? = some v → c'[i]? = some v

theorem SofH.le {H H' : HV} {w : World} (h : SofH H' w) (hle : HLe H H') : SofH H w := fun b c hb => by
  obtain ⟨c1, h1, h2⟩ := hle b c hb
  obtain ⟨c', e, f, h3, h4⟩ := h b c1 h1
  exact ⟨c', e, f, h3, fun i v hi => h4 i v (h2 i v hi)⟩

section
variable {M : En} {H0 H H' : HV} {w0 w w' : World} {nt : Nat} {loc loc' : Nat → Loc} {st st' : St} {a a' : Act}

/-- The frame, begun anew. -/
def En.anew (M : En) (st : St) (loc : Nat → Loc) : En := ⟨fun b => ∃ (i : Nat) (o : Ob), st.ob[i]? = some o ∧ o.live = true ∧ (loc i).r = true ∧ (loc i).b = b, M.ob, M.loc⟩

theorem Rel.anew (r : Rel M H0 w0 nt H loc w st a) : Rel (M.anew st loc) H w nt H loc w st a :=
  ⟨r.sr, r.tm, r.sz, r.df, .refl _ _ _, fun i o ho hl hr => .inl ⟨i, o, ho, hl, hr, rfl⟩, r.n0, r.ent⟩

theorem Rel.back_anew (r : Rel M H0 w0 nt H loc w st a) (r' : Rel (M.anew st loc) H w nt H' loc' w' st' a') : Rel M H0 w0 nt H' loc' w' st' a' := by
  have hM : ∀ b, (M.anew st loc).M b → M.M b ∨ w0.heap.size ≤ b := by
    rintro b ⟨i, o, ho, hl, hr, rfl⟩
    exact r.own i o ho hl hr
  refine ⟨r'.sr, r'.tm, r'.sz, r'.df, r.gr.trans r'.gr hM, fun i o ho hl hr => ?_, r'.n0, r'.ent⟩
  rcases r'.own i o ho hl hr with h | h
  · exact hM _ h
  · exact .inr (Nat.le_trans r.gr.size h)

end

theorem wpAnyH_monoS {P : Program} {md : Region.Mode} {ops : Array Oper} {Q : Exit → Act → World → Prop} {S S' : World → Prop} (hS : ∀ w, S' w → S w) :
    ∀ (fuel : Nat) (listed : Array Bool) (a : Act) (w : World), wpAnyH P md ops Q S' fuel listed a w → wpAnyH P md ops Q S fuel listed a w
  | 0, _, _, _, h => h
  | fuel + 1, _, _, _, h => ⟨h.1, fun i hi => wpOp_mono (fun a' w' h' => ⟨hS _ h'.1, wpAnyH_monoS hS fuel _ a' w' h'.2⟩) (h.2 i hi)⟩

/-- Whatever order is drawn from here on, told of abstract states. -/
def AH (P : Program) (nt : Nat) (md : Region.Mode) (ops : Array Oper) (K : St → Prop) (fuel : Nat) (listed : Array Bool) (st : St) : Prop :=
  ∀ M H0 w0 w a, Is M H0 w0 nt st a w → ∀ Q : Exit → Act → World → Prop, (∀ c a a' w, Q (.panic c) a w → Q (.panic c) a' w) →
    (∀ st' a' w', K st' → Is M H0 w0 nt st' a' w' → Q .normal a' w') → wpAnyH P md ops Q (SofH H0) fuel listed a w

section
variable {P : Program} {nt : Nat} {md : Region.Mode} {ops : Array Oper} {K : St → Prop} {fuel : Nat} {listed : Array Bool} {st : St}

theorem ah_done (hr : Region.ready md ops listed = []) (k : K st) : AH P nt md ops K fuel listed st :=
  fun _ _ _ _ _ hi _ _ hn => wpAnyH_done hr (hn _ _ _ k hi) fuel

/-- What only reads data answers one value, whatever else comes up before. -/
def Qt (P : Program) (nt : Nat) (ops : Array Oper) (o : Oper) (st : St) (K : D → Prop) : Prop :=
  ∀ M H0 w0 H loc w a, Rel M H0 w0 nt H loc w st a → ∃ v d, K d ∧ V H loc st.ob v d ∧ YieldsIf P ops (SofH H) o v a

theorem ah_first {i : Nat} {o : Oper} (hi : ops[i]? = some o) (hs : Region.noSelect ops = true) (hf : Region.free md ops listed i = true) (hr : (Region.ready md ops listed).contains i = true)
    (hd : dstOk nt o.dst) (hq : Qt P nt ops o st fun d => AH P nt md ops K fuel (listed.setIfInBounds i true) (st.put o.dst d)) : AH P nt md ops K (fuel + 1) listed st := by
  rintro M H0 w0 w a ⟨H, loc, r⟩ Q hQ hn
  obtain ⟨v, d, hk, hv, hy⟩ := hq M H0 w0 H loc w a r
  refine wpAnyH_monoS (S' := SofH H) (fun w h => SofH.le h r.gr.more) _ _ _ _ ?_
  refine wpAnyH_take hi hs hf hr (fun c a w h => hQ c _ _ w h) hy (fun b c hb => r.sr.heap b c hb) ?_
  refine hk _ _ _ _ _ ⟨H, loc, r.anew.put hd hv⟩ Q hQ ?_
  rintro st' a' w' k ⟨H', loc', r'⟩
  exact hn st' a' w' k ⟨H', loc', r.back_anew r'⟩

theorem alist_one {o : Oper} {K1 : St → Prop} (h : alist (aop P) nt ops [o] st K1) {M : En} {H0 : HV} {w0 w : World} {a : Act} (hi : Is M H0 w0 nt st a w) {next : Act → World → Prop} {Q : Exit → Act → World → Prop}
    (hn : ∀ st' a' w', K1 st' → Is M H0 w0 nt st' a' w' → next a' w') :
    if Region.wanted o (yielded ops a.tmps) then o.wp P a w next Q ∨ (o.asks P a w ∧ LetsOut Q) else next (a.put o.dst undef) w := by
  have goOn : ∀ st', dstOk nt o.dst → ∀ v d H loc w', alist (aop P) nt ops [] (st'.put o.dst d) K1 → Rel M H0 w0 nt H loc w' st' a → V H loc st'.ob v d → next (a.put o.dst v) w' :=
    fun st' hd v d H loc w' hk r hv => hn _ _ _ hk ⟨H, loc, r.put hd hv⟩
  have run : dstOk nt o.dst → (aop P o st fun d st' => alist (aop P) nt ops [] (st'.put o.dst d) K1) → o.wp P a w next Q := fun hd ha =>
    aop_sound ha M H0 w0 w a hi _ _ fun d st' v w' H loc hk r hv => goOn st' hd v d H loc w' hk r hv
  have skip : dstOk nt o.dst → alist (aop P) nt ops [] (st.put o.dst (.p (.lit undef))) K1 → next (a.put o.dst undef) w := fun hd ha => by
    obtain ⟨H, loc, r⟩ := hi
    exact goOn st hd undef _ H loc w ha r (.p _ _ (.lit _))
  have hi2 := hi
  obtain ⟨H, loc, r⟩ := hi2
  unfold alist at h
  cases hg : o.guard with
  | none =>
    rw [hg] at h
    rw [if_pos (by simp [Region.wanted, hg])]
    exact .inl (run h.1 h.2)
  | some jw =>
    obtain ⟨j, want⟩ := jw
    rw [hg] at h
    dsimp only at h
    split at h
    · rename_i b hb
      have hy := yielded_of r hb
      dsimp only at hy
      simp only [Region.wanted, hg, hy]
      by_cases e : b = want
      · subst e; simp only [beq_self_eq_true, if_true]; exact .inl (run h.1 (h.2.1 rfl))
      · have e' : b = !want := by cases b <;> cases want <;> simp_all
        have : (some b == some want) = false := by subst e'; cases want <;> rfl
        rw [this]
        exact skip h.1 (h.2.2 e')
    · rename_i vs hb
      have hy := yielded_of r hb
      dsimp only at hy
      simp only [Region.wanted, hg, hy]
      exact skip h.1 h.2
    · exact h.elim

theorem ah_all {rs : List Nat} (hr : Region.ready md ops listed = rs) (hne : rs ≠ [])
    (h : ∀ i, i ∈ rs → ∃ o, ops[i]? = some o ∧ alist (aop P) nt ops [o] st fun st' => AH P nt md ops K fuel (listed.setIfInBounds i true) st') : AH P nt md ops K (fuel + 1) listed st := by
  rintro M H0 w0 w a hi Q hQ hn
  refine wpAnyH_all hr hne fun i him => ?_
  obtain ⟨o, ho, hal⟩ := h i him
  unfold Go.wpOp
  simp only [ho]
  refine alist_one hal hi ?_
  rintro st' a' w' hk hi'
  refine ⟨?_, hk M H0 w0 w' a' hi' Q hQ hn⟩
  obtain ⟨H', loc', r'⟩ := hi'
  exact SofH.le (H' := H') (fun b c hb => r'.sr.heap b c hb) r'.gr.more

theorem ah_one (i : Nat) {o : Oper} (ho : ops.toList[i]? = some o) (hr : Region.ready md ops listed = [i]) (h : alist (aop P) nt ops [o] st fun st' => AH P nt md ops K fuel (listed.setIfInBounds i true) st') : AH P nt md ops K (fuel + 1) listed st :=
  ah_all hr (by simp) fun j hj => by
    rw [List.mem_singleton] at hj; subst hj; exact ⟨o, by rw [← Array.getElem?_toList]; exact ho, h⟩

theorem ah_two (i j : Nat) {o o' : Oper} (ho : ops.toList[i]? = some o) (ho' : ops.toList[j]? = some o') (hr : Region.ready md ops listed = [i, j]) (h : alist (aop P) nt ops [o] st fun st' => AH P nt md ops K fuel (listed.setIfInBounds i true) st')
    (h' : alist (aop P) nt ops [o'] st fun st' => AH P nt md ops K fuel (listed.setIfInBounds j true) st') : AH P nt md ops K (fuel + 1) listed st :=
  ah_all hr (by simp) fun k hk => by
    simp only [List.mem_cons, List.not_mem_nil, or_false] at hk
    rcases hk with rfl | rfl
    · exact ⟨o, by rw [← Array.getElem?_toList]; exact ho, h⟩
    · exact ⟨o', by rw [← Array.getElem?_toList]; exact ho', h'⟩

end

/-- A region that draws its order, followed by something. -/
theorem awp_draw {P : Program} {nt : Nat} {Q : Exit → St → Prop} {st : St} {id : Nat} {l : List Oper} (hm : P.follows .mixedOrders = true) (ts : List Nat)
    (h : ∀ K : St → Prop, (∀ s, Q .normal s → K s) → AH P nt .any l.toArray (fun st' => K (st'.keep ts)) l.length (Array.replicate l.length false) st) : AWp P nt (.region id l.toArray true) Q st := by
  rintro M H0 w0 w a ⟨H, loc, r⟩
  refine wp_mono (Q := fun e a w => e = .normal ∧ ∃ st', Q .normal st' ∧ Is M H0 w0 nt st' a w) (wp_region_held hm (S := SofH H0) ?_) ?_
  · refine h (fun s => Q .normal s) (fun s h => h) M H0 w0 _ a ⟨H, loc, r.drew⟩ _ (fun c a a' w h => by cases h.1) ?_
    intro st' a' w' k i
    exact ⟨rfl, _, k, i.keep ts⟩
  · rintro e a' w' ⟨rfl, st', h1, h2⟩
    exact ⟨st', h1, h2⟩

theorem awp_draw_seq {P : Program} {nt : Nat} {Q : Exit → St → Prop} {st : St} {id : Nat} {l : List Oper} {y : Code} (hm : P.follows .mixedOrders = true) (ts : List Nat)
    (h : ∀ K : St → Prop, (∀ s, AWp P nt y Q s → K s) → AH P nt .any l.toArray (fun st' => K (st'.keep ts)) l.length (Array.replicate l.length false) st) : AWp P nt (.seq (.region id l.toArray true) y) Q st :=
  awp_seq (awp_draw hm ts h)

end Go.Ab

/- Operations that only read data: they may be taken first in a region that draws its order. No program is named here. -/
namespace Go.Ab

/-- An operation that only reads data. -/
def qop (P : Program) (o : Oper) (st : St) (K : D → Prop) : Prop :=
  match o.op with
  | .move x => K (st.ev x)
  | .assign x => K (st.ev x)
  | .pick c x y => match st.ev c with | .p (.lit (.bool t)) => (t = true → K (st.ev x)) ∧ (t = false → K (st.ev y)) | _ => False
  | .extract x i => match st.ev x with | .tup ds => (match ds[i]? with | some d => K d | none => False) | _ => False
  | .binOp op t x y _ => ∃ v0, abinAll P op t (st.ev x) (st.ev y) (fun d => d = .p (.lit v0)) ∧ K (.p (.lit v0))
  | .unOp op _ x => ∃ v0, aunAll op (st.ev x) (fun d => d = .p (.lit v0)) ∧ K (.p (.lit v0))
  | .fieldAddr s x f => match fdO P s f with | some off => (match fieldD off (st.ev x) with | some r => ptrLive st.ob (st.ev x) ∧ K r | none => False) | none => False
  | .indexAddr t x ix =>
    match st.ev ix with
    | .p (.lit (.int _ i)) =>
      (match arO P t with
      | some (n, m) => 0 ≤ i ∧ i < (n : Int) ∧ ptrLive st.ob (st.ev x) ∧ (match fieldD (i.toNat * m) (st.ev x) with | some r => K r | none => False)
      | none => match elO P t with | some (s, _) => indexD st.ob s i K (st.ev x) | none => False)
    | _ => False
  | .load t x =>
    match tyO P t, st.ev x with
    | some (g, n), .rd y j => (match loadD g n ((y.drop j).map .p) with | some r => K r | none => False)
    | _, _ => False
  | .call c =>
    match c.callee, c.argTypes.toList, c.args.toList.map st.ev with
    | .builtin .len, [t], [x] =>
      (match P.underlying t, lenD st.ob x with
      | some (.slice _), some n => (∀ s, x ≠ .p (.lit (.string s))) ∧ K (iD n)
      | some .string, some n => (∃ s, x = .p (.lit (.string s))) ∧ K (iD n)
      | _, _ => False)
    | _, _, _ => False
  | .convert src dst x =>
    match P.underlying src, P.underlying dst, st.ev x with
    | some (.int _), some (.int k), .p (.lit (.int _ n)) => K (.p (.lit (.int k (k.wrap n))))
    | _, _, _ => False
  | _ => False

section
variable {P : Program} {nt : Nat} {ops : Array Oper} {o : Oper} {st : St} {K : D → Prop}

/-- A load of data. -/
theorem load_rd {H : HV} {loc : Nat → Loc} {obs : List Ob} {v : Value} {x : List PV} {j : Nat} (hv : V H loc obs v (.rd x j)) {t : TypeId} {g : Bool} {n : Nat} (ht : tyO P t = some (g, n)) {r : D}
    (hl : loadD g n ((x.drop j).map .p) = some r) : ∃ u, (∀ w, SofH H w → (Instr.loadAt t v).run P w = .ok u w) ∧ V H loc obs u r := by
  cases hv with
  | rd b o c _ _ gv hb hc h1 hr =>
    have cell : ∀ w, SofH H w → ∀ (k : Nat) y, x[j + k]? = some y → w.cell? ⟨b, o + j + k, none⟩ = some (gv (j + k)) := fun w hs k y hy => by
      obtain ⟨c', e, f, h2, h3⟩ := hs b c hb
      have := h3 _ _ (hc _ _ hy)
      simp only [World.cell?, h2]
      rw [show o + j + k = o + (j + k) by omega]; exact this
    unfold loadD at hl
    cases g with
    | true =>
      simp only [if_true] at hl
      split at hl
      · rename_i hn
        cases hl
        simp only [List.length_map, List.length_drop] at hn
        have hget : ∀ k, k < n → ∃ y, x[j + k]? = some y := fun k hk => ⟨_, List.getElem?_eq_getElem (by omega)⟩
        refine ⟨.agg ((List.range n).map fun k => gv (j + k)).toArray, fun w hs => ?_, ?_⟩
        · have ha := (run_isAgg_of ht w).1
          have hz := (run_isAgg_of ht w).2
          have hrun : (loadCells ⟨b, o + j, none⟩ n).run P w = .ok ((List.range n).map fun k => gv (j + k)).toArray w :=
            run_loadCells w _ n _ (fun k hk => by rw [Addr.add_lit]; obtain ⟨y, hy⟩ := hget k hk; exact cell w hs k y hy)
          simp only [Instr.loadAt, Instr.sureAddr, loadVar, pure_bind, Sem.run_bind, ha, hz, Result.andThen_ok, if_true, hrun, Sem.run_pure]
        · refine .agg _ _ (by simp; omega) fun k u y hu hy => ?_
          have hk : k < n := by
            rcases Nat.lt_or_ge k n with h | h
            · exact h
            · simp [List.getElem?_take, Nat.not_lt.2 h] at hy
          rw [List.getElem?_take, if_pos hk, List.getElem?_map, List.getElem?_drop] at hy
          simp [hk] at hu
          subst hu
          obtain ⟨y2, hy2⟩ := hget k hk
          rw [hy2] at hy; cases hy
          exact .p _ _ (hr _ _ hy2)
      · cases hl
    | false =>
      simp only [Bool.false_eq_true, if_false, List.getElem?_map, List.getElem?_drop] at hl
      cases hy : x[j + 0]? with
      | none => rw [hy] at hl; cases hl
      | some y =>
        rw [hy] at hl; cases hl
        refine ⟨gv (j + 0), fun w hs => ?_, .p _ _ (hr _ _ hy)⟩
        have ha := (run_isAgg_of ht w).1
        have := cell w hs 0 y hy
        simp only [Instr.loadAt, Instr.sureAddr, loadVar, pure_bind, Sem.run_bind, ha, Result.andThen_ok, Bool.false_eq_true, if_false, run_load]
        rw [show o + j + 0 = o + j from rfl] at this
        rw [this]

theorem qop_run (h : qop P o st K) {M : En} {H0 H : HV} {w0 w : World} {loc : Nat → Loc} {a : Act} (r : Rel M H0 w0 nt H loc w st a) :
    ∃ v d, K d ∧ V H loc st.ob v d ∧ ∀ w', SofH H w' → (execOp a.eval o).run P w' = .ok (.value v) w' := by
  unfold qop at h
  split at h
  · rename_i x ho
    exact ⟨_, _, h, r.ev x, fun w' _ => by simp only [execOp, ho, Sem.run_pure]⟩
  · rename_i x ho
    exact ⟨_, _, h, r.ev x, fun w' _ => by simp only [execOp, ho, Sem.run_pure]⟩
  · rename_i c x y ho
    split at h
    · rename_i t ht
      have hc := r.ev c
      rw [ht] at hc
      cases t with
      | true => exact ⟨_, _, h.1 rfl, r.ev x, fun w' _ => by simp only [execOp, ho, hc.lit_inv, asBool, pure_bind, if_true, Sem.run_pure]⟩
      | false => exact ⟨_, _, h.2 rfl, r.ev y, fun w' _ => by simp only [execOp, ho, hc.lit_inv, asBool, pure_bind, Bool.false_eq_true, if_false, Sem.run_pure]⟩
    · exact h.elim
  · rename_i x i ho
    split at h
    · rename_i ds hx
      split at h
      · rename_i d hd
        have hv := r.ev x
        rw [hx] at hv
        generalize hvx : a.eval x = vx at hv
        cases hv with
        | tup vs _ hn hc =>
          have hlt : i < vs.size := by
            rcases Nat.lt_or_ge i ds.length with h' | h'
            · omega
            · simp [List.getElem?_eq_none h'] at hd
          refine ⟨vs[i], d, h, hc i _ d (Array.getElem?_eq_getElem hlt) hd, fun w' _ => ?_⟩
          simp only [execOp, ho, hvx, Instr.extract, Array.getElem?_eq_getElem hlt, Sem.run_bind, Sem.run_pure, Result.andThen_ok]
      · exact h.elim
    · exact h.elim
  · rename_i op t x y yt ho
    obtain ⟨v0, h, hk⟩ := h
    refine ⟨v0, _, hk, .p _ _ (.lit _), fun w' _ => ?_⟩
    obtain ⟨v, d, h1, h2, h3⟩ := abinAll_sound h (r.ev x) (r.ev y) w'
    have hp := abinAll_guard h (r.ev x) (r.ev y) w' x y
    subst h2
    have := h3.lit_inv; subst this
    simp only [execOp, ho, Sem.run_bind, hp, h1, Result.andThen_ok, Sem.run_pure]
  · rename_i op t x ho
    obtain ⟨v0, h, hk⟩ := h
    refine ⟨v0, _, hk, .p _ _ (.lit _), fun w' _ => ?_⟩
    obtain ⟨v, d, h1, h2, h3⟩ := aunAll_sound (P := P) h (r.ev x) w'
    subst h2
    have := h3.lit_inv; subst this
    simp only [execOp, ho, Sem.run_bind, h1, Result.andThen_ok, Sem.run_pure]
  · rename_i s x f ho
    split at h
    · rename_i off hf
      split at h
      · rename_i d hd
        obtain ⟨u, h1, h2⟩ := field_of hf (r.ev x) hd (live_of h.1)
        exact ⟨u, d, h.2, h2, fun w' _ => by simp only [execOp, ho, Sem.run_bind, h1 w', Result.andThen_ok, Sem.run_pure]⟩
      · exact h.elim
    · exact h.elim
  · rename_i t x ix ho
    split at h
    · rename_i k i hix
      split at h
      · rename_i n m ht
        obtain ⟨h0, h1, hl, h⟩ := h
        split at h
        · rename_i d hd
          have hi := r.ev ix
          rw [hix] at hi
          obtain ⟨u, h2, h3⟩ := index_array_of (k := k) ht (r.ev x) h0 h1 hd (live_of hl)
          exact ⟨u, d, h, h3, fun w' _ => by simp only [execOp, ho, hi.lit_inv, Sem.run_bind, h2 w', Result.andThen_ok, Sem.run_pure]⟩
        · exact h.elim
      · split at h
        · rename_i s m ht
          have hi := r.ev ix
          rw [hix] at hi
          obtain ⟨u, d, h2, h3, h4⟩ := index_of (k := k) ht (r.ev x) h
          exact ⟨u, d, h4, h3, fun w' _ => by simp only [execOp, ho, hi.lit_inv, Sem.run_bind, h2 w', Result.andThen_ok, Sem.run_pure]⟩
        · exact h.elim
    · exact h.elim
  · rename_i t x ho
    split at h
    · rename_i g n y j ht hx
      split at h
      · rename_i d hd
        have hv := r.ev x
        rw [hx] at hv
        obtain ⟨u, h1, h2⟩ := load_rd hv ht hd
        exact ⟨u, d, h, h2, fun w' hs => by simp only [execOp, ho, Sem.run_bind, h1 w' hs, Result.andThen_ok, Sem.run_pure]⟩
      · exact h.elim
    · exact h.elim
  · rename_i c ho
    obtain ⟨callee, args, ts⟩ := c
    split at h
    · rename_i t x hc hts hargs
      dsimp only at hc hts hargs
      subst hc
      obtain ⟨y, hy⟩ : ∃ y, args = #[y] := by
        have : args.toList.length = 1 := by have := congrArg List.length hargs; simpa using this
        match h2 : args.toList, this with
        | [y], _ => exact ⟨y, by apply Array.ext'; rw [h2]⟩
      subst hy
      obtain rfl : ts = #[t] := by apply Array.ext'; rw [hts]
      simp at hargs
      subst hargs
      have go : ∀ n : Nat, lenD st.ob (st.ev y) = some n → ((∃ e, P.underlying t = some (.slice e)) ∨ P.underlying t = some .string) → ((∃ e, P.underlying t = some (.slice e)) ↔ (∀ s, st.ev y ≠ .p (.lit (.string s)))) → K (iD n) →
          ∃ v d, K d ∧ V H loc st.ob v d ∧ ∀ w', SofH H w' → (execOp a.eval o).run P w' = .ok (.value v) w' := by
        intro n hn h1 h2 hK
        refine ⟨.int .i64 n, _, hK, .p _ _ (.lit _), fun w' _ => ?_⟩
        have := len_of (w := w') (ty := o.type) h1 (r.ev y) hn h2
        obtain ⟨cs, hcs⟩ := exec_builtin1 (P := P) (a := a) (w := w') ho
        rw [hcs]
        simp only [builtin, List.map_toArray, List.map_cons, List.map_nil, Sem.run_bind, this, Result.andThen_ok, Sem.run_pure]
      split at h
      · rename_i e n hu hn
        exact go n hn (.inl ⟨e, hu⟩) ⟨fun _ => h.1, fun _ => ⟨e, hu⟩⟩ h.2
      · rename_i n hu hn
        refine go n hn (.inr hu) ⟨fun ⟨e, he⟩ => (by rw [hu] at he; cases he), fun hx => ?_⟩ h.2
        obtain ⟨s, hs⟩ := h.1
        exact absurd hs (hx s)
      · exact h.elim
    · exact h.elim
  · rename_i src dst x ho
    split at h
    · rename_i k0 k k1 n hs hd hx
      have hv := r.ev x
      rw [hx] at hv
      exact ⟨.int k (k.wrap n), _, h, .p _ _ (.lit _), fun w' _ => by simp only [execOp, ho, hv.lit_inv, convert, Sem.run_bind, run_underlying hs, run_underlying hd, Result.andThen_ok, Conv.intToInt, Sem.run_pure]⟩
    · exact h.elim
  · exact h.elim

end

section
variable {P : Program} {nt : Nat} {md : Region.Mode} {ops : Array Oper} {o : Oper} {K : St → Prop} {fuel : Nat} {listed : Array Bool} {l : List (Nat × D)} {ob : List Ob} {n0 : Nat}

/-- Number i, without a guard, is taken first. -/
theorem ah_run (i : Nat) {t : Nat} (hi : ops.toList[i]? = some o) (hs : Region.noSelect ops = true) (hf : Region.free md ops listed i = true) (hr : (Region.ready md ops listed).contains i = true)
    (hg : o.guard = none) (hd : o.dst = some t) (ht : t < nt)
    (h : ∀ K' : D → Prop, (∀ d, AH P nt md ops K fuel (listed.setIfInBounds i true) ⟨ofL ((t, d) :: l), ob, n0⟩ → K' d) → qop P o ⟨ofL l, ob, n0⟩ K') : AH P nt md ops K (fuel + 1) listed ⟨ofL l, ob, n0⟩ := by
  refine ah_first (by rw [← Array.getElem?_toList]; exact hi) hs hf hr (by rw [hd]; exact ht) fun M H0 w0 H loc w a r => ?_
  obtain ⟨v, d, hk, hv, hx⟩ := qop_run (h _ fun d hx => hx) r
  refine ⟨v, d, ?_, hv, .inl ⟨by simp [Region.wanted, hg], hx⟩⟩
  rw [hd]; exact hk

theorem ah_then (i : Nat) {t j : Nat} {want : Bool} (hi : ops.toList[i]? = some o) (hs : Region.noSelect ops = true) (hf : Region.free md ops listed i = true) (hr : (Region.ready md ops listed).contains i = true)
    (hg : o.guard = some (j, want)) (hb : guardD ops ⟨ofL l, ob, n0⟩ j = bD want) (hd : o.dst = some t) (ht : t < nt)
    (h : ∀ K' : D → Prop, (∀ d, AH P nt md ops K fuel (listed.setIfInBounds i true) ⟨ofL ((t, d) :: l), ob, n0⟩ → K' d) → qop P o ⟨ofL l, ob, n0⟩ K') : AH P nt md ops K (fuel + 1) listed ⟨ofL l, ob, n0⟩ := by
  refine ah_first (by rw [← Array.getElem?_toList]; exact hi) hs hf hr (by rw [hd]; exact ht) fun M H0 w0 H loc w a r => ?_
  obtain ⟨v, d, hk, hv, hx⟩ := qop_run (h _ fun d hx => hx) r
  refine ⟨v, d, ?_, hv, .inl ⟨?_, hx⟩⟩
  · rw [hd]; exact hk
  · have := yielded_of r hb
    simp only [Region.wanted, hg, this, beq_self_eq_true]

theorem ah_else (i : Nat) {t j : Nat} {want : Bool} (hi : ops.toList[i]? = some o) (hs : Region.noSelect ops = true) (hf : Region.free md ops listed i = true) (hr : (Region.ready md ops listed).contains i = true)
    (hg : o.guard = some (j, want)) (hb : guardD ops ⟨ofL l, ob, n0⟩ j = bD (!want)) (hd : o.dst = some t) (ht : t < nt)
    (h : AH P nt md ops K fuel (listed.setIfInBounds i true) ⟨ofL ((t, .p (.lit undef)) :: l), ob, n0⟩) : AH P nt md ops K (fuel + 1) listed ⟨ofL l, ob, n0⟩ := by
  refine ah_first (by rw [← Array.getElem?_toList]; exact hi) hs hf hr (by rw [hd]; exact ht) fun M H0 w0 H loc w a r => ?_
  refine ⟨undef, .p (.lit undef), ?_, .p _ _ (.lit _), .inr ⟨?_, rfl⟩⟩
  · rw [hd]; exact h
  · have := yielded_of r hb
    simp only [Region.wanted, hg, this]
    cases want <;> rfl

theorem ah_split (g : Nat) (b : Bool) (hb : ofL l g = bD b)
    (h1 : b = true → AH P nt md ops K fuel listed ⟨ofL ((g, bD true) :: l), ob, n0⟩) (h2 : b = false → AH P nt md ops K fuel listed ⟨ofL ((g, bD false) :: l), ob, n0⟩) : AH P nt md ops K fuel listed ⟨ofL l, ob, n0⟩ := by
  have same : ∀ c : Bool, b = c → ofL ((g, bD c) :: l) = ofL l := fun c hc => by
    subst hc
    funext k
    simp only [ofL]
    split
    · rename_i e; rw [← e, hb]
    · rfl
  cases b with
  | true => have := h1 rfl; rw [same true rfl] at this; exact this
  | false => have := h2 rfl; rw [same false rfl] at this; exact this

/-- The same with what is asked of the order in one equation. -/
def mayD (md : Region.Mode) (ops : Array Oper) (listed : Array Bool) (i : Nat) : Bool := Region.noSelect ops && Region.free md ops listed i && (Region.ready md ops listed).contains i
theorem mayD_of {i : Nat} (h : mayD md ops listed i = true) : Region.noSelect ops = true ∧ Region.free md ops listed i = true ∧ (Region.ready md ops listed).contains i = true := by
  simpa only [mayD, Bool.and_eq_true, and_assoc] using h
theorem ah_r (i : Nat) {t : Nat} (hi : ops.toList[i]? = some o) (m : mayD md ops listed i = true) (c : gtD nt o = some t)
    (h : ∀ K' : D → Prop, (∀ d, AH P nt md ops K fuel (listed.setIfInBounds i true) ⟨ofL ((t, d) :: l), ob, n0⟩ → K' d) → qop P o ⟨ofL l, ob, n0⟩ K') : AH P nt md ops K (fuel + 1) listed ⟨ofL l, ob, n0⟩ :=
  ah_run i hi (mayD_of m).1 (mayD_of m).2.1 (mayD_of m).2.2 (gtD_of c).1 (gtD_of c).2.1 (gtD_of c).2.2 h
theorem ah_t (i : Nat) {t j : Nat} {want : Bool} (hi : ops.toList[i]? = some o) (m : mayD md ops listed i = true) (c : gtG nt o = some (t, j, want)) (hb : guardD ops ⟨ofL l, ob, n0⟩ j = bD want)
    (h : ∀ K' : D → Prop, (∀ d, AH P nt md ops K fuel (listed.setIfInBounds i true) ⟨ofL ((t, d) :: l), ob, n0⟩ → K' d) → qop P o ⟨ofL l, ob, n0⟩ K') : AH P nt md ops K (fuel + 1) listed ⟨ofL l, ob, n0⟩ :=
  ah_then i hi (mayD_of m).1 (mayD_of m).2.1 (mayD_of m).2.2 (gtG_of c).1 hb (gtG_of c).2.1 (gtG_of c).2.2 h
theorem ah_e (i : Nat) {t j : Nat} {want : Bool} (hi : ops.toList[i]? = some o) (m : mayD md ops listed i = true) (c : gtG nt o = some (t, j, want)) (hb : guardD ops ⟨ofL l, ob, n0⟩ j = bD (!want))
    (h : AH P nt md ops K fuel (listed.setIfInBounds i true) ⟨ofL ((t, .p (.lit undef)) :: l), ob, n0⟩) : AH P nt md ops K (fuel + 1) listed ⟨ofL l, ob, n0⟩ :=
  ah_else i hi (mayD_of m).1 (mayD_of m).2.1 (mayD_of m).2.2 (gtG_of c).1 hb (gtG_of c).2.1 (gtG_of c).2.2 h
end

attribute [go_sem] qop D.p.injEq PV.lit.injEq exists_eq_left' exists_eq_left
end Go.Ab

/- Functions whose results lie in variables. No program is named here. -/
namespace Go.Ab

/-- What a result is at a function's end. -/
def rvD (P : Program) (st : St) : ResultVar → Option D
  | .tmp t => some (st.tm t)
  | .cell a t => match tyO P t, derefD st.ob (st.tm a) with | some (g, n), some cs => loadD g n cs | _, _ => none

def rvsD (P : Program) (st : St) : List ResultVar → Option (List D)
  | [] => some []
  | x :: l => match rvD P st x, rvsD P st l with | some d, some ds => some (d :: ds) | _, _ => none

def joinD : List D → D
  | [d] => d
  | ds => .tup ds

section
variable {P : Program} {M : En} {H0 H : HV} {w0 w : World} {nt : Nat} {loc : Nat → Loc} {st : St} {a : Act}

theorem run_rv (r : Rel M H0 w0 nt H loc w st a) (F : ResultVar → Sem Value) (h1 : ∀ t, F (.tmp t) = pure (a.tmps.getD t undef)) (h2 : ∀ x t, F (.cell x t) = (do loadVar t (← asAddr (a.tmps.getD x undef)))) :
    ∀ (l : List ResultVar) (ds : List D), rvsD P st l = some ds → ∃ vs : List Value, (l.mapM F).run P w = .ok vs w ∧ vs.length = ds.length ∧ ∀ (i : Nat) v d, vs[i]? = some v → ds[i]? = some d → V H loc st.ob v d
  | [], ds, h => by cases h; exact ⟨[], rfl, rfl, fun i v d h => by simp at h⟩
  | x :: l, ds, h => by
    unfold rvsD at h
    cases hx : rvD P st x with
    | none => rw [hx] at h; cases h
    | some d =>
      rw [hx] at h
      cases hl : rvsD P st l with
      | none => rw [hl] at h; cases h
      | some ds' =>
        rw [hl] at h; cases h
        obtain ⟨vs, g1, g2, g3⟩ := run_rv r F h1 h2 l ds' hl
        have one : ∃ v, (F x).run P w = .ok v w ∧ V H loc st.ob v d := by
          cases x with
          | tmp t => simp only [rvD, Option.some.injEq] at hx; subst hx; exact ⟨_, by rw [h1]; rfl, r.tm t⟩
          | cell x t =>
            simp only [rvD] at hx
            split at hx
            · rename_i g n cs ht hd
              obtain ⟨u, k1, k2⟩ := load_of r.sr (r.tm x) hd ht hx
              obtain ⟨b, o, hv, _⟩ := deref_cells r.sr (r.tm x) hd
              refine ⟨u, ?_, k2⟩
              rw [h2]
              rw [hv] at k1 ⊢
              simpa only [Instr.loadAt, Instr.sureAddr, asAddr, pure_bind] using k1
            · cases hx
        obtain ⟨v, k1, k2⟩ := one
        refine ⟨v :: vs, by simp only [List.mapM_cons, Sem.run_bind, k1, Result.andThen_ok, g1, Sem.run_pure], by simp [g2], fun i v' d' hi hd => ?_⟩
        cases i with
        | zero => simp at hi hd; subst hi; subst hd; exact k2
        | succ i => exact g3 i v' d' (by simpa using hi) (by simpa using hd)

theorem run_results (r : Rel M H0 w0 nt H loc w st a) {fn : Func} {rs : List ResultVar} (hr : fn.results = rs.toArray) {ds : List D} (h : rvsD P st rs = some ds) :
    ∃ v, (results fn a.tmps).run P w = .ok v w ∧ V H loc st.ob v (joinD ds) := by
  obtain ⟨vs, g1, g2, g3⟩ := run_rv (P := P) r (fun | .tmp t => pure (a.tmps.getD t undef) | .cell x t => do loadVar t (← asAddr (a.tmps.getD x undef))) (fun _ => rfl) (fun _ _ => rfl) rs ds h
  unfold results
  rw [hr, List.mapM_toArray]
  simp only [Sem.run_bind, Sem.run_map, Sem.run_pure]
  erw [g1]
  simp only [Result.andThen_ok]
  refine ⟨_, rfl, ?_⟩
  match ds, vs, g2 with
  | [d], [v], _ => exact g3 0 v d rfl rfl
  | [], [], _ => exact .tup #[] [] rfl (fun i v d h1 h2 => by simp at h2)
  | d :: d' :: ds, v :: v' :: vs, g2 =>
    rw [dif_neg (by simp)]
    exact .tup _ _ (by simpa using g2) fun i v d h1 h2 => g3 i v d (by simpa using h1) h2

end

def rvT : ResultVar → Nat
  | .tmp t => t
  | .cell a _ => a

/-- A function that takes and hands out data, some of it by way of variables. -/
theorem acallp_fnv {P : Program} {f : FuncId} {fn : Func} {c : Code} {args : List D} {r : D} (rs : List ResultVar) {n : Nat}
    (hf : P.funcs[f]? = some fn) (hb : fn.body = some c) (hr : fn.results = rs.toArray) (hnt : fn.ntmps = n) (hn : args.length ≤ n)
    (h : ∀ R : Exit → St → Prop, (∀ e st, (e = .ret ∨ e = .normal) → st.n0 = 0 → (rvsD P (st.frz (rs.map rvT) []) rs).map joinD = some r → R e st) → AWp P n c R ⟨ofL (startL 0 args), [], 0⟩) : ACallP P f args r := by
  subst hnt
  rintro H loc w vs hs hvs hv
  refine calls_of_wp hf hb ?_
  let M : Nat → Prop := fun b => ∃ (i : Nat) (o : Ob), ([] : List Ob)[i]? = some o ∧ o.live = true ∧ (loc i).r = true ∧ (loc i).b = b
  have hi : Is ⟨M, [], loc⟩ H w fn.ntmps ⟨ofL (startL 0 args), [], 0⟩ { tmps := vs ++ Array.replicate (fn.ntmps - vs.size) undef, defers := [] } w := by
    refine ⟨H, loc, hs, fun t => ?_, ?_, rfl, Grows.refl _ _ _, fun i o ho => (by cases ho), rfl, fun k o ho => (by cases ho)⟩
    · rw [← startTm_eq]
      simp only [startTm]
      by_cases ht : t < args.length
      · have h1 : args[t]? = some args[t] := List.getElem?_eq_getElem ht
        have h2 : vs[t]? = some vs[t] := Array.getElem?_eq_getElem (by omega)
        have := hv t vs[t] args[t] h2 h1
        have e1 : (vs ++ Array.replicate (fn.ntmps - vs.size) undef).getD t undef = vs[t] := by
          rw [Array.getD_eq_getD_getElem?, Array.getElem?_append_left (by omega), h2]; rfl
        rw [e1, List.getD_eq_getElem?_getD, h1]; exact this
      · have h1 : args.getD t .none = .none := by rw [List.getD_eq_getElem?_getD, List.getElem?_eq_none (by omega)]; rfl
        rw [h1]; exact .none _
    · simp; omega
  refine wp_mono (h (fun e st => (e = .ret ∨ e = .normal) ∧ st.n0 = 0 ∧ (rvsD P (st.frz (rs.map rvT) []) rs).map joinD = some r) (fun e st a b c => ⟨a, b, c⟩) ⟨M, [], loc⟩ H w w _ hi) ?_
  rintro e a' w' ⟨st', ⟨he, hn0, hq⟩, hi'⟩
  obtain ⟨H', loc', r'⟩ := hi'.frz (rs.map rvT) List.nodup_nil (fun k hk => by rw [hn0] at hk; omega)
  cases hds : rvsD P (st'.frz (rs.map rvT) []) rs with
  | none => rw [hds] at hq; cases hq
  | some ds =>
    rw [hds] at hq
    simp only [Option.map_some, Option.some.injEq] at hq
    obtain ⟨v, hv1, hv2⟩ := run_results r' hr hds
    rw [hq] at hv2
    have post : bodyPost P fn (fun e w' => ∃ v H' loc' r1 obs', (r1 = r ∧ obs' = []) ∧ e = .returned v ∧ V H' loc' obs' v r1 ∧ Sr H' loc' obs' w' ∧ Grows M H H' w w' ∧
        (∀ (i : Nat) o, obs'[i]? = some o → o.live = true → (loc' i).r = true → (∃ (k : Nat) (o' : Ob), ([] : List Ob)[k]? = some o' ∧ o'.live = true ∧ (loc k).r = true ∧ (loc k).b = (loc' i).b) ∨ w.heap.size ≤ (loc' i).b) ∧ stays [] obs' loc loc') .ret a' w' :=
      ⟨r'.df, v, hv1, v, H', loc', r, [], ⟨rfl, rfl⟩, rfl, hv2, r'.sr, r'.gr, fun i o ho => (by cases ho), fun k o ho => (by cases ho)⟩
    rcases he with rfl | rfl
    · exact post
    · exact post

attribute [go_sem] rvD rvsD joinD rvT
end Go.Ab

/- Arguments that are read as data. No program is named here. -/
namespace Go.Ab

/-- What data of a type looks like. -/
def shapeOk (P : Program) : Nat → TypeId → List PV → Prop
  | 0, _, _ => False
  | f + 1, t, xs =>
    match P.underlying t with
    | some .bool => ∃ b, xs = [.lit (.bool b)]
    | some (.int k) => ∃ n, xs = [.lit (.int k n)] ∧ (Lit.int k n).wf = true
    | some .string => ∃ s, xs = [.lit (.string s)] ∧ s.size ≤ maxLen
    | some (.slice e) => ∃ rows, xs = [.sl rows] ∧ rows.length ≤ maxLen ∧ rows.length * P.bytesOf e ≤ reachBytes ∧ ∀ r, r ∈ rows → r.length = P.cellsOf e ∧ shapeOk P f e r
    | some (.struct fs) => xs.length = P.cellsOf t ∧ ∀ g, g ∈ fs.toList → shapeOk P f g.type ((xs.drop g.offset).take (P.cellsOf g.type))
    | some (.array n e) => xs.length = n ∧ ∀ y, y ∈ xs → shapeOk P f e [y]
    | _ => False

/-- Fields that lie one behind the other. -/
def lay (P : Program) (total : Nat) : List Field → Nat → Bool
  | [], o => o == total
  | f :: l, o => f.offset == o && lay P total l (o + P.cellsOf f.type)

/-- Types that lead to one another alone. -/
def closedT (P : Program) (l : List TypeId) : Bool :=
  l.all fun t => match P.underlying t with
    | some .bool => true
    | some (.int _) => true
    | some .string => true
    | some (.slice e) => l.contains e && decide (0 < P.cellsOf e)
    | some (.struct fs) => fs.toList.all (fun f => l.contains f.type) && lay P (P.cellsOf t) fs.toList 0
    | some (.array n e) => l.contains e && P.cellsOf e == 1 && P.cellsOf t == n
    | _ => false

def cellsPV (H : HV) (cs : List Value) (xs : List PV) : Prop := xs.length = cs.length ∧ ∀ (i : Nat) v y, cs[i]? = some v → xs[i]? = some y → v.oneCell' = true ∧ PVr H v y

theorem cellsPV_one {H : HV} {v : Value} {y : PV} (h1 : v.oneCell' = true) (h : PVr H v y) : cellsPV H [v] [y] := by
  refine ⟨rfl, fun i v' y' hv hy => ?_⟩
  cases i with
  | zero => simp at hv hy; subst hv; subst hy; exact ⟨h1, h⟩
  | succ i => simp at hv

theorem fields_pv {P : Program} {H : HV} {f : Nat} {cs : List Value} {total : Nat} (hcs : cs.length = total) : ∀ (l : List Field) (o : Nat), lay P total l o = true →
    (∀ g, g ∈ l → ∃ xs, cellsPV H ((cs.drop g.offset).take (P.cellsOf g.type)) xs ∧ shapeOk P f g.type xs ∧ xs.length = P.cellsOf g.type) → o ≤ total →
    ∃ xs, cellsPV H (cs.drop o) xs ∧ ∀ g, g ∈ l → o ≤ g.offset ∧ shapeOk P f g.type ((xs.drop (g.offset - o)).take (P.cellsOf g.type))
  | [], o, hl, _, _ => by
    simp only [lay, beq_iff_eq] at hl
    refine ⟨[], ⟨by simp; omega, fun i v y h1 h2 => by simp at h2⟩, fun g hg => by cases hg⟩
  | g :: l, o, hl, h, ho => by
    simp only [lay, Bool.and_eq_true, beq_iff_eq] at hl
    obtain ⟨hgo, hl⟩ := hl
    obtain ⟨xs, ⟨a1, a2⟩, a3, a4⟩ := h g List.mem_cons_self
    rw [hgo] at a1 a2
    have hsz : o + P.cellsOf g.type ≤ total := by
      simp only [List.length_take, List.length_drop] at a1
      rw [a4] at a1
      omega
    obtain ⟨ys, ⟨b1, b2⟩, b3⟩ := fields_pv hcs l (o + P.cellsOf g.type) hl (fun g' hg' => h g' (List.mem_cons_of_mem _ hg')) hsz
    refine ⟨xs ++ ys, ⟨?_, fun i v y h1 h2 => ?_⟩, fun g' hg' => ?_⟩
    · simp only [List.length_append, a4, b1, List.length_drop]; omega
    · rw [List.getElem?_drop] at h1
      by_cases hi : i < P.cellsOf g.type
      · rw [List.getElem?_append_left (by omega)] at h2
        exact a2 i v y (by rw [List.getElem?_take, if_pos hi, List.getElem?_drop]; exact h1) h2
      · rw [List.getElem?_append_right (by omega)] at h2
        exact b2 (i - xs.length) v y (by rw [List.getElem?_drop]; rw [show o + P.cellsOf g.type + (i - xs.length) = o + i by omega]; exact h1) h2
    · rcases List.mem_cons.1 hg' with rfl | hg'
      · refine ⟨by omega, ?_⟩
        rw [hgo, Nat.sub_self, List.drop_zero, List.take_append_of_le_length (by omega), List.take_of_length_le (by omega)]
        exact a3
      · obtain ⟨c1, c2⟩ := b3 g' hg'
        refine ⟨by omega, ?_⟩
        rw [List.drop_append, List.drop_of_length_le (by omega), List.nil_append]
        rw [show g'.offset - o - xs.length = g'.offset - (o + P.cellsOf g.type) by omega]
        exact c2

theorem mapM_get {α β : Type} {f : α → Option β} : ∀ {l : List α} {r : List β}, l.mapM f = some r → r.length = l.length ∧ ∀ (i : Nat) x, l[i]? = some x → f x = r[i]?
  | [], r, h => by simp at h; subst h; exact ⟨rfl, fun i x hx => by simp at hx⟩
  | a :: l, r, h => by
    simp only [List.mapM_cons] at h
    cases ha : f a with
    | none => rw [ha] at h; cases h
    | some b =>
      rw [ha] at h
      cases hl : l.mapM f with
      | none => rw [hl] at h; cases h
      | some bs =>
        rw [hl] at h
        cases h
        obtain ⟨g1, g2⟩ := mapM_get hl
        refine ⟨by simp [g1], fun i x hx => ?_⟩
        cases i with
        | zero => simp at hx; subst hx; simp [ha]
        | succ i => simp at hx ⊢; exact g2 i x hx

theorem weights_all {H : Type} {P : Program} {e : TypeId} : ∀ {l : List (DataW H)} {d : DataW H}, d ∈ l → ∀ n ∈ d.weights P e, n ∈ DataW.weightsAll P e l
  | x :: l, d, hd, n, hn => by
    simp only [DataW.weightsAll, List.mem_append]
    rcases List.mem_cons.1 hd with rfl | hd
    · exact .inl hn
    · exact .inr (weights_all hd n hn)
  | [], _, hd, _, _ => by cases hd

theorem trod_pv {P : Program} {w : World} {H : Type} {enc : TypeId × Value → H} {sp : Nat → Bool} {l : List TypeId} (hl : closedT P l = true) : ∀ (fuel : Nat) (t : TypeId) (cs : List Value) (x : DataW H × List MemPlace), t ∈ l →
    DataW.trod enc P w 0 sp true fuel t cs = some x → (∀ n ∈ x.1.weights P t, n ≤ reachBytes) → ∃ xs, cellsPV (hvOf w) cs xs ∧ shapeOk P fuel t xs
  | 0, t, cs, x, ht, h, _ => by simp [DataW.trod] at h
  | fuel + 1, t, cs, x, ht, h, hwt => by
    have hc := List.all_eq_true.1 hl t ht
    unfold shapeOk
    cases hu : P.underlying t with
    | none => rw [hu] at hc; cases hc
    | some dsc =>
      rw [hu] at hc
      cases dsc <;> dsimp only at hc ⊢ <;> try (cases hc; done)
      case bool =>
        obtain ⟨b, rfl, _⟩ := DataW.trod_bool hu h
        exact ⟨_, cellsPV_one rfl (.lit _), b, rfl⟩
      case int k =>
        obtain ⟨n, rfl, _, hw⟩ := DataW.trod_int hu h
        exact ⟨_, cellsPV_one rfl (.lit _), n, rfl, hw⟩
      case string =>
        obtain ⟨s, rfl, _, hs⟩ := DataW.trod_string hu h
        exact ⟨_, cellsPV_one rfl (.lit _), s, rfl, hs⟩
      case slice e =>
        simp only [Bool.and_eq_true, List.contains_iff_mem, decide_eq_true_eq] at hc
        obtain ⟨he, hpos⟩ := hc
        rcases DataW.trod_slice hu h with ⟨rfl, _⟩ | ⟨a, len, cap, elems, rest, n, hn, rfl, rfl, _, hcap, hmax, hlen, hel, _, _⟩
        · exact ⟨_, cellsPV_one rfl (.none _ _), [], rfl, Nat.zero_le _, by simp, fun r hr => by cases hr⟩
        · obtain rfl : fuel = n := by omega
          have hwl : ((elems.map (·.1)).length + (rest.map (·.1)).length) * P.bytesOf e ≤ reachBytes := hwt _ (by simp [DataW.weights, hu])
          have hwe : ∀ y, y ∈ elems → ∀ n ∈ y.1.weights P e, n ≤ reachBytes := fun y hy n hn => hwt n (by
            simp only [DataW.weights, hu, List.mem_cons, List.mem_append]
            exact .inr (.inl (weights_all (List.mem_map.2 ⟨y, hy, rfl⟩) n hn)))
          have hwb : len * P.bytesOf e ≤ reachBytes := by
            rw [← hlen]
            exact Nat.le_trans (Nat.mul_le_mul_right _ (by simp)) hwl
          by_cases h0 : len = 0
          · subst h0
            exact ⟨_, cellsPV_one rfl (.none _ _), [], rfl, Nat.zero_le _, by simp, fun r hr => by cases hr⟩
          have each : ∀ i, i < len → ∃ ci r, w.cells? 0 (a.add (i * P.cellsOf e)) (P.cellsOf e) = some ci ∧ cellsPV (hvOf w) ci r ∧ shapeOk P fuel e r := fun i hi => by
            have h1 := hel i hi
            rw [List.getElem?_eq_getElem (by omega)] at h1
            cases hci : w.cells? 0 (a.add (i * P.cellsOf e)) (P.cellsOf e) with
            | none => rw [hci] at h1; cases h1
            | some ci =>
              rw [hci] at h1
              obtain ⟨r, g1, g2⟩ := trod_pv hl fuel e ci _ he h1 (hwe _ (List.getElem_mem _))
              exact ⟨ci, r, rfl, g1, g2⟩
          have cellsAt : ∀ {i : Nat} {ci : List Value}, w.cells? 0 (a.add (i * P.cellsOf e)) (P.cellsOf e) = some ci → ci.length = P.cellsOf e ∧ ∀ (j : Nat) v, ci[j]? = some v → w.cell? ((a.add (i * P.cellsOf e)).add j) = some v := fun {i ci} hci => by
            unfold World.cells? at hci
            rw [if_pos (Nat.zero_le _)] at hci
            obtain ⟨g1, g2⟩ := mapM_get hci
            refine ⟨by simpa using g1, fun j v hv => ?_⟩
            have hj : j < P.cellsOf e := by
              rcases Nat.lt_or_ge j ci.length with h' | h'
              · simp at g1; omega
              · simp [List.getElem?_eq_none h'] at hv
            rw [← hv]
            exact g2 j j (by simp [hj])
          have hspot : a.spot = none := by
            obtain ⟨ci, r, hci, _, _⟩ := each 0 (by omega)
            obtain ⟨g1, g2⟩ := cellsAt hci
            have := g2 0 ci[0] (List.getElem?_eq_getElem (by omega))
            unfold World.cell? at this
            split at this
            · split at this
              · cases this
              · rename_i hs
                cases hsp : a.spot with
                | none => rfl
                | some k => simp [Addr.add, hsp] at hs
            · cases this
          obtain ⟨ab, ao, asp⟩ := a
          simp only at hspot
          subst hspot
          have hblock : ∃ c, hvOf w ab = some c ∧ ∀ (k : Nat) v, w.cell? ⟨ab, k, none⟩ = some v → c[k]? = some v := by
            obtain ⟨ci, r, hci, _, _⟩ := each 0 (by omega)
            obtain ⟨g1, g2⟩ := cellsAt hci
            have := g2 0 ci[0] (List.getElem?_eq_getElem (by omega))
            rw [Addr.add_lit, Addr.add_lit] at this
            unfold World.cell? at this
            unfold hvOf
            split at this
            · rename_i c e' f hw
              have hw' : w.heap[ab]? = some (.cells c e' f) := hw
              rw [hw']
              refine ⟨c, rfl, fun k v hv => ?_⟩
              simpa [World.cell?, hw'] using hv
            · cases this
          obtain ⟨c, hc1, hc2⟩ := hblock
          let row : Nat → List PV := fun i => if hi : i < len then Classical.choose (Classical.choose_spec (each i hi)) else []
          have hrow : ∀ i, i < len → ∃ ci, w.cells? 0 ((⟨ab, ao, none⟩ : Addr).add (i * P.cellsOf e)) (P.cellsOf e) = some ci ∧ cellsPV (hvOf w) ci (row i) ∧ shapeOk P fuel e (row i) := fun i hi => by
            refine ⟨Classical.choose (each i hi), ?_⟩
            have := Classical.choose_spec (Classical.choose_spec (each i hi))
            simp only [row, dif_pos hi]
            exact this
          let rows := (List.range len).map row
          have hrl : rows.length = len := by simp [rows]
          have hget : ∀ (i : Nat) r, rows[i]? = some r → i < len ∧ r = row i := fun i r hr => by
            simp only [rows, List.getElem?_map] at hr
            rcases Nat.lt_or_ge i len with hi | hi
            · simp [hi] at hr; exact ⟨hi, hr.symm⟩
            · simp [List.getElem?_eq_none (show (List.range len).length ≤ i by simpa using hi)] at hr
          have hlenr : ∀ i, i < len → (row i).length = P.cellsOf e := fun i hi => by
            obtain ⟨ci, g1, g2, _⟩ := hrow i hi
            rw [g2.1, (cellsAt g1).1]
          have hcell : ∀ (i : Nat) r, rows[i]? = some r → ∀ (j : Nat) y, r[j]? = some y → ∃ v, c[ao + i * P.cellsOf e + j]? = some v ∧ v.oneCell' = true ∧ PVr (hvOf w) v y := fun i r hr j y hy => by
            obtain ⟨hi, rfl⟩ := hget i r hr
            obtain ⟨ci, g1, g2, _⟩ := hrow i hi
            obtain ⟨k1, k2⟩ := cellsAt g1
            have hj : j < ci.length := by
              rcases Nat.lt_or_ge j (row i).length with h' | h'
              · rw [g2.1] at h'; exact h'
              · simp [List.getElem?_eq_none h'] at hy
            have hv := k2 j ci[j] (List.getElem?_eq_getElem hj)
            rw [Addr.add_lit, Addr.add_lit] at hv
            refine ⟨ci[j], hc2 _ _ hv, (g2.2 j _ y (List.getElem?_eq_getElem hj) hy).1, (g2.2 j _ y (List.getElem?_eq_getElem hj) hy).2⟩
          have hpv := PVr.sl (H := hvOf w) ab ao cap (P.cellsOf e) c rows (fun i j => (c[ao + i * P.cellsOf e + j]?).getD undef) hc1
            (fun r hr => by
              obtain ⟨i, hi⟩ := List.getElem?_of_mem hr
              obtain ⟨h1, rfl⟩ := hget i r hi
              exact hlenr i h1) (by omega)
            (fun i r hr j y hy => by obtain ⟨v, a1, _⟩ := hcell i r hr j y hy; rw [a1]; rfl)
            (fun i r hr j y hy => by obtain ⟨v, a1, a2, _⟩ := hcell i r hr j y hy; rw [a1]; exact a2)
            (fun i r hr j y hy => by obtain ⟨v, a1, _, a3⟩ := hcell i r hr j y hy; rw [a1]; exact a3)
          rw [hrl] at hpv
          refine ⟨_, cellsPV_one rfl hpv, rows, rfl, by omega, by rw [hrl]; exact hwb, fun r hr => ?_⟩
          obtain ⟨i, hi⟩ := List.getElem?_of_mem hr
          obtain ⟨h1, rfl⟩ := hget i r hi
          obtain ⟨ci, _, _, g3⟩ := hrow i h1
          exact ⟨hlenr i h1, g3⟩
      case array n e =>
        simp only [Bool.and_eq_true, List.contains_iff_mem, beq_iff_eq] at hc
        obtain ⟨⟨he, h1⟩, hn⟩ := hc
        obtain ⟨xs, m, hm, rfl, hlen, hsz, hf⟩ := DataW.trod_array hu h
        obtain rfl : fuel = m := by omega
        rw [hn] at hlen
        have each : ∀ i, i < n → ∃ v y, cs[i]? = some v ∧ v.oneCell' = true ∧ PVr (hvOf w) v y ∧ shapeOk P fuel e [y] := fun i hi => by
          have g1 := hf i hi
          rw [h1, Nat.mul_one, List.getElem?_eq_getElem (by omega)] at g1
          have hcs : (cs.drop i).take 1 = [cs[i]] := by
            rw [List.drop_eq_getElem_cons (by omega), List.take_succ_cons, List.take_zero]
          rw [hcs] at g1
          obtain ⟨r, ⟨a1, a2⟩, a3⟩ := trod_pv hl fuel e _ _ he g1 (fun k hk => hwt k (by
            simp only [DataW.weights, hu]
            exact weights_all (List.mem_map.2 ⟨_, List.getElem_mem _, rfl⟩) k hk))
          match r, a1, a2, a3 with
          | [y], _, a2, a3 => exact ⟨cs[i], y, List.getElem?_eq_getElem (by omega), (a2 0 _ _ rfl rfl).1, (a2 0 _ _ rfl rfl).2, a3⟩
        let f : Nat → PV := fun i => if hi : i < n then Classical.choose (Classical.choose_spec (each i hi)) else .sl []
        have hfi : ∀ i, i < n → ∃ v, cs[i]? = some v ∧ v.oneCell' = true ∧ PVr (hvOf w) v (f i) ∧ shapeOk P fuel e [f i] := fun i hi => by
          refine ⟨Classical.choose (each i hi), ?_⟩
          have := Classical.choose_spec (Classical.choose_spec (each i hi))
          simp only [f, dif_pos hi]
          exact this
        refine ⟨(List.range n).map f, ⟨by simp [hlen], fun i v y hv hy => ?_⟩, by simp, fun y hy => ?_⟩
        · have hi : i < n := by
            rcases Nat.lt_or_ge i cs.length with h' | h'
            · omega
            · simp [List.getElem?_eq_none h'] at hv
          rw [List.getElem?_map, List.getElem?_range hi] at hy
          cases hy
          obtain ⟨v', b1, b2, b3, _⟩ := hfi i hi
          rw [b1] at hv; cases hv
          exact ⟨b2, b3⟩
        · obtain ⟨i, hi, rfl⟩ := List.mem_map.1 hy
          obtain ⟨_, _, _, _, b4⟩ := hfi i (List.mem_range.1 hi)
          exact b4
      case struct fs =>
        simp only [Bool.and_eq_true, List.all_eq_true, List.contains_iff_mem] at hc
        obtain ⟨hin, hlay⟩ := hc
        obtain ⟨xs, n, hn, rfl, hlen, hsz, hf⟩ := DataW.trod_struct hu h
        obtain rfl : fuel = n := by omega
        have hbound : ∀ (l' : List Field) (o : Nat), lay P (P.cellsOf t) l' o = true → o ≤ P.cellsOf t ∧ ∀ g, g ∈ l' → g.offset + P.cellsOf g.type ≤ P.cellsOf t := by
          intro l'
          induction l' with
          | nil => intro o ho; simp only [lay, beq_iff_eq] at ho; exact ⟨by omega, fun g hg => by cases hg⟩
          | cons g l' ih =>
            intro o ho
            simp only [lay, Bool.and_eq_true, beq_iff_eq] at ho
            obtain ⟨k1, k2⟩ := ih _ ho.2
            refine ⟨by omega, fun g' hg' => ?_⟩
            rcases List.mem_cons.1 hg' with rfl | hg'
            · omega
            · exact k2 g' hg'
        obtain ⟨ys, a1, a2⟩ := fields_pv (P := P) (H := hvOf w) (f := fuel) hlen fs.toList 0 hlay (fun g hg => by
          obtain ⟨i, hi⟩ := List.getElem?_of_mem hg
          rw [Array.getElem?_toList] at hi
          have h1 := hf i g hi
          have hi2 : i < fs.size := by
            rcases Nat.lt_or_ge i fs.size with h' | h'
            · exact h'
            · simp [Array.getElem?_eq_none h'] at hi
          rw [List.getElem?_eq_getElem (by omega)] at h1
          obtain ⟨r, g1, g2⟩ := trod_pv hl fuel g.type _ _ (hin g hg) h1 (fun n hn => hwt n (by
            simp only [DataW.weights, hu]
            exact DataW.weights_mem_each (j := i) (by simp [hi]) (by rw [List.getElem?_map, List.getElem?_eq_getElem (by omega)]; rfl) n hn))
          refine ⟨r, g1, g2, ?_⟩
          rw [g1.1, List.length_take, List.length_drop]
          have := (hbound _ _ hlay).2 g hg
          omega) (Nat.zero_le _)
        rw [List.drop_zero] at a1
        refine ⟨ys, a1, by rw [a1.1, hlen], fun g hg => ?_⟩
        have := (a2 g hg).2
        rw [Nat.sub_zero] at this
        exact this

end Go.Ab

namespace Go.Ab
section
variable {P : Program} {f : Nat} {t : TypeId} {xs : List PV}

theorem shape_succ (h : shapeOk P f t xs) : ∃ n, f = n + 1 := by
  cases f with
  | zero => exact h.elim
  | succ n => exact ⟨n, rfl⟩

theorem shape_int {k : IntKind} (hu : P.underlying t = some (.int k)) (h : shapeOk P f t xs) : ∃ n, xs = [.lit (.int k n)] ∧ (Lit.int k n).wf = true := by
  obtain ⟨n, rfl⟩ := shape_succ h
  unfold shapeOk at h
  rw [hu] at h
  exact h

theorem shape_string (hu : P.underlying t = some .string) (h : shapeOk P f t xs) : ∃ s, xs = [.lit (.string s)] ∧ s.size ≤ maxLen := by
  obtain ⟨n, rfl⟩ := shape_succ h
  unfold shapeOk at h
  rw [hu] at h
  exact h

theorem shape_slice {e : TypeId} (hu : P.underlying t = some (.slice e)) (h : shapeOk P f t xs) : ∃ n rows, f = n + 1 ∧ xs = [.sl rows] ∧ rows.length ≤ maxLen ∧ rows.length * P.bytesOf e ≤ reachBytes ∧ ∀ r, r ∈ rows → r.length = P.cellsOf e ∧ shapeOk P n e r := by
  obtain ⟨n, rfl⟩ := shape_succ h
  unfold shapeOk at h
  rw [hu] at h
  obtain ⟨rows, h⟩ := h
  exact ⟨n, rows, rfl, h⟩

theorem shape_struct {fs : Array Field} (hu : P.underlying t = some (.struct fs)) (h : shapeOk P f t xs) : ∃ n, f = n + 1 ∧ xs.length = P.cellsOf t ∧ ∀ g, g ∈ fs.toList → shapeOk P n g.type ((xs.drop g.offset).take (P.cellsOf g.type)) := by
  obtain ⟨n, rfl⟩ := shape_succ h
  unfold shapeOk at h
  rw [hu] at h
  exact ⟨n, rfl, h⟩

/-- An argument that is a struct. -/
theorem open_agg {H : Type} {enc : TypeId × Value → H} {W : World} {b0 : Nat} {v : Value} {d : DataW H} {ps : List MemPlace} {fs : Array Field} {l : List TypeId} (hl : closedT P l = true) (ht : t ∈ l) (hu : P.underlying t = some (.struct fs))
    (hval : Value.okWide P W .any b0 t v) (h : DataW.Trod enc P W 0 (fun _ => true) true t v d ps) (hwt : ∀ n ∈ d.weights P t, n ≤ reachBytes) :
    ∃ xs fuel, V (hvOf W) (fun _ => ⟨0, 0, 0, false⟩) [] v (.agg (xs.map .p)) ∧ shapeOk P fuel t xs := by
  unfold Value.okWide at hval
  rw [hu] at hval
  obtain ⟨cs, rfl, _, _⟩ := hval
  obtain ⟨fuel, h⟩ := h
  obtain ⟨xs, ⟨a1, a2⟩, a3⟩ := trod_pv hl fuel t _ _ ht h hwt
  refine ⟨xs, fuel, .agg cs _ (by simpa [Value.cells] using a1.symm) fun i v d h1 h2 => ?_, a3⟩
  rw [List.getElem?_map] at h2
  cases hx : xs[i]? with
  | none => rw [hx] at h2; cases h2
  | some x =>
    rw [hx] at h2; cases h2
    exact .p _ _ (a2 i v x (by simpa [Value.cells] using h1) hx).2

end
end Go.Ab

/- Contracts that leave the result open; calls that hand back new objects. No program is named here. -/
namespace Go.Ab

/-- A function that takes data and hands out data of which something is known. -/
def ACallR (P : Program) (f : FuncId) (args : List D) (Qr : D → Prop) : Prop := ACalls P f args [] fun r obs' => Qr r ∧ obs' = []

theorem ACallP.r {P : Program} {f : FuncId} {args : List D} {r : D} (h : ACallP P f args r) : ACallR P f args (· = r) := h

section
variable {P : Program} {f : FuncId} {caps args : List D} {st : St} {K : D → St → Prop}

/-- A call that hands back new objects. -/
theorem acall_new {args' : List D} {Q : D → List Ob → Prop} (hc : ∀ args w, (callFunc f args).run P w = .ok (.enter f args) w) (h : ACalls P f args' [] Q) (e : (args ++ caps).map (D.map (ren1 [])) = args')
    (k : ∀ r obs', Q r obs' → K (D.map (back [] st.ob.length) r) ⟨st.tm, st.ob ++ obs'.map (renOb (back [] st.ob.length)), st.n0⟩) : AC P st (.fn f caps) args K := by
  subst e
  refine .mk ⟨hc, [], _, List.nodup_nil, fun i hi => (by cases hi), .inl ⟨h, ?_⟩⟩
  rintro r' obs' hq
  refine ⟨Nat.zero_le _, ?_⟩
  simpa [merge, setAll] using k r' obs' hq

end

/-- A function that hands out new objects, by its body: what it hands out is told by temporaries and a list of objects. -/
theorem acalln_fn {P : Program} {f : FuncId} {fn : Func} {c : Code} {args : List D} {Q : D → List Ob → Prop} (ts : List Nat) {n : Nat}
    (hf : P.funcs[f]? = some fn) (hb : fn.body = some c) (hr : fn.results = (ts.map ResultVar.tmp).toArray) (hnt : fn.ntmps = n) (hn : args.length ≤ n)
    (h : ∀ R : Exit → St → Prop, (∀ e st (ids : List Nat), (e = .ret ∨ e = .normal) → st.n0 = 0 → ids.Nodup → Q (resD (st.cut ts ids) ts) (st.cut ts ids).ob → R e st) → AWp P n c R ⟨ofL (startL 0 args), [], 0⟩) : ACalls P f args [] Q := by
  refine acalls_fn ts hf hb hr hnt hn (fun o ho => by cases ho) fun R h1 h2 => ?_
  have := h (fun e st => ∃ ids : List Nat, ((e = .ret ∨ e = .normal) ∧ st.n0 = 0 ∧ ids.Nodup ∧ Q (resD (st.cut ts ids) ts) (st.cut ts ids).ob)) (fun e st ids a b c d => ⟨ids, a, b, c, d⟩)
  intro M H0 w0 w a hi
  refine wp_mono (this M H0 w0 w a hi) ?_
  rintro e a' w' ⟨st', ⟨ids, he, hn0, hd, hq⟩, hi'⟩
  refine ⟨st'.cut ts ids, ?_, hi'.cut ts hd (fun k hk => by rw [hn0] at hk; omega)⟩
  rcases he with rfl | rfl
  · exact h1 _ hq
  · exact h2 _ hq


/-- A nil slice, as a slice without elements. -/
def soft : D → D
  | .nil => .p (.sl [])
  | d => d

theorem V.soft {H : HV} {loc : Nat → Loc} {obs : List Ob} {v : Value} {d : D} (h : V H loc obs v d) : V H loc obs v (D.map soft d) :=
  h.mapOk (ok := fun _ => True) (fun v d h _ _ _ _ => by
    cases d <;> first | exact h | skip
    cases h
    exact .p _ _ (.none _ _)) (D.all_true d)

theorem ACalls.soft {P : Program} {f : FuncId} {args : List D} {obs : List Ob} {Q : D → List Ob → Prop} (h : ACalls P f (args.map (D.map Ab.soft)) obs Q) : ACalls P f args obs Q := by
  intro H loc w vs hs hn hv
  refine h H loc w vs hs (by simpa using hn) fun i v d h1 h2 => ?_
  rw [List.getElem?_map] at h2
  cases hx : args[i]? with
  | none => rw [hx] at h2; cases h2
  | some x => rw [hx] at h2; cases h2; exact (hv i v x h1 hx).soft

theorem ACallP.soft {P : Program} {f : FuncId} {args args' : List D} {r : D} (h : ACallP P f args' r) (e : args.map (D.map Ab.soft) = args') : ACallP P f args r := by
  subst e
  exact ACalls.soft h


theorem awp_seq_kc {P : Program} {nt : Nat} {Q : Exit → St → Prop} {st : St} {x y : Code} (h : ∀ K : St → Prop, (∀ s, AWp P nt y Q s → K s) →
    (∀ s ts ids, ids.Nodup → (∀ k, k < s.n0 → ids[k]? = some k) → K (s.cut ts ids) → K s) → AWp P nt x (andThen K Q) st) : AWp P nt (.seq x y) Q st :=
  awp_seq (h _ (fun _ h => h) (fun _ ts ids hd hp h => awp_cut ts ids hd hp h))

end Go.Ab

/- Arguments that are slices are read as data. No program is named here. -/
namespace Go.Ab
section
variable {P : Program} {t : TypeId}

/-- An argument that is a slice. -/
theorem open_slice {H : Type} {enc : TypeId × Value → H} {W : World} {b0 : Nat} {v : Value} {d : DataW H} {ps : List MemPlace} {e : TypeId} {l : List TypeId} (hl : closedT P l = true) (ht : t ∈ l) (hu : P.underlying t = some (.slice e))
    (hval : Value.okWide P W .any b0 t v) (h : DataW.Trod enc P W 0 (fun _ => true) true t v d ps) (hwt : ∀ n ∈ d.weights P t, n ≤ reachBytes) :
    ∃ x fuel, V (hvOf W) (fun _ => ⟨0, 0, 0, false⟩) [] v (.p x) ∧ shapeOk P fuel t [x] := by
  obtain ⟨a, len, cap, rfl⟩ := Go.WideShapes.okWide_slice hu hval
  obtain ⟨fuel, h⟩ := h
  obtain ⟨xs, ⟨a1, a2⟩, a3⟩ := trod_pv hl fuel t _ _ ht h hwt
  have hx : xs.length = 1 := by rw [a1]; rfl
  match xs, hx with
  | [x], _ => exact ⟨x, fuel, .p _ _ (a2 0 _ _ rfl rfl).2, a3⟩

/-- What one argument of several takes. -/
theorem weight_of {H : Type} {ts : List TypeId} {ds : List (DataW H)} (h : (DataW.weightsEach P ts ds).all (· ≤ reachBytes) = true) {j : Nat} {t : TypeId} {d : DataW H} (ht : ts[j]? = some t) (hd : ds[j]? = some d) :
    ∀ n ∈ d.weights P t, n ≤ reachBytes := fun n hn => by
  have := List.all_eq_true.1 h _ (DataW.weights_mem_each ht hd n hn)
  simpa using this

theorem reach_is : reachBytes = 140737488351232 := by decide

end
end Go.Ab

/- What data of the types of this seat's statements looks like, by a program of this session (genshape.py). -/
namespace Go.Proofs.Ytagphggcdmjlpaa.P4
open Go.Ab
theorem closed : closedT Try.prog [3, 9, 22, 23, 30, 34, 58, 64, 82, 86] = true := by kernel_rfl
theorem c3 : Try.prog.cellsOf 3 = 1 := by kernel_rfl
theorem c9 : Try.prog.cellsOf 9 = 1 := by kernel_rfl
theorem c22 : Try.prog.cellsOf 22 = 1 := by kernel_rfl
theorem c23 : Try.prog.cellsOf 23 = 1 := by kernel_rfl
theorem c30 : Try.prog.cellsOf 30 = 5 := by kernel_rfl
theorem c58 : Try.prog.cellsOf 58 = 1 := by kernel_rfl
theorem c64 : Try.prog.cellsOf 64 = 3 := by kernel_rfl
theorem c86 : Try.prog.cellsOf 86 = 2 := by kernel_rfl
theorem rows34 {f : Nat} : ∀ (rows : List (List PV)), (∀ r, r ∈ rows → r.length = Try.prog.cellsOf 34 ∧ shapeOk Try.prog f 34 r) → ∃ ls : List Int, rows = ls.map (fun x => [.lit (.int .u64 x)]) ∧ ∀ x, x ∈ ls → (Lit.int .u64 x).wf = true
  | [], _ => ⟨[], rfl, fun x hx => by cases hx⟩
  | r :: rows, h => by
    obtain ⟨x, rfl, hx⟩ := shape_int Try.underlying34 (h r List.mem_cons_self).2
    obtain ⟨ls, rfl, hl⟩ := rows34 rows fun r hr => h r (List.mem_cons_of_mem _ hr)
    exact ⟨x :: ls, rfl, fun y hy => by rcases List.mem_cons.1 hy with rfl | hy; exact hx; exact hl y hy⟩

theorem sh22 {f : Nat} {xs : List PV} (h : shapeOk Try.prog f 22 xs) : ∃ x : (List Int), xs = [.sl (x.map fun x => [.lit (.int .u64 x)])] ∧ (x.length ≤ maxLen ∧ (∀ y, y ∈ x → (Lit.int .u64 y).wf = true) ∧ x.length * 8 ≤ 140737488351232) := by
  obtain ⟨n, rows, _, rfl, hmax, hfit, hr⟩ := shape_slice Try.underlying22 h
  obtain ⟨ls, rfl, hl⟩ := rows34 rows hr
  exact ⟨ls, rfl, by simpa using hmax, hl, by rw [show Try.prog.bytesOf 34 = 8 by kernel_rfl, reach_is] at hfit; simpa using hfit⟩

structure Ob1 where
  at_ : Int
  kind : Int
  num : Int
  text : ByteArray
  parts : List Int

def Ob1.row (b : Ob1) : List PV := [.lit (.int .i64 b.at_), .lit (.int .i64 b.kind), .lit (.int .i64 b.num), .lit (.string b.text), .sl (b.parts.map fun x => [.lit (.int .u64 x)])]
def Ob1.ok (b : Ob1) : Prop := (Lit.int .i64 b.at_).wf = true ∧ (Lit.int .i64 b.kind).wf = true ∧ (Lit.int .i64 b.num).wf = true ∧ b.text.size ≤ maxLen ∧ (b.parts.length ≤ maxLen ∧ (∀ y, y ∈ b.parts → (Lit.int .u64 y).wf = true) ∧ b.parts.length * 8 ≤ 140737488351232)
set_option maxRecDepth 100000 in
theorem sh30 {f : Nat} {xs : List PV} (h : shapeOk Try.prog f 30 xs) : ∃ x : Ob1, xs = x.row ∧ x.ok := by
  obtain ⟨m, rfl, hl, hf⟩ := shape_struct Try.underlying30 h
  rw [c30] at hl
  match xs, hl with
  | [q0, q1, q2, q3, q4], _ =>
    have h0 := hf _ List.mem_cons_self
    have h1 := hf _ (List.mem_cons_of_mem _ List.mem_cons_self)
    have h2 := hf _ (List.mem_cons_of_mem _ (List.mem_cons_of_mem _ List.mem_cons_self))
    have h3 := hf _ (List.mem_cons_of_mem _ (List.mem_cons_of_mem _ (List.mem_cons_of_mem _ List.mem_cons_self)))
    have h4 := hf _ (List.mem_cons_of_mem _ (List.mem_cons_of_mem _ (List.mem_cons_of_mem _ (List.mem_cons_of_mem _ List.mem_cons_self))))
    simp only [c3, c9, c22, List.drop_zero, List.drop_succ_cons, List.take_succ_cons, List.take_zero] at h0 h1 h2 h3 h4
    obtain ⟨x0, e0, k0⟩ := shape_int Try.underlying3 h0
    obtain ⟨x1, e1, k1⟩ := shape_int Try.underlying3 h1
    obtain ⟨x2, e2, k2⟩ := shape_int Try.underlying3 h2
    obtain ⟨x3, e3, k3⟩ := shape_string Try.underlying9 h3
    obtain ⟨x4, e4, k4⟩ := sh22 h4
    simp only [List.cons.injEq, and_true] at e0 e1 e2 e3 e4
    exact ⟨⟨x0, x1, x2, x3, x4⟩, by rw [e0, e1, e2, e3, e4]; rfl, k0, k1, k2, k3, k4⟩

theorem sh23 {f : Nat} {xs : List PV} (h : shapeOk Try.prog f 23 xs) : ∃ x : (List Int), xs = [.sl (x.map fun x => [.lit (.int .u64 x)])] ∧ (x.length ≤ maxLen ∧ (∀ y, y ∈ x → (Lit.int .u64 y).wf = true) ∧ x.length * 8 ≤ 140737488351232) := by
  obtain ⟨n, rows, _, rfl, hmax, hfit, hr⟩ := shape_slice Try.underlying23 h
  obtain ⟨ls, rfl, hl⟩ := rows34 rows hr
  exact ⟨ls, rfl, by simpa using hmax, hl, by rw [show Try.prog.bytesOf 34 = 8 by kernel_rfl, reach_is] at hfit; simpa using hfit⟩

theorem rows3 {f : Nat} : ∀ (rows : List (List PV)), (∀ r, r ∈ rows → r.length = Try.prog.cellsOf 3 ∧ shapeOk Try.prog f 3 r) → ∃ ls : List Int, rows = ls.map (fun x => [.lit (.int .i64 x)]) ∧ ∀ x, x ∈ ls → (Lit.int .i64 x).wf = true
  | [], _ => ⟨[], rfl, fun x hx => by cases hx⟩
  | r :: rows, h => by
    obtain ⟨x, rfl, hx⟩ := shape_int Try.underlying3 (h r List.mem_cons_self).2
    obtain ⟨ls, rfl, hl⟩ := rows3 rows fun r hr => h r (List.mem_cons_of_mem _ hr)
    exact ⟨x :: ls, rfl, fun y hy => by rcases List.mem_cons.1 hy with rfl | hy; exact hx; exact hl y hy⟩

theorem sh58 {f : Nat} {xs : List PV} (h : shapeOk Try.prog f 58 xs) : ∃ x : (List Int), xs = [.sl (x.map fun x => [.lit (.int .i64 x)])] ∧ (x.length ≤ maxLen ∧ (∀ y, y ∈ x → (Lit.int .i64 y).wf = true) ∧ x.length * 8 ≤ 140737488351232) := by
  obtain ⟨n, rows, _, rfl, hmax, hfit, hr⟩ := shape_slice Try.underlying58 h
  obtain ⟨ls, rfl, hl⟩ := rows3 rows hr
  exact ⟨ls, rfl, by simpa using hmax, hl, by rw [show Try.prog.bytesOf 3 = 8 by kernel_rfl, reach_is] at hfit; simpa using hfit⟩

structure Ages where
  heap : List Int
  old : Int
  late : List Int

def Ages.row (b : Ages) : List PV := [.sl (b.heap.map fun x => [.lit (.int .u64 x)]), .lit (.int .i64 b.old), .sl (b.late.map fun x => [.lit (.int .i64 x)])]
def Ages.ok (b : Ages) : Prop := (b.heap.length ≤ maxLen ∧ (∀ y, y ∈ b.heap → (Lit.int .u64 y).wf = true) ∧ b.heap.length * 8 ≤ 140737488351232) ∧ (Lit.int .i64 b.old).wf = true ∧ (b.late.length ≤ maxLen ∧ (∀ y, y ∈ b.late → (Lit.int .i64 y).wf = true) ∧ b.late.length * 8 ≤ 140737488351232)
set_option maxRecDepth 100000 in
theorem sh64 {f : Nat} {xs : List PV} (h : shapeOk Try.prog f 64 xs) : ∃ x : Ages, xs = x.row ∧ x.ok := by
  obtain ⟨m, rfl, hl, hf⟩ := shape_struct Try.underlying64 h
  rw [c64] at hl
  match xs, hl with
  | [q0, q1, q2], _ =>
    have h0 := hf _ List.mem_cons_self
    have h1 := hf _ (List.mem_cons_of_mem _ List.mem_cons_self)
    have h2 := hf _ (List.mem_cons_of_mem _ (List.mem_cons_of_mem _ List.mem_cons_self))
    simp only [c3, c23, c58, List.drop_zero, List.drop_succ_cons, List.take_succ_cons, List.take_zero] at h0 h1 h2
    obtain ⟨x0, e0, k0⟩ := sh23 h0
    obtain ⟨x1, e1, k1⟩ := shape_int Try.underlying3 h1
    obtain ⟨x2, e2, k2⟩ := sh58 h2
    simp only [List.cons.injEq, and_true] at e0 e1 e2
    exact ⟨⟨x0, x1, x2⟩, by rw [e0, e1, e2]; rfl, k0, k1, k2⟩

structure Blo where
  text : ByteArray
  many : Int

def Blo.row (b : Blo) : List PV := [.lit (.string b.text), .lit (.int .i64 b.many)]
def Blo.ok (b : Blo) : Prop := b.text.size ≤ maxLen ∧ (Lit.int .i64 b.many).wf = true
set_option maxRecDepth 100000 in
theorem sh86 {f : Nat} {xs : List PV} (h : shapeOk Try.prog f 86 xs) : ∃ x : Blo, xs = x.row ∧ x.ok := by
  obtain ⟨m, rfl, hl, hf⟩ := shape_struct Try.underlying86 h
  rw [c86] at hl
  match xs, hl with
  | [q0, q1], _ =>
    have h0 := hf _ List.mem_cons_self
    have h1 := hf _ (List.mem_cons_of_mem _ List.mem_cons_self)
    simp only [c3, c9, List.drop_zero, List.drop_succ_cons, List.take_succ_cons, List.take_zero] at h0 h1
    obtain ⟨x0, e0, k0⟩ := shape_string Try.underlying9 h0
    obtain ⟨x1, e1, k1⟩ := shape_int Try.underlying3 h1
    simp only [List.cons.injEq, and_true] at e0 e1
    exact ⟨⟨x0, x1⟩, by rw [e0, e1]; rfl, k0, k1⟩

theorem rows86 {f : Nat} : ∀ (rows : List (List PV)), (∀ r, r ∈ rows → r.length = Try.prog.cellsOf 86 ∧ shapeOk Try.prog f 86 r) → ∃ ls : List Blo, rows = ls.map (Blo.row) ∧ ∀ x, x ∈ ls → x.ok
  | [], _ => ⟨[], rfl, fun x hx => by cases hx⟩
  | r :: rows, h => by
    obtain ⟨x, rfl, hx⟩ := sh86 (h r List.mem_cons_self).2
    obtain ⟨ls, rfl, hl⟩ := rows86 rows fun r hr => h r (List.mem_cons_of_mem _ hr)
    exact ⟨x :: ls, rfl, fun y hy => by rcases List.mem_cons.1 hy with rfl | hy; exact hx; exact hl y hy⟩

theorem sh82 {f : Nat} {xs : List PV} (h : shapeOk Try.prog f 82 xs) : ∃ x : (List Blo), xs = [.sl (x.map Blo.row)] ∧ (x.length ≤ maxLen ∧ (∀ y, y ∈ x → y.ok) ∧ x.length * 24 ≤ 140737488351232) := by
  obtain ⟨n, rows, _, rfl, hmax, hfit, hr⟩ := shape_slice Try.underlying82 h
  obtain ⟨ls, rfl, hl⟩ := rows86 rows hr
  exact ⟨ls, rfl, by simpa using hmax, hl, by rw [show Try.prog.bytesOf 86 = 24 by kernel_rfl, reach_is] at hfit; simpa using hfit⟩
end Go.Proofs.Ytagphggcdmjlpaa.P4

/- Plain facts on lists that contracts of the library's functions speak of. No program is named here. -/
namespace Go.Ab

/-- Are two lists one, by a test of their elements? -/
def listEq {α : Type} (e : α → α → Bool) (a b : List α) : Bool := a.length == b.length && (a.zip b).all fun p => e p.1 p.2

theorem lt_of_get {α : Type} {l : List α} {i : Nat} {x : α} (h : l[i]? = some x) : i < l.length := by
  rcases Nat.lt_or_ge i l.length with h' | h'
  · exact h'
  · simp [List.getElem?_eq_none h'] at h

theorem get_of_lt {α : Type} {l : List α} {i : Nat} (h : i < l.length) : ∃ x, l[i]? = some x := ⟨_, List.getElem?_eq_getElem h⟩

theorem listEq_of {α : Type} {e : α → α → Bool} {a b : List α} (hl : a.length = b.length) (h : ∀ (j : Nat) x y, a[j]? = some x → b[j]? = some y → e x y = true) : listEq e a b = true := by
  unfold listEq
  simp only [hl, beq_self_eq_true, Bool.true_and, List.all_eq_true]
  rintro ⟨x, y⟩ hp
  obtain ⟨j, hj⟩ := List.getElem?_of_mem hp
  rw [List.getElem?_zip_eq_some] at hj
  exact h j x y hj.1 hj.2

theorem listEq_len {α : Type} {e : α → α → Bool} {a b : List α} (hl : a.length ≠ b.length) : listEq e a b = false := by
  unfold listEq
  simp [hl]

theorem listEq_not {α : Type} {e : α → α → Bool} {a b : List α} {j : Nat} {x y : α} (hx : a[j]? = some x) (hy : b[j]? = some y) (h : e x y = false) : listEq e a b = false := by
  unfold listEq
  have : (a.zip b).all (fun p => e p.1 p.2) = false := by
    rw [List.all_eq_false]
    exact ⟨(x, y), List.mem_of_getElem? (List.getElem?_zip_eq_some.2 ⟨hx, hy⟩), by simp [h]⟩
  rw [this, Bool.and_false]

theorem listEq_iff {α : Type} {e : α → α → Bool} (he : ∀ x y, e x y = true ↔ x = y) {a b : List α} : listEq e a b = true ↔ a = b := by
  constructor
  · intro h
    by_cases hl : a.length = b.length
    · refine List.ext_getElem? fun j => ?_
      by_cases hj : j < a.length
      · obtain ⟨x, hx⟩ := get_of_lt hj
        obtain ⟨y, hy⟩ := get_of_lt (l := b) (i := j) (by omega)
        by_cases hxy : e x y = true
        · rw [hx, hy, (he x y).1 hxy]
        · rw [listEq_not hx hy (by simpa using hxy)] at h; cases h
      · rw [List.getElem?_eq_none (by omega), List.getElem?_eq_none (by omega)]
    · rw [listEq_len hl] at h; cases h
  · rintro rfl
    exact listEq_of rfl fun j x y hx hy => (he x y).2 (by rw [hx] at hy; exact Option.some.inj hy)

theorem wrap_small {n : Int} (h0 : -9223372036854775808 ≤ n) (h1 : n ≤ 9223372036854775807) : IntKind.i64.wrap n = n := by
  simp only [IntKind.wrap, IntKind.bits, IntKind.signed]
  simp
  omega

theorem wrap_next {i n : Nat} (h : i < n) (hn : n ≤ maxLen) : IntKind.i64.wrap ((i : Int) + 1) = ((i + 1 : Nat) : Int) := by
  rw [wrap_small (by omega) (by simp [maxLen] at hn; omega)]
  rfl

/-- The place of the first. -/
def firstAt {α : Type} (p : α → Bool) (l : List α) : Int := match l.findIdx? p with | some i => i | none => -1

theorem firstAt_at {α : Type} {p : α → Bool} {l : List α} {i : Nat} {x : α} (h : ∀ j, j < i → ∀ y, l[j]? = some y → p y = false) (hx : l[i]? = some x) (hp : p x = true) : firstAt p l = i := by
  unfold firstAt
  have : l.findIdx? p = some i := by
    rw [List.findIdx?_eq_some_iff_getElem]
    have hlt : i < l.length := lt_of_get hx
    refine ⟨hlt, ?_, fun j hj => ?_⟩
    · rw [List.getElem?_eq_getElem hlt] at hx; cases hx; exact hp
    · have := h j hj l[j] (List.getElem?_eq_getElem (by omega))
      simp [this]
  rw [this]

theorem firstAt_none {α : Type} {p : α → Bool} {l : List α} (h : ∀ (j : Nat) (y : α), l[j]? = some y → p y = false) : firstAt p l = -1 := by
  unfold firstAt
  have : l.findIdx? p = none := by
    rw [List.findIdx?_eq_none_iff]
    intro x hx
    obtain ⟨j, hj⟩ := List.getElem?_of_mem hx
    exact h j x hj
  rw [this]

theorem firstAt_nonneg {α : Type} {p : α → Bool} {l : List α} : decide (firstAt p l ≥ 0) = l.any p := by
  unfold firstAt
  cases h : l.findIdx? p with
  | none => simp only []; rw [List.findIdx?_eq_none_iff] at h; simp; exact fun x hx => h x hx
  | some i =>
    have : ∃ x, x ∈ l ∧ p x = true := by
      rw [List.findIdx?_eq_some_iff_getElem] at h
      obtain ⟨hl, h1, _⟩ := h
      exact ⟨_, List.getElem_mem hl, h1⟩
    simp; exact this

theorem take_succ_of {α : Type} {l : List α} {i : Nat} {x : α} (h : l[i]? = some x) : l.take (i + 1) = l.take i ++ [x] := by
  rw [List.take_add_one, h]; rfl

theorem drop_of {α : Type} {l : List α} {i : Nat} {x : α} (h : l[i]? = some x) : l.drop i = x :: l.drop (i + 1) := by
  have hlt := lt_of_get h
  rw [List.drop_eq_getElem_cons hlt]
  rw [List.getElem?_eq_getElem hlt] at h
  cases h; rfl

/-- How many elements come ahead of what is looked for. -/
def posOf {α : Type} (c : α → Int) (l : List α) : Nat := l.findIdx fun x => decide (0 ≤ c x)

/-- Is it there? -/
def isAt {α : Type} (c : α → Int) (l : List α) : Bool := match l[posOf c l]? with | some x => c x == 0 | none => false

/-- What the search needs of an order. -/
def Rising {α : Type} (c : α → Int) (l : List α) : Prop := ∀ (i j : Nat) x y, i < j → l[i]? = some x → l[j]? = some y → c y < 0 → c x < 0

theorem posOf_eq {α : Type} {c : α → Int} {l : List α} {i : Nat} (hi : i ≤ l.length) (h1 : ∀ (k : Nat) x, k < i → l[k]? = some x → c x < 0) (h2 : ∀ (k : Nat) x, i ≤ k → l[k]? = some x → 0 ≤ c x) : posOf c l = i := by
  unfold posOf
  rcases Nat.lt_or_ge i l.length with h | h
  · rw [List.findIdx_eq h]
    refine ⟨by simpa using h2 i _ (Nat.le_refl _) (List.getElem?_eq_getElem h), fun j hj => ?_⟩
    have := h1 j _ hj (List.getElem?_eq_getElem (by omega))
    simp only [decide_eq_false_iff_not]; omega
  · have e : i = l.length := by omega
    subst e
    rw [List.findIdx_eq_length]
    intro x hx
    obtain ⟨k, hk⟩ := List.getElem?_of_mem hx
    have := h1 k x (lt_of_get hk) hk
    simp only [decide_eq_false_iff_not]; omega

theorem mid_eq {i j : Nat} (h : i + j < 18446744073709551616) : IntKind.i64.wrap ((IntKind.u64.wrap (IntKind.i64.wrap ((i : Int) + (j : Int)))).fdiv (2 ^ min 1 64)) = (((i + j) / 2 : Nat) : Int) := by
  have e : (2 : Int) ^ (min 1 64) = 2 := by decide
  rw [e, Int.fdiv_eq_ediv_of_nonneg _ (by decide)]
  simp only [IntKind.wrap, IntKind.bits, IntKind.signed]
  simp
  omega

end Go.Ab

/- A region whose end is told by the values that it turns. No program is named here. -/
namespace Go.Ab

/-- A value, or what is told of it anew. -/
def overD : List (Nat × D) → Nat → D → D
  | [], _, d => d
  | (j, x) :: l, k, d => if j = k then x else overD l k d

/-- The state behind a region: some temporaries, some of them told anew. -/
def St.tov (st : St) (ts : List Nat) (vs : List (Nat × D)) : St := ⟨ofL (ts.map fun k => (k, overD vs k (st.tm k))), st.ob, st.n0⟩

theorem awp_reg_tov {P : Program} {nt : Nat} {Q : Exit → St → Prop} {st : St} {id : Nat} {l : List Oper} {y : Code} (ts : List Nat) (vs : List (Nat × D)) (h : alist (aop P) nt l.toArray l st fun st' => st.tov ts vs = st'.keep ts)
    (k : ∀ K : St → Prop, (∀ s, AWp P nt y Q s → K s) → K (st.tov ts vs)) : AWp P nt (.seq (.region id l.toArray false) y) Q st :=
  awp_reg_to ts (st.tov ts vs) h (k _ fun _ h => h)

theorem awp_reg_end_tov {P : Program} {nt : Nat} {Q : Exit → St → Prop} {st : St} {id : Nat} {l : List Oper} (ts : List Nat) (vs : List (Nat × D)) (h : alist (aop P) nt l.toArray l st fun st' => st.tov ts vs = st'.keep ts)
    (k : ∀ K : St → Prop, (∀ s, Q .normal s → K s) → K (st.tov ts vs)) : AWp P nt (.region id l.toArray false) Q st :=
  awp_reg_end_to ts (st.tov ts vs) h (k _ fun _ h => h)

theorem AH.mono {P : Program} {nt : Nat} {md : Region.Mode} {ops : Array Oper} {K K' : St → Prop} {fuel : Nat} {listed : Array Bool} {st : St} (hk : ∀ s, K s → K' s) (h : AH P nt md ops K fuel listed st) : AH P nt md ops K' fuel listed st :=
  fun M H0 w0 w a hi Q hQ hn => h M H0 w0 w a hi Q hQ fun st' a' w' k i => hn st' a' w' (hk _ k) i

/-- A loop, by what holds at each round's head; at its end a round may let go of objects, and number them anew. -/
theorem awp_loop_cut {P : Program} {nt : Nat} {Q : Exit → St → Prop} {st : St} {c : Code} (I : Nat → St → Prop) (h0 : ∃ n, I n st)
    (round : ∀ n s, I n s → AWp P nt c (andThen (fun s' => ∃ m, m < n ∧ ∃ ts ids, ids.Nodup ∧ (∀ k, k < s'.n0 → ids[k]? = some k) ∧ I m (s'.cut ts ids)) Q) s) : AWp P nt (.loop c) Q st := by
  classical
  intro M H0 w0 w a hi
  let J : Act → World → Nat → Prop := fun a w n => ∃ s, I n s ∧ Is M H0 w0 nt s a w
  let μ : Act → World → Nat := fun a w => if h : ∃ n, J a w n then Classical.choose (exists_least h) else 0
  have hμ : ∀ a w n, J a w n → J a w (μ a w) ∧ μ a w ≤ n := fun a w n hJ => by
    have hx : ∃ n, J a w n := ⟨n, hJ⟩
    have := Classical.choose_spec (exists_least hx)
    simp only [μ, dif_pos hx]
    exact ⟨this.1, this.2 n hJ⟩
  refine wp_loop (fun a w => ∃ n, J a w n) μ ?_ ?_
  · obtain ⟨n, hn⟩ := h0; exact ⟨n, st, hn, hi⟩
  · rintro a w ⟨n, hJ⟩
    obtain ⟨⟨s, hI, hs⟩, _⟩ := hμ a w n hJ
    refine wp_mono (round _ s hI M H0 w0 w a hs) ?_
    rintro e a' w' ⟨s', q, i'⟩
    cases e with
    | normal =>
      obtain ⟨m, hm, ts, ids, hd, hp, hI'⟩ := q
      have := hμ a' w' m ⟨s'.cut ts ids, hI', i'.cut ts hd hp⟩
      exact ⟨⟨m, _, hI', i'.cut ts hd hp⟩, Nat.lt_of_le_of_lt this.2 hm⟩
    | _ => exact ⟨s', q, i'⟩

/-- Nothing is a row without elements. -/
theorem awp_born {P : Program} {nt : Nat} {Q : Exit → St → Prop} {c : Code} {l : List (Nat × D)} {ob : List Ob} {n0 : Nat} (t s : Nat) (h0 : ofL l t = .nil) (h : AWp P nt c Q ⟨ofL ((t, .ref ob.length 0 0) :: l), ob ++ [.row s []], n0⟩) :
    AWp P nt c Q ⟨ofL l, ob, n0⟩ := by
  rintro M H0 w0 w a ⟨H, loc, r⟩
  obtain ⟨loc', r', hv⟩ := r.newEmpty s none
  refine h M H0 w0 w a ⟨H, loc', r'.sr, fun k => ?_, r'.sz, r'.df, r'.gr, r'.own, r'.n0, r'.ent⟩
  show V H loc' (ob ++ [.row s []]) _ (ofL ((t, .ref ob.length 0 0) :: l) k)
  by_cases e : t = k
  · subst e
    rw [show ofL ((t, D.ref ob.length 0 0) :: l) t = .ref ob.length 0 0 from if_pos rfl]
    have := r.tm t
    dsimp only at this
    rw [h0] at this
    generalize a.tmps.getD t undef = v at this
    cases this
    exact hv
  · rw [show ofL ((t, D.ref ob.length 0 0) :: l) k = ofL l k from if_neg e]
    exact r'.tm k

/-- The same of a cell of a variable. -/
theorem awp_born_box {P : Program} {nt : Nat} {Q : Exit → St → Prop} {c : Code} {st : St} (id j s : Nat) {cs : List D} (hb : st.ob[id]? = some (.box cs)) (hj : cs[j]? = some .nil)
    (h : AWp P nt c Q ⟨st.tm, (st.ob ++ [Ob.row s []]).set id (.box (cs.set j (.ref st.ob.length 0 0))), st.n0⟩) : AWp P nt c Q st := by
  rintro M H0 w0 w a ⟨H, loc, r⟩
  obtain ⟨loc', r', hv⟩ := r.newEmpty s none
  have hidl := lt_of_get hb
  have hb' : (st.ob ++ [Ob.row s []])[id]? = some (.box cs) := by rw [List.getElem?_append_left hidl]; exact hb
  obtain ⟨hr, arr, e, h1, h2, h3, h4⟩ := r'.sr.obj id _ hb'
  refine h M H0 w0 w a ⟨H, loc', r'.setOb (o' := .box (cs.set j (.ref st.ob.length 0 0))) hb' rfl hr (by simp [Ob.sameShape]) (fun _ _ => rfl) rfl rfl rfl rfl ?_⟩
  refine ⟨hr, arr, e, h1, h2, by simpa using h3, fun k d hk => ?_⟩
  have hturn := turns_set (loc := loc') hb' (show (Ob.box cs).sameShape (.box (cs.set j (.ref st.ob.length 0 0))) by simp [Ob.sameShape])
  rw [List.getElem?_set] at hk
  split at hk
  · rename_i e1
    subst e1
    split at hk
    · cases hk
      obtain ⟨v, a1, a2, a3⟩ := h4 j _ hj
      refine ⟨v, a1, a2, ?_⟩
      cases a3
      exact hv.turn (.refl H) hturn
    · cases hk
  · obtain ⟨v, a1, a2, a3⟩ := h4 k d hk
    exact ⟨v, a1, a2, a3.turn (.refl H) hturn⟩

theorem cast0 : ((0 : Nat) : Int) = 0 := rfl
theorem cast1 : ((1 : Nat) : Int) = 1 := rfl
theorem cast2 : ((2 : Nat) : Int) = 2 := rfl
theorem cast3 : ((3 : Nat) : Int) = 3 := rfl

attribute [go_sem] cast0 cast1 cast2 cast3 overD St.tov

end Go.Ab

/- Functions that take objects and hand objects out, told whole; results in variables. No program is named here. -/
namespace Go.Ab

/-- A function by its body, with objects handed over and objects handed out. -/
theorem acallm_fn {P : Program} {f : FuncId} {fn : Func} {c : Code} {args : List D} {obs : List Ob} {Q : D → List Ob → Prop} (ts : List Nat) {n : Nat}
    (hf : P.funcs[f]? = some fn) (hb : fn.body = some c) (hr : fn.results = (ts.map ResultVar.tmp).toArray) (hnt : fn.ntmps = n) (hn : args.length ≤ n) (hub : ∀ o, o ∈ obs → o ≠ .unborn)
    (h : ∀ R : Exit → St → Prop, (∀ e st (ids : List Nat), (e = .ret ∨ e = .normal) → st.n0 = obs.length → ids.Nodup → (∀ k, k < obs.length → ids[k]? = some k) → Q (resD (st.cut ts ids) ts) (st.cut ts ids).ob → R e st) →
      AWp P n c R ⟨ofL (startL 0 args), obs, obs.length⟩) : ACalls P f args obs Q := by
  refine acalls_fn ts hf hb hr hnt hn hub fun R h1 h2 => ?_
  have := h (fun e st => ∃ ids : List Nat, ((e = .ret ∨ e = .normal) ∧ st.n0 = obs.length ∧ ids.Nodup ∧ (∀ k, k < obs.length → ids[k]? = some k) ∧ Q (resD (st.cut ts ids) ts) (st.cut ts ids).ob)) (fun e st ids a b c d e' => ⟨ids, a, b, c, d, e'⟩)
  intro M H0 w0 w a hi
  refine wp_mono (this M H0 w0 w a hi) ?_
  rintro e a' w' ⟨st', ⟨ids, he, hn0, hd, hp, hq⟩, hi'⟩
  refine ⟨st'.cut ts ids, ?_, hi'.cut ts hd (fun k hk => hp k (by rw [hn0] at hk; exact hk))⟩
  rcases he with rfl | rfl
  · exact h1 _ hq
  · exact h2 _ hq

theorem Rel.cut {M : En} {H0 : HV} {w0 : World} {nt : Nat} {H : HV} {loc : Nat → Loc} {st : St} {a : Act} {w : World} (r : Rel M H0 w0 nt H loc w st a) (ts : List Nat) {ids : List Nat} (hd : ids.Nodup) (hp : ∀ k, k < st.n0 → ids[k]? = some k) :
    Rel M H0 w0 nt H (fun k => loc (ids.getD k 0)) w (st.cut ts ids) a := by
  refine ⟨r.sr.ren hd, fun t => ?_, r.sz, r.df, r.gr, fun k o ho hv hr => ?_, r.n0, fun k o ho => ?_⟩
  · have e : (st.cut ts ids).tm t = keepTm ts (fun t => D.map (ren1 ids) (st.tm t)) t := rfl
    rw [e]
    rcases keepTm_is ts (fun t => D.map (ren1 ids) (st.tm t)) t with h | h
    · rw [h]; exact (r.tm t).map (leafy_ren H loc st.ob ids)
    · rw [h]; exact .none _
  · obtain ⟨i, o', hi, rfl, hx⟩ := newObs_of ho
    rw [renOb_live] at hv
    have hl : loc (ids.getD k 0) = loc i := by simp [List.getD_eq_getElem?_getD, hi]
    have hr2 : (loc (ids.getD k 0)).r = true := hr
    show M.M (loc (ids.getD k 0)).b ∨ _ ≤ (loc (ids.getD k 0)).b
    rw [hl] at hr2 ⊢
    rcases hx with hx | rfl
    · exact r.own i o' hx hv hr2
    · cases hv
  · have hk : k < st.n0 := by
      rw [← r.n0]
      rcases Nat.lt_or_ge k M.ob.length with h' | h'
      · exact h'
      · simp [List.getElem?_eq_none h'] at ho
    have hk2 := hp k hk
    have hl : loc (ids.getD k 0) = loc k := by simp [List.getD_eq_getElem?_getD, hk2]
    rcases r.ent k o ho with h1 | ⟨o', h1, h2, h3⟩
    · exact .inl (newObs_get hk2 h1)
    · refine .inr ⟨_, newObs_get hk2 h1, ?_, ?_⟩
      · cases o' <;> cases o <;> simp_all [Ob.sameShape, renOb, D.mapL_eq]
      · show loc (ids.getD k 0) = _
        rw [hl]; exact h3


/-- The same, some results in variables. -/
theorem acallm_fnv {P : Program} {f : FuncId} {fn : Func} {c : Code} {args : List D} {obs : List Ob} {Q : D → List Ob → Prop} (rs : List ResultVar) {n : Nat}
    (hf : P.funcs[f]? = some fn) (hb : fn.body = some c) (hr : fn.results = rs.toArray) (hnt : fn.ntmps = n) (hn : args.length ≤ n) (hub : ∀ o, o ∈ obs → o ≠ .unborn)
    (h : ∀ R : Exit → St → Prop, (∀ e st, (e = .ret ∨ e = .normal) → st.n0 = obs.length → (∃ (ids : List Nat) (d : D), ids.Nodup ∧ (∀ k, k < obs.length → ids[k]? = some k) ∧ (rvsD P st rs).map joinD = some d ∧ Q (D.map (ren1 ids) d) (newObs st.ob ids)) → R e st) →
      AWp P n c R ⟨ofL (startL 0 args), obs, obs.length⟩) : ACalls P f args obs Q := by
  subst hnt
  rintro H loc w vs hs hvs hv
  refine calls_of_wp hf hb ?_
  let M : Nat → Prop := fun b => ∃ (i : Nat) (o : Ob), obs[i]? = some o ∧ o.live = true ∧ (loc i).r = true ∧ (loc i).b = b
  have hi : Is ⟨M, obs, loc⟩ H w fn.ntmps ⟨ofL (startL 0 args), obs, obs.length⟩ { tmps := vs ++ Array.replicate (fn.ntmps - vs.size) undef, defers := [] } w := by
    refine ⟨H, loc, hs, fun t => ?_, ?_, rfl, Grows.refl _ _ _, fun i o ho hl hr => .inl ⟨i, o, ho, hl, hr, rfl⟩, rfl, fun k o ho => .inr ⟨o, ho, Ob.sameShape_refl o (hub o (List.mem_of_getElem? ho)), rfl⟩⟩
    · rw [← startTm_eq]
      simp only [startTm]
      by_cases ht : t < args.length
      · have h1 : args[t]? = some args[t] := List.getElem?_eq_getElem ht
        have h2 : vs[t]? = some vs[t] := Array.getElem?_eq_getElem (by omega)
        have := hv t vs[t] args[t] h2 h1
        have e1 : (vs ++ Array.replicate (fn.ntmps - vs.size) undef).getD t undef = vs[t] := by
          rw [Array.getD_eq_getD_getElem?, Array.getElem?_append_left (by omega), h2]; rfl
        rw [e1, List.getD_eq_getElem?_getD, h1]; exact this
      · have h1 : args.getD t .none = .none := by rw [List.getD_eq_getElem?_getD, List.getElem?_eq_none (by omega)]; rfl
        rw [h1]; exact .none _
    · simp; omega
  have hw := h (fun e st => (e = .ret ∨ e = .normal) ∧ st.n0 = obs.length ∧ ∃ (ids : List Nat) (d : D), ids.Nodup ∧ (∀ k, k < obs.length → ids[k]? = some k) ∧ (rvsD P st rs).map joinD = some d ∧ Q (D.map (ren1 ids) d) (newObs st.ob ids)) (fun e st a b c => ⟨a, b, c⟩)
  refine wp_mono (hw ⟨M, obs, loc⟩ H w w _ hi) ?_
  rintro e a' w' ⟨st', ⟨he, hn0, ids, d, hd, hp, hq, hQ⟩, H', loc', r⟩
  obtain ⟨ds, hds, rfl⟩ : ∃ ds, rvsD P st' rs = some ds ∧ joinD ds = d := by
    cases hx : rvsD P st' rs with
    | none => rw [hx] at hq; cases hq
    | some ds => rw [hx] at hq; exact ⟨ds, rfl, Option.some.inj hq⟩
  obtain ⟨v, hv1, hv2⟩ := run_results (P := P) r hr hds
  have hv3 := hv2.map (leafy_ren H' loc' st'.ob ids)
  have r := r.cut [] hd (fun k hk => hp k (by rw [hn0] at hk; exact hk))
  have post : bodyPost P fn (fun e w' => ∃ v H' loc' r obs', Q r obs' ∧ e = .returned v ∧ V H' loc' obs' v r ∧ Sr H' loc' obs' w' ∧ Grows M H H' w w' ∧
      (∀ (i : Nat) o, obs'[i]? = some o → o.live = true → (loc' i).r = true → (∃ (k : Nat) (o' : Ob), obs[k]? = some o' ∧ o'.live = true ∧ (loc k).r = true ∧ (loc k).b = (loc' i).b) ∨ w.heap.size ≤ (loc' i).b) ∧ stays obs obs' loc loc') .ret a' w' :=
    ⟨r.df, v, hv1, v, H', _, _, _, hQ, rfl, hv3, r.sr, r.gr, fun i o ho hl hr => (r.own i o ho hl hr).imp (fun ⟨k, o', a, b, c, d⟩ => ⟨k, o', a, b, c, d⟩) id, r.ent⟩
  rcases he with rfl | rfl
  · exact post
  · exact post

section
variable {P : Program} {f : FuncId} {caps args : List D} {st : St} {K : D → St → Prop}

/-- A call to which objects are lent. -/
theorem acall_m {args' : List D} {obs : List Ob} {Q : D → List Ob → Prop} (ids : List Nat) (hc : ∀ args w, (callFunc f args).run P w = .ok (.enter f args) w) (h : ACalls P f args' obs Q) (e : (args ++ caps).map (D.map (ren1 ids)) = args') (hob : newObs st.ob ids = obs)
    (hd : ids.Nodup) (hlt : ∀ i, i ∈ ids → i < st.ob.length) (k : ∀ r obs', Q r obs' → ids.length ≤ obs'.length ∧ K (D.map (back ids st.ob.length) r) ⟨st.tm, merge st.ob ids obs', st.n0⟩) : AC P st (.fn f caps) args K := by
  subst e
  subst hob
  exact .mk ⟨hc, ids, Q, hd, hlt, .inl ⟨h, k⟩⟩

end

/-- What is left of a list. -/
abbrev left {α : Type} (p : α → Bool) (l : List α) : List α := l.filter fun x => !p x

end Go.Ab

/- A row of data is turned into a row of cells, so that a cell may hold a slice of the call's own. No program is named here. -/
namespace Go.Ab

/-- A row's elements, as cells. -/
def cellsOf (xs : List (List PV)) : List D := xs.flatten.map .p

def toG (id s : Nat) : D → D
  | .ref k off len => if k = id then (if len = 0 then .none else .gref id s off len) else .ref k off len
  | .ptr k i j => if k = id then .ptr id 0 (i * s + j) else .ptr k i j
  | d => d

attribute [go_sem] toG
end Go.Ab

/- What slices.Insert's steps do to the cells of rows whose elements have several cells. No program is named here. -/
namespace Go.Ab
open Go.Proofs Go.Shelf Go.RowKit Go.Lib

theorem run_copy_k {P : Program} (w : World) (dT sT ty elem : TypeId) (k b o dLen dCap : Nat) (a : Addr) (sLen sCap : Nat) (cs : List Value)
    (hu : P.underlying dT = some (.slice elem)) (hs : (P.info? elem).map (·.size) = some k) (hn : cs.length = Nat.min sLen dLen * k)
    (hsrc : ∀ j v, cs[j]? = some v → w.cell? (a.add j) = some v) (hc : ∀ j, j < cs.length → (w.cell? ⟨b, o + j, none⟩).isSome = true) (hf : ∀ j, j < cs.length → w.frozen? ⟨b, o + j, none⟩ = false) (h1 : ∀ v ∈ cs, v.oneCell' = true) :
    (Builtin.copy_ #[dT, sT] ty #[.slice (some ⟨b, o, none⟩) dLen dCap, .slice (some a) sLen sCap]).run P w = .ok (goInt (Nat.min sLen dLen)) (w.setCells b o cs) := by
  have hl := run_loadCells_list (P := P) w a cs hsrc
  have hst := run_storeCells_cells (P := P) b o cs 0 w (by simpa using hc) (by simpa using hf) h1
  cases hq : P.info? elem with
  | none => simp [hq] at hs
  | some i =>
    have hi : i.size = k := by simpa [hq] using hs
    simp [Builtin.copy_, run_underlying hu, Builtin.lenOf, Builtin.firstCells, sizeOf, typeInfo, hq, hi, ← hn, hl, hst]
end Go.Ab

/- slices.Insert of one element into a row of one's own, as a call over objects: out of what it does to the cells. No program is named here. -/
namespace Go.Ab
open Go.Proofs Go.Shelf Go.RowKit Go.Lib

/-- A call's begin, as a relation. -/
theorem entry_rel {H : HV} {loc : Nat → Loc} {obs : List Ob} {w : World} (hsr : Sr H loc obs w) (hub : ∀ o, o ∈ obs → o ≠ .unborn) :
    Rel ⟨fun b => ∃ (i : Nat) (o : Ob), obs[i]? = some o ∧ o.live = true ∧ (loc i).r = true ∧ (loc i).b = b, obs, loc⟩ H w 0 H loc w ⟨fun _ => .none, obs, obs.length⟩ ⟨#[], []⟩ where
  sr := hsr
  tm := fun _ => .none _
  sz := rfl
  df := rfl
  gr := .refl _ _ _
  own := fun i o ho hl hr => .inl ⟨i, o, ho, hl, hr, rfl⟩
  n0 := rfl
  ent := fun k o ho => .inr ⟨o, ho, Ob.sameShape_refl o (hub o (List.mem_of_getElem? ho)), rfl⟩

/-- Blocks more. -/
theorem Rel.wider {M : En} {H0 : HV} {w0 : World} {nt : Nat} {H : HV} {loc : Nat → Loc} {w w' : World} {st : St} {a : Act} (r : Rel M H0 w0 nt H loc w st a) (hw : ∀ b, b < w.heap.size → w'.heap[b]? = w.heap[b]?) (hsz : w.heap.size ≤ w'.heap.size)
    (hos : w'.os = w.os) (htp : w'.tape = w.tape) (hout : w'.output = w.output) : Rel M H0 w0 nt H loc w' st a where
  sr := ⟨fun b c hb => by rw [hw b (r.sr.H_lt hb)]; exact r.sr.heap b c hb, fun i o ho => by
    cases hl : o.live with
    | false => cases o <;> first | trivial | cases hl
    | true => exact Ob.holds_turn (.refl H) (Turns.refl _ _) (fun hr => hw _ (r.sr.live_lt ho hl hr)) (r.sr.obj i o ho), r.sr.apart, r.sr.inj⟩
  tm := r.tm
  sz := r.sz
  df := r.df
  gr := ⟨hos.trans r.gr.os, htp.trans r.gr.tape, hout.trans r.gr.output, Nat.le_trans r.gr.size hsz, fun b hb hm => (hw b (Nat.lt_of_lt_of_le hb r.gr.size)).trans (r.gr.kept b hb hm), r.gr.more, r.gr.new⟩
  own := r.own
  n0 := r.n0
  ent := r.ent

/-- A row's cells. -/
theorem row_cells {H : HV} {loc : Nat → Loc} {obs : List Ob} {w : World} (hsr : Sr H loc obs w) {id s : Nat} {xs : List (List PV)} (ho : obs[id]? = some (.row s xs)) (hr : (loc id).r = true) :
    ∃ (c : Array Value) (e : TypeId) (cs : List Value), w.heap[(loc id).b]? = some (.cells c e (0, 0)) ∧ c.size = (loc id).n ∧ (loc id).o + xs.length * s ≤ (loc id).n ∧ (∀ x, x ∈ xs → x.length = s) ∧ cs.length = xs.length * s ∧
      (∀ (j : Nat) v, cs[j]? = some v → c[(loc id).o + j]? = some v) ∧ (∀ v, v ∈ cs → v.oneCell' = true) ∧
      ∀ (i : Nat) x, xs[i]? = some x → ∀ (j : Nat) y, x[j]? = some y → ∃ u, cs[i * s + j]? = some u ∧ u.oneCell' = true ∧ PVr H u y := by
  rcases hsr.obj id _ ho with ⟨hx, _⟩ | ⟨_, c, e, h1, h2, h3, h4, h5⟩
  · rw [hr] at hx; cases hx
  have hlen : ((c.toList.drop (loc id).o).take (xs.length * s)).length = xs.length * s := by
    have hcl : c.toList.length = c.size := Array.length_toList
    rw [List.length_take, List.length_drop, hcl]; exact Nat.min_eq_left (by omega)
  have hget : ∀ (j : Nat), j < xs.length * s → ((c.toList.drop (loc id).o).take (xs.length * s))[j]? = c[(loc id).o + j]? := fun j hj => by
    rw [List.getElem?_take, if_pos hj, List.getElem?_drop, Array.getElem?_toList]
  have hlt : ∀ {i : Nat} {x : List PV}, xs[i]? = some x → ∀ {j : Nat} {y : PV}, x[j]? = some y → i * s + j < xs.length * s := fun {i x} hi {j y} hj => by
    have h1 := lt_of_get hi
    have h2 := lt_of_get hj
    rw [h4 x (List.mem_of_getElem? hi)] at h2
    have : (i + 1) * s ≤ xs.length * s := Nat.mul_le_mul_right s h1
    rw [Nat.succ_mul] at this; omega
  refine ⟨c, e, _, h1, h2, h3, h4, hlen, fun j v hj => ?_, fun v hv => ?_, fun i x hi j y hj => ?_⟩
  · have := lt_of_get hj
    rw [hlen] at this
    rw [hget j this] at hj; exact hj
  · obtain ⟨j, hj⟩ := List.getElem?_of_mem hv
    have hjl := lt_of_get hj
    rw [hlen] at hjl
    rw [hget j hjl] at hj
    have hs : 0 < s := by
      rcases Nat.eq_zero_or_pos s with h | h
      · rw [h, Nat.mul_zero] at hjl; omega
      · exact h
    have hdiv : j / s < xs.length := Nat.div_lt_of_lt_mul (by rw [Nat.mul_comm]; exact hjl)
    obtain ⟨x, hx⟩ := get_of_lt hdiv
    have hxl := h4 x (List.mem_of_getElem? hx)
    obtain ⟨y, hy⟩ := get_of_lt (l := x) (i := j % s) (by rw [hxl]; exact Nat.mod_lt _ hs)
    obtain ⟨u, a1, a2, _⟩ := h5 (j / s) x hx (j % s) y hy
    have e1 : (loc id).o + j / s * s + j % s = (loc id).o + j := by
      have := Nat.div_add_mod j s
      rw [Nat.mul_comm] at this; omega
    rw [e1, hj] at a1
    cases a1; exact a2
  · obtain ⟨u, a1, a2, a3⟩ := h5 i x hi j y hj
    exact ⟨u, by rw [hget _ (hlt hi hj), ← Nat.add_assoc]; exact a1, a2, a3⟩

/-- What is in the row then. -/
def insR (xs : List (List PV)) (i : Nat) (v : List PV) : List (List PV) := xs.take i ++ (v :: xs.drop i)

theorem insR_length {xs : List (List PV)} {i : Nat} {v : List PV} (h : i ≤ xs.length) : (insR xs i v).length = xs.length + 1 := by
  simp [insR]; omega

theorem insR_rows {H : HV} {s : Nat} {xs : List (List PV)} {i : Nat} {v : List PV} {cs vs : List Value} (hi : i ≤ xs.length) (hx : ∀ x, x ∈ xs → x.length = s) (hv : v.length = s) (hc : cs.length = xs.length * s) (hvl : vs.length = s)
    (h1 : ∀ (i : Nat) x, xs[i]? = some x → ∀ (j : Nat) y, x[j]? = some y → ∃ u, cs[i * s + j]? = some u ∧ u.oneCell' = true ∧ PVr H u y)
    (h2 : ∀ (j : Nat) y, v[j]? = some y → ∃ u, vs[j]? = some u ∧ u.oneCell' = true ∧ PVr H u y) :
    ∀ (k : Nat) x, (insR xs i v)[k]? = some x → ∀ (j : Nat) y, x[j]? = some y → ∃ u, (cs.take (i * s) ++ (vs ++ cs.drop (i * s)))[k * s + j]? = some u ∧ u.oneCell' = true ∧ PVr H u y := by
  have hm : i * s ≤ xs.length * s := Nat.mul_le_mul_right s hi
  have tail : ∀ (k : Nat) x, (v :: xs.drop i)[k]? = some x → ∀ (j : Nat) y, x[j]? = some y → ∃ u, (vs ++ cs.drop (i * s))[k * s + j]? = some u ∧ u.oneCell' = true ∧ PVr H u y := fun k x hk j y hy => by
    cases k with
    | zero =>
      simp at hk; subst hk
      obtain ⟨u, a1, a2⟩ := h2 j y hy
      exact ⟨u, by rw [Nat.zero_mul, Nat.zero_add, List.getElem?_append_left (lt_of_get a1)]; exact a1, a2⟩
    | succ k =>
      rw [List.getElem?_cons_succ, List.getElem?_drop] at hk
      obtain ⟨u, a1, a2⟩ := h1 _ x hk j y hy
      refine ⟨u, ?_, a2⟩
      have e1 : (k + 1) * s + j = s + (k * s + j) := by rw [Nat.succ_mul]; omega
      rw [e1, List.getElem?_append_right (by omega), hvl, Nat.add_sub_cancel_left, List.getElem?_drop, ← a1]
      congr 1
      rw [Nat.add_mul]; omega
  intro k x hk j y hy
  have := row_join (H := H) (s := s) (xs := xs.take i) (ys := v :: xs.drop i) (olds := cs.take (i * s)) (news := vs ++ cs.drop (i * s)) (rest := [])
    (fun x hx' => hx x (List.mem_of_mem_take hx')) (by rw [List.length_take, List.length_take, Nat.min_eq_left (by omega), Nat.min_eq_left hi])
    (fun a z ha b q hq => by
      rw [List.getElem?_take] at ha
      split at ha
      · rename_i hlt
        obtain ⟨u, a1, a2⟩ := h1 a z ha b q hq
        refine ⟨u, ?_, a2⟩
        have hb : b < s := by rw [← hx z (List.mem_of_getElem? ha)]; exact lt_of_get hq
        have : (a + 1) * s ≤ i * s := Nat.mul_le_mul_right s hlt
        rw [Nat.succ_mul] at this
        rw [List.getElem?_take, if_pos (by omega)]; exact a1
      · cases ha)
    (by
      rw [List.length_append, hvl, List.length_drop, hc, List.length_cons, List.length_drop, Nat.succ_mul, Nat.sub_mul]; omega)
    (fun z hz => by
      rcases List.mem_cons.1 hz with rfl | hz
      · exact hv
      · exact hx z (List.mem_of_mem_drop hz))
    tail k x hk j y hy
  rw [List.append_nil] at this
  exact this

/-- Two stores behind one another. -/
theorem two_puts {l tail vs : List Value} {p1 p2 k : Nat} (h1 : p1 + tail.length ≤ l.length) (h2 : p2 + vs.length ≤ l.length) :
    (putAt (putAt l p1 tail) p2 vs)[k]? = if p2 ≤ k ∧ k < p2 + vs.length then vs[k - p2]? else if p1 ≤ k ∧ k < p1 + tail.length then tail[k - p1]? else l[k]? := by
  rw [putAt_get (by rw [putAt_length h1]; exact h2), putAt_get h1]

theorem insert_calls {P : Program} {f : FuncId} {s nb : Nat} {e : TypeId} (hs : 0 < s) (hnb : nb ≤ 1000) (zc : Array Value) (hzc : zc.size = s)
    (hshift : ∀ (b off n c i vb voff vc : Nat) (cs vs : List Value) (w : World), i < n → n + 1 ≤ c → n ≤ 1000000 → vb ≠ b → cs.length = n * s → vs.length = s →
      (∀ j v, cs[j]? = some v → w.cell? ⟨b, off + j, none⟩ = some v) → (∀ j, j < (n + 1) * s → (w.cell? ⟨b, off + j, none⟩).isSome = true) → (∀ j, j < (n + 1) * s → w.frozen? ⟨b, off + j, none⟩ = false) →
      (∀ j v, vs[j]? = some v → w.cell? ⟨vb, voff + j, none⟩ = some v) → (∀ v ∈ cs, v.oneCell' = true) → (∀ v ∈ vs, v.oneCell' = true) →
      ∀ (tA tB : TypeId) (kA kB : Nat), w.shape? vb = some (tA, kA) → w.shape? b = some (tB, kB) → kB ≠ 0 → w.frozen? ⟨vb, voff, none⟩ = false → w.frozen? ⟨vb, kA, none⟩ = false →
      Calls P f #[.slice (some ⟨b, off, none⟩) n c, .int .i64 i, .slice (some ⟨vb, voff, none⟩) 1 vc] w fun e w' =>
        e = .returned (.slice (some ⟨b, off, none⟩) (n + 1) c) ∧ w' = (w.drew.setCells b (off + (i + 1) * s) (cs.drop (i * s))).setCells b (off + i * s) vs)
    (hgrow : ∀ (b off n c i vb voff vc : Nat) (cs vs : List Value) (w : World), i < n → n ≤ c → c < n + 1 → (n + 1) * nb ≤ 140737488355328 → cs.length = n * s → vs.length = s →
      (∀ j v, cs[j]? = some v → w.cell? ⟨b, off + j, none⟩ = some v) → (∀ j v, vs[j]? = some v → w.cell? ⟨vb, voff + j, none⟩ = some v) → (∀ v ∈ cs, v.oneCell' = true) → (∀ v ∈ vs, v.oneCell' = true) →
      Calls P f #[.slice (some ⟨b, off, none⟩) n c, .int .i64 i, .slice (some ⟨vb, voff, none⟩) 1 vc] w fun e' w' =>
        e' = .returned (.slice (some ⟨w.heap.size, 0, none⟩) (n + 1) (grownCap w (n + 1) c e)) ∧
        w' = (((w.alloc (.cells ((cs.take (i * s)).toArray ++ Builtin.zeroCells zc (n + 1 - i) ++ Builtin.zeroCells zc (grownCap w (n + 1) c e - (n + 1))) e)).drew.setCells w.heap.size (i * s) vs).drew).setCells w.heap.size ((i + 1) * s) (cs.drop (i * s)))
    (xs : List (List PV)) (v : List PV) (hv : v.length = s) (i : Nat) (hi : i < xs.length) (hlen : xs.length ≤ 1000000) :
    ACalls P f [.ref 0 0 xs.length, .p (.lit (.int .i64 i)), .ref 1 0 1] [.row s xs, .row s [v]] (fun r obs' => r = .ref 2 0 (xs.length + 1) ∧ obs' = [.dead, .row s [v], .row s (insR xs i v)]) := by
  intro H loc w vals hsr hsz hvals
  obtain ⟨v0, v1, v2, rfl⟩ : ∃ v0 v1 v2, vals = #[v0, v1, v2] := by
    obtain ⟨l⟩ := vals
    match l, hsz with
    | [a, b, c], _ => exact ⟨a, b, c, rfl⟩
  have hv0 := hvals 0 v0 _ rfl rfl
  have hv1 := (hvals 1 v1 _ rfl rfl).lit_inv
  have hv2 := hvals 2 v2 _ rfl rfl
  subst hv1
  generalize hd0 : D.ref 0 0 xs.length = d0 at hv0
  cases hv0 <;> try (cases hd0; done)
  case refGone ho =>
    cases hd0
    simp at ho
  case ref0 =>
    injection hd0 with _ _ e3
    omega
  case ref id off len c s' xs' ho hl hc hx hr hn =>
    injection hd0 with e1 e2 e3
    subst e1 e2 e3
    have ho' := Ob.row.inj (Option.some.inj ho)
    obtain ⟨rfl, rfl⟩ := ho'
    generalize hd2 : D.ref 1 0 1 = d2 at hv2
    cases hv2 <;> try (cases hd2; done)
    case refGone ho =>
      cases hd2
      simp at ho
    case ref id off len vc s2 ys ho2 hl2 hc2 hx2 hr2 hn2 =>
      injection hd2 with e1 e2 e3
      subst e1 e2 e3
      have ho2' := Ob.row.inj (Option.some.inj ho2)
      obtain ⟨rfl, rfl⟩ := ho2'
      obtain ⟨ca, ea, cs, b1, b2, b3, b4, b5, b6, b7, b8⟩ := row_cells hsr (id := 0) rfl hr
      obtain ⟨cv, ev, vs, d1, d2, d3, d4, d5, d6, d7, d8⟩ := row_cells hsr (id := 1) rfl hr2
      simp only [List.length_cons, List.length_nil, Nat.zero_add, Nat.one_mul] at d3 d5
      have r0 := entry_rel hsr (fun o ho => by simp at ho; rcases ho with rfl | rfl <;> simp)
      have hne : (loc 1).b ≠ (loc 0).b := fun e => by
        have := hsr.inj 1 0 _ _ rfl rfl rfl rfl hr2 hr e
        cases this
      have cellA : ∀ j u, cs[j]? = some u → w.cell? ⟨(loc 0).b, (loc 0).o + 0 * s + j, none⟩ = some u := fun j u hj => by
        rw [Nat.zero_mul, Nat.add_zero]
        simp [World.cell?, b1, b6 j u hj]
      have cellB : ∀ j u, vs[j]? = some u → w.cell? ⟨(loc 1).b, (loc 1).o + 0 * s + j, none⟩ = some u := fun j u hj => by
        rw [Nat.zero_mul, Nat.add_zero]
        simp [World.cell?, d1, d6 j u hj]
      have hdrop : (cs.drop (i * s)).length = (xs.length - i) * s := by rw [List.length_drop, b5, Nat.sub_mul]
      have hmi : (i + 1) * s ≤ xs.length * s := Nat.mul_le_mul_right s hi
      have hmi2 : (i + 1) * s = i * s + s := Nat.succ_mul i s
      have hsub : (xs.length - i) * s = xs.length * s - i * s := Nat.sub_mul _ _ _
      have hn1 : (xs.length + 1) * s = xs.length * s + s := Nat.succ_mul _ _
      have hRl := insR_length (v := v) (Nat.le_of_lt hi)
      have hRs : ∀ x, x ∈ insR xs i v → x.length = s := fun x hx' => by
        unfold insR at hx'
        rcases List.mem_append.1 hx' with hx' | hx'
        · exact b4 x (List.mem_of_mem_take hx')
        · rcases List.mem_cons.1 hx' with rfl | hx'
          · exact hv
          · exact b4 x (List.mem_of_mem_drop hx')
      have hRows := insR_rows (H := H) (Nat.le_of_lt hi) b4 hv b5 d5 b8 (fun j y hy => by
        have := d8 0 v rfl j y hy
        rwa [Nat.zero_mul, Nat.zero_add] at this)
      have hLget : ∀ k, k < (xs.length + 1) * s → (cs.take (i * s) ++ (vs ++ cs.drop (i * s)))[k]? = if k < i * s then cs[k]? else if k < (i + 1) * s then vs[k - i * s]? else (cs.drop (i * s))[k - (i + 1) * s]? := fun k hk => by
        have htl : (cs.take (i * s)).length = i * s := by rw [List.length_take, b5]; omega
        by_cases g1 : k < i * s
        · rw [if_pos g1, List.getElem?_append_left (by omega), List.getElem?_take, if_pos g1]
        · rw [if_neg g1, List.getElem?_append_right (by omega), htl]
          by_cases g2 : k < (i + 1) * s
          · rw [if_pos g2, List.getElem?_append_left (by omega)]
          · rw [if_neg g2, List.getElem?_append_right (by omega), d5]
            congr 1; omega
      -- what remains, once the row lies somewhere
      have fin : ∀ (w' : World) (st : St) (l : Loc) (c2 : Array Value) (e2 : TypeId) (cap : Nat), st.ob = [.dead, .row s [v]] →
          Rel ⟨fun b => ∃ (i : Nat) (o : Ob), [Ob.row s xs, Ob.row s [v]][i]? = some o ∧ o.live = true ∧ (loc i).r = true ∧ (loc i).b = b, [.row s xs, .row s [v]], loc⟩ H w 0 H loc w' st ⟨#[], []⟩ →
          l.r = true → H l.b = none → (loc 1).b ≠ l.b → ((∃ (i : Nat) (o : Ob), [Ob.row s xs, Ob.row s [v]][i]? = some o ∧ o.live = true ∧ (loc i).r = true ∧ (loc i).b = l.b) ∨ w.heap.size ≤ l.b) →
          w'.heap[l.b]? = some (.cells c2 e2 (0, 0)) → c2.size = l.n → l.o + (0 + cap) * s ≤ l.n → xs.length + 1 ≤ cap → (∀ k, k < (xs.length + 1) * s → c2[l.o + k]? = (cs.take (i * s) ++ (vs ++ cs.drop (i * s)))[k]?) →
          ∃ v' H' loc' r obs', (r = D.ref 2 0 (xs.length + 1) ∧ obs' = [Ob.dead, .row s [v], .row s (insR xs i v)]) ∧ Ending.returned (.slice (some ⟨l.b, l.o + 0 * s, none⟩) (xs.length + 1) cap) = .returned v' ∧ V H' loc' obs' v' r ∧ Sr H' loc' obs' w' ∧
            Grows (fun b => ∃ (i : Nat) (o : Ob), [Ob.row s xs, Ob.row s [v]][i]? = some o ∧ o.live = true ∧ (loc i).r = true ∧ (loc i).b = b) H H' w w' ∧
            (∀ (i : Nat) o, obs'[i]? = some o → o.live = true → (loc' i).r = true → (∃ (k : Nat) (o' : Ob), [Ob.row s xs, Ob.row s [v]][k]? = some o' ∧ o'.live = true ∧ (loc k).r = true ∧ (loc k).b = (loc' i).b) ∨ w.heap.size ≤ (loc' i).b) ∧
            stays [.row s xs, .row s [v]] obs' loc loc' := by
        intro w' st l c2 e2 cap hst r1 hlr hlH hl1 hown hw' hc2 hfit hcap hcells
        obtain ⟨tm, ob, n0⟩ := st
        dsimp only at hst
        subst hst
        have hfit2 : (xs.length + 1) * s ≤ (0 + cap) * s := Nat.mul_le_mul_right s (by omega)
        have ra := r1.adopt (.row s (insR xs i v)) l (fun _ => hlH) (fun _ k y hk hly hrk hb => by
            match k, hk with
            | 0, hk => simp at hk; subst hk; cases hly
            | 1, hk => exact hl1 hb
            | k + 2, hk => simp at hk) (fun _ => hown)
          (.inr ⟨hlr, c2, e2, hw', hc2, by rw [hRl]; omega, hRs, fun k x hk j y hj => by
            obtain ⟨u, a1, a2⟩ := hRows k x hk j y hj
            have hkj : k * s + j < (xs.length + 1) * s := by
              have g1 := lt_of_get hk
              have g2 := lt_of_get hj
              rw [hRl] at g1
              rw [hRs x (List.mem_of_getElem? hk)] at g2
              have : (k + 1) * s ≤ (xs.length + 1) * s := Nat.mul_le_mul_right s g1
              rw [Nat.succ_mul] at this; omega
            exact ⟨u, by rw [Nat.add_assoc, hcells _ hkj]; exact a1, a2⟩⟩)
        refine ⟨_, H, _, _, _, ⟨rfl, rfl⟩, rfl, ?_, ra.sr, ra.gr, ra.own, ra.ent⟩
        have hloc : locPush loc [Ob.dead, Ob.row s [v]].length l 2 = l := if_pos rfl
        have := V.ref (H := H) (loc := locPush loc [Ob.dead, Ob.row s [v]].length l) (obs := [.dead, .row s [v]] ++ [.row s (insR xs i v)]) 2 0 (xs.length + 1) cap s (insR xs i v) rfl (by rw [hRl]; omega) hcap (by rw [hRl]; omega) (by rw [hloc]; exact hlr) (by rw [hloc]; exact hfit)
        rw [hloc] at this
        exact this
      have hcap63 : (xs.length + 1) * nb ≤ 140737488355328 := by
        have : (xs.length + 1) * nb ≤ 1000001 * 1000 := Nat.mul_le_mul (by omega) hnb
        omega
      have fz : ∀ (k : Nat) (b : Nat) (cc : Array Value) (ee : TypeId), w.heap[b]? = some (.cells cc ee (0, 0)) → w.frozen? ⟨b, k, none⟩ = false := fun k b cc ee h => by simp [World.frozen?, h]
      by_cases hroom : xs.length + 1 ≤ c
      · -- there is room
        have hcs : (xs.length + 1) * s ≤ (0 + c) * s := Nat.mul_le_mul_right s (by omega)
        have hszc : (xs.length + 1) * s ≤ ca.size - (loc 0).o ∧ (loc 0).o ≤ ca.size := by omega
        refine (hshift (loc 0).b ((loc 0).o + 0 * s) xs.length c i (loc 1).b ((loc 1).o + 0 * s) vc cs vs w hi hroom hlen hne b5 d5 cellA
          (fun j hj => by
            rw [Nat.zero_mul, Nat.add_zero]
            simp only [World.cell?, b1, Option.isSome_none, Bool.false_eq_true, if_false]
            rw [Array.getElem?_eq_getElem (by omega)]; rfl)
          (fun j _ => fz _ _ _ _ b1) cellB b7 d7 ev ea cv.size ca.size (by simp [World.shape?, d1]) (by simp [World.shape?, b1]) (by omega) (fz _ _ _ _ d1) (fz _ _ _ _ d1)).mono fun e' w' ⟨he, hw'⟩ => ?_
        subst he
        have p1 : (loc 0).o + 0 * s + (i + 1) * s + (cs.drop (i * s)).length ≤ ca.size := by rw [hdrop]; omega
        obtain ⟨q1, q2, q3, q4, q5, q6⟩ := setCells_heap (loc 0).b (cs.drop (i * s)) ((loc 0).o + 0 * s + (i + 1) * s) w.drew ca ea b1 p1
        have p2 : (loc 0).o + 0 * s + i * s + vs.length ≤ (putAt ca.toList ((loc 0).o + 0 * s + (i + 1) * s) (cs.drop (i * s))).toArray.size := by
          have hcaL : ca.toList.length = ca.size := Array.length_toList
          rw [List.size_toArray, putAt_length (by rw [hcaL]; exact p1), hcaL, d5]; omega
        obtain ⟨t1, t2, t3, t4, t5, t6⟩ := setCells_heap (loc 0).b vs ((loc 0).o + 0 * s + i * s) _ _ ea q1 p2
        rw [← hw'] at t1 t2 t3 t4 t5 t6
        have rk := r0.setOb (id := 0) (o := .row s xs) (o' := .dead) rfl rfl hr (by simp [Ob.sameShape]) (w' := w') (fun b hb => (t2 b hb).trans (q2 b hb)) (t3.trans q3) (t4.trans q4) (t5.trans q5) (t6.trans q6) trivial
        refine fin w' _ ⟨(loc 0).b, (loc 0).o, (loc 0).n, true⟩ _ ea c rfl rk rfl (hsr.apart 0 _ rfl rfl hr) hne (.inl ⟨0, _, rfl, rfl, hr, rfl⟩) t1 (by
          have hcaL : ca.toList.length = ca.size := Array.length_toList
          rw [List.size_toArray, putAt_length (by simpa using p2), putAt_length (by rw [hcaL]; exact p1), hcaL, b2]) hn hroom (fun k hk => ?_)
        show ((putAt (putAt ca.toList ((loc 0).o + 0 * s + (i + 1) * s) (cs.drop (i * s))).toArray.toList ((loc 0).o + 0 * s + i * s) vs).toArray)[(loc 0).o + k]? = _
        have hcaL : ca.toList.length = ca.size := Array.length_toList
        rw [List.getElem?_toArray, two_puts (by rw [hcaL]; exact p1) (by rw [d5, hcaL]; omega), hLget k hk, hdrop, d5]
        by_cases g1 : k < i * s
        · rw [if_neg (by omega), if_neg (by omega), if_pos g1, Array.getElem?_toList]
          obtain ⟨u, hu⟩ := get_of_lt (l := cs) (i := k) (by omega)
          rw [hu, b6 k u hu]
        · by_cases g2 : k < (i + 1) * s
          · rw [if_pos (by omega), if_neg g1, if_pos g2]
            congr 1; omega
          · rw [if_neg (by omega), if_pos (by omega), if_neg g1, if_neg g2]
            congr 1; omega
      · -- there is none
        have hRf := grownCap_ge w (xs.length + 1) c e
        refine (hgrow (loc 0).b ((loc 0).o + 0 * s) xs.length c i (loc 1).b ((loc 1).o + 0 * s) vc cs vs w hi hc (by omega) hcap63 b5 d5 cellA cellB b7 d7).mono fun e' w' ⟨he, hw'⟩ => ?_
        subst he
        generalize grownCap w (xs.length + 1) c e = G at hRf hw' ⊢
        have hG : G * s = (xs.length + 1) * s + (G - (xs.length + 1)) * s := by rw [← Nat.add_mul]; congr 1; omega
        have hni : (xs.length + 1 - i) * s = (xs.length + 1) * s - i * s := Nat.sub_mul _ _ _
        obtain ⟨ROW, hROW⟩ : ∃ ROW : Array Value, ROW = (cs.take (i * s)).toArray ++ Builtin.zeroCells zc (xs.length + 1 - i) ++ Builtin.zeroCells zc (G - (xs.length + 1)) := ⟨_, rfl⟩
        rw [← hROW] at hw'
        have htl : (cs.take (i * s)).length = i * s := by rw [List.length_take, b5]; omega
        have hRsz : ROW.size = G * s := by
          rw [hROW, Array.size_append, Array.size_append, zeroCells_size, zeroCells_size, hzc, List.size_toArray, htl, hni]; omega
        have hROL : ROW.toList.length = ROW.size := Array.length_toList
        have hnew : ((w.alloc (.cells ROW e)).drew).heap[w.heap.size]? = some (.cells ROW e (0, 0)) := heap_alloc_new w _
        have p1 : i * s + vs.length ≤ ROW.size := by rw [hRsz, d5]; omega
        obtain ⟨q1, q2, q3, q4, q5, q6⟩ := setCells_heap w.heap.size vs (i * s) (w.alloc (.cells ROW e)).drew ROW e hnew p1
        have p2 : (i + 1) * s + (cs.drop (i * s)).length ≤ (putAt ROW.toList (i * s) vs).toArray.size := by
          rw [List.size_toArray, putAt_length (by rw [hROL]; exact p1), hROL, hRsz, hdrop]; omega
        obtain ⟨t1, t2, t3, t4, t5, t6⟩ := setCells_heap w.heap.size (cs.drop (i * s)) ((i + 1) * s) (((w.alloc (.cells ROW e)).drew.setCells w.heap.size (i * s) vs).drew) _ e q1 p2
        rw [← hw'] at t1 t2 t3 t4 t5 t6
        have hasz : (w.alloc (.cells ROW e)).drew.heap.size = w.heap.size + 1 := by simp
        have hold : ∀ b, b < w.heap.size → w'.heap[b]? = w.heap[b]? := fun b hb => by
          rw [t2 b (by omega)]
          show ((w.alloc (.cells ROW e)).drew.setCells w.heap.size (i * s) vs).heap[b]? = _
          rw [q2 b (by omega)]
          exact heap_alloc_old w _ hb
        have hwsz : w'.heap.size = w.heap.size + 1 := by
          rw [t3]
          show ((w.alloc (.cells ROW e)).drew.setCells w.heap.size (i * s) vs).heap.size = _
          rw [q3, hasz]
        have rk := (r0.kill (id := 0) (o := .row s xs) rfl).resolve_right (by simp)
        have rw1 := rk.wider hold (by omega) (t4.trans q4) (t5.trans q5) (t6.trans q6)
        have hHn : H w.heap.size = none := by
          cases hx' : H w.heap.size with
          | none => rfl
          | some c' => exact absurd (hsr.H_lt hx') (by omega)
        have hb1 : (loc 1).b < w.heap.size := hsr.live_lt (i := 1) rfl rfl hr2
        have := fin w' _ ⟨w.heap.size, 0, G * s, true⟩ _ e G rfl rw1 rfl hHn (by show (loc 1).b ≠ w.heap.size; omega) (.inr (Nat.le_refl _)) t1 (by
          rw [List.size_toArray, putAt_length (by simpa using p2), putAt_length (by rw [hROL]; exact p1), hROL, hRsz]) (by show 0 + (0 + G) * s ≤ G * s; rw [Nat.zero_add, Nat.zero_add]; exact Nat.le_refl _) hRf (fun k hk => by
          show ((putAt (putAt ROW.toList (i * s) vs).toArray.toList ((i + 1) * s) (cs.drop (i * s))).toArray)[0 + k]? = _
          rw [List.getElem?_toArray, two_puts (by rw [hROL]; exact p1) (by rw [hdrop, hROL, hRsz]; omega), hLget k hk, hdrop, d5, Nat.zero_add]
          by_cases g1 : k < i * s
          · rw [if_neg (by omega), if_neg (by omega), if_pos g1, hROW, Array.append_assoc, Array.toList_append, List.toList_toArray, List.getElem?_append_left (by omega), List.getElem?_take, if_pos g1]
          · by_cases g2 : k < (i + 1) * s
            · rw [if_neg (by omega), if_pos (by omega), if_neg g1, if_pos g2]
            · rw [if_pos (by omega), if_neg g1, if_neg g2])
        simpa using this
end Go.Ab

/- slices.Insert at a number: a contract. -/
namespace Go.Proofs.Ytagphggcdmjlpaa.P
open Go.Ab Go.Proofs Go.Shelf Go.RowKit Go.Lib
set_option maxHeartbeats 4000000 in
set_option maxRecDepth 100000 in
theorem insShift70 (b off n c i vb voff vc : Nat) (cs vs : List Value) (w : World) (hi : i < n) (hroom : n + 1 ≤ c) (hn6 : n ≤ 1000000) (hvb : vb ≠ b)
    (hcl : cs.length = n) (hvl : vs.length = 1)
    (hcs : ∀ j v, cs[j]? = some v → w.cell? ⟨b, off + j, none⟩ = some v) (hsp : ∀ j, j < (n + 1) → (w.cell? ⟨b, off + j, none⟩).isSome = true) (hfz : ∀ j, j < (n + 1) → w.frozen? ⟨b, off + j, none⟩ = false)
    (hvs : ∀ j v, vs[j]? = some v → w.cell? ⟨vb, voff + j, none⟩ = some v) (h1c : ∀ v ∈ cs, v.oneCell' = true) (h1v : ∀ v ∈ vs, v.oneCell' = true)
    (tA tB : TypeId) (kA kB : Nat) (hsa : w.shape? vb = some (tA, kA)) (hsb : w.shape? b = some (tB, kB)) (hkB : kB ≠ 0) (hfa : w.frozen? ⟨vb, voff, none⟩ = false) (hfe : w.frozen? ⟨vb, kA, none⟩ = false) :
    Calls Try.prog 70 #[.slice (some ⟨b, off, none⟩) n c, .int .i64 i, .slice (some ⟨vb, voff, none⟩) 1 vc] w fun e w' =>
      e = .returned (.slice (some ⟨b, off, none⟩) (n + 1) c) ∧ w' = (w.drew.setCells b (off + (i + 1)) (cs.drop (i))).setCells b (off + i) vs := by
  have t0 := Try.underlying0; have a0 := Try.isAgg0; have z0 := Try.sizeOf0; have v0 := Try.zeroValue0; have t3 := Try.underlying3; have a3 := Try.isAgg3; have z3 := Try.sizeOf3; have v3 := Try.zeroValue3; have t4 := Try.underlying4; have a4 := Try.isAgg4; have z4 := Try.sizeOf4; have v4 := Try.zeroValue4; have t22 := Try.underlying58; have a22 := Try.isAgg58; have z22 := Try.sizeOf58; have v22 := Try.zeroValue58; have z61 := Try.sizeOf3
  have u0 := run_underlying Try.underlying0; have u3 := run_underlying Try.underlying3; have u4 := run_underlying Try.underlying4; have u22 := run_underlying Try.underlying58
  have hz2 : ¬ ((i : Int) = (n : Int)) := by omega
  have hsz : (Try.prog.info? 3).map (·.size) = some 1 := by kernel_rfl
  have hov : ∀ lb cb, (callFunc 95 #[.slice (some ⟨vb, voff, none⟩) 1 vc, .slice (some ⟨b, off + (i + 1), none⟩) lb cb]).run Try.prog w = .ok (.value (.bool false)) w := fun lb cb => by
    rw [run_callFunc_extern Try.func95 (by kernel_rfl) (by kernel_rfl) (by kernel_rfl) (e := Extern.SlicesOverlaps.overlaps #[58, 58] #[4]) (by kernel_rfl),
      Lib.run_overlaps_apart w 58 4 3 Try.underlying58 1 Try.sizeOf3 ⟨vb, voff, none⟩ ⟨b, off + (i + 1), none⟩ 1 vc lb cb hvb tA tB kA kB hsa hsb hkB hfa hfe]
    rfl
  have hdl : (cs.drop (i)).length = (n - i) := by rw [List.length_drop, hcl]
  have mixed : Try.prog.follows .mixedOrders = true := by kernel_rfl
  have hw1 : IntKind.i64.wrap ((i : Int) + 1) = (i : Int) + 1 := by rw [IntKind.wrap_i64]; omega
  have hw2 : IntKind.i64.wrap ((n : Int) + 1) = (n : Int) + 1 := by rw [IntKind.wrap_i64]; omega
  have hb1 : (0 : Int) ≤ (i : Int) + 1 := by omega
  have hin : i ≤ n := by omega
  have htn : ((i : Int) + 1).toNat = i + 1 := by omega
  have hb2 : ¬ (c = i + 1) := by omega
  have hb3 : (i : Int) ≤ (n : Int) + 1 := by omega
  have hb4 : ¬ (c = i) := by omega
  have hcp1 : ∀ ty dc sc, (Builtin.copy_ #[58, 58] ty #[.slice (some ⟨b, off + (i + 1), none⟩) (n - i) dc, .slice (some ⟨b, off + i, none⟩) (n + 1 - i) sc]).run Try.prog w.drew = .ok (goInt (Nat.min (n + 1 - i) (n - i))) (w.drew.setCells b (off + (i + 1)) (cs.drop (i))) := fun ty dc sc =>
    run_copy_k w.drew _ _ ty 3 1 b (off + (i + 1)) (n - i) dc ⟨b, off + i, none⟩ (n + 1 - i) sc (cs.drop (i)) Try.underlying58 hsz (by rw [hdl]; simp only [Nat.min_def]; split <;> omega)
      (fun j v hj => by rw [Addr.add_lit, Nat.add_assoc]; exact hcs (i + j) v (by rwa [List.getElem?_drop] at hj))
      (fun j hj => by rw [Nat.add_assoc]; exact hsp _ (by omega)) (fun j hj => by rw [Nat.add_assoc]; exact hfz _ (by omega)) (fun v hv => h1c v (List.mem_of_mem_drop hv))
  obtain ⟨W1, hW1⟩ : ∃ W1, W1 = w.drew.setCells b (off + (i + 1)) (cs.drop (i)) := ⟨_, rfl⟩
  have hsp1 : ∀ k, k < (n + 1) → (W1.cell? ⟨b, off + k, none⟩).isSome = true := fun k hk => by
    rw [hW1]
    exact isSome_setCells b _ _ _ (fun j hj => by rw [Nat.add_assoc]; exact hsp _ (by omega)) _ (hsp k hk)
  have hcp2 : ∀ (W : World), (∀ x, W.cell? x = W1.cell? x) → (∀ x, W.frozen? x = W1.frozen? x) → ∀ ty dc, (Builtin.copy_ #[58, 58] ty #[.slice (some ⟨b, off + i, none⟩) (n + 1 - i) dc, .slice (some ⟨vb, voff, none⟩) 1 vc]).run Try.prog W = .ok (goInt (Nat.min 1 (n + 1 - i))) (W.setCells b (off + i) vs) := fun W hWc hWf ty dc =>
    run_copy_k W _ _ ty 3 1 b (off + i) (n + 1 - i) dc ⟨vb, voff, none⟩ 1 vc vs Try.underlying58 hsz (by rw [hvl]; simp only [Nat.min_def]; split <;> omega)
      (fun j v hj => by
        rw [Addr.add_lit, hWc, hW1, World.cell?_setCells_out b _ _ _ _ (fun h _ => absurd h hvb)]
        exact hvs j v hj)
      (fun j hj => by rw [hWc, Nat.add_assoc]; exact hsp1 _ (by omega)) (fun j hj => by rw [hWf, hW1, World.frozen?_setCells, Nat.add_assoc]; exact hfz _ (by omega)) h1v
  rw [← hW1] at hcp1
  go_enter Try.func70, Try.ntmps70
  go_wp2_with (simp only [hov])
  go_region_law_o (refine step_copy_runI rfl _ _ 58 58 rfl _ _ (by simp [Act.eval, Act.put]) (by simp [Act.eval, Act.put]) (hcp1 _ _ _) ?_)
  go_wp2_with (at_builtin; refine wpList_copy_runI _ rfl _ _ 58 58 rfl _ _ rfl rfl (hcp2 _ (fun _ => rfl) (fun _ => rfl) _ _) ?_)
  go_ret
  (exact ⟨rfl, rfl⟩)

set_option maxHeartbeats 4000000 in
set_option maxRecDepth 100000 in
theorem insGrow70 (hzs : (Value.int .i64 0).cells.size = 1) (hinfo : (Try.prog.info? 3).map (fun i => (i.zero, i.size, i.bytes)) = some (some (.int .i64 0), 1, 8))
    (b off n c i vb voff vc : Nat) (cs vs : List Value) (w : World) (hi : i < n) (hnc : n ≤ c) (hroom : c < n + 1) (hbig : (n + 1) * 8 ≤ 140737488355328)
    (hcl : cs.length = n) (hvl : vs.length = 1)
    (hcs : ∀ j v, cs[j]? = some v → w.cell? ⟨b, off + j, none⟩ = some v)
    (hvs : ∀ j v, vs[j]? = some v → w.cell? ⟨vb, voff + j, none⟩ = some v) (h1c : ∀ v ∈ cs, v.oneCell' = true) (h1v : ∀ v ∈ vs, v.oneCell' = true) :
    Calls Try.prog 70 #[.slice (some ⟨b, off, none⟩) n c, .int .i64 i, .slice (some ⟨vb, voff, none⟩) 1 vc] w fun e w' =>
      e = .returned (.slice (some ⟨w.heap.size, 0, none⟩) (n + 1) (grownCap w (n + 1) c 3)) ∧
      w' = (((w.alloc (.cells ((cs.take (i)).toArray ++ Builtin.zeroCells (Value.int .i64 0).cells (n + 1 - i) ++ Builtin.zeroCells (Value.int .i64 0).cells (grownCap w (n + 1) c 3 - (n + 1))) 3)).drew.setCells w.heap.size (i) vs).drew).setCells w.heap.size ((i + 1)) (cs.drop (i)) := by
  have t0 := Try.underlying0; have a0 := Try.isAgg0; have z0 := Try.sizeOf0; have v0 := Try.zeroValue0; have t3 := Try.underlying3; have a3 := Try.isAgg3; have z3 := Try.sizeOf3; have v3 := Try.zeroValue3; have t4 := Try.underlying4; have a4 := Try.isAgg4; have z4 := Try.sizeOf4; have v4 := Try.zeroValue4; have t22 := Try.underlying58; have a22 := Try.isAgg58; have z22 := Try.sizeOf58; have v22 := Try.zeroValue58; have z61 := Try.sizeOf3
  have u0 := run_underlying Try.underlying0; have u3 := run_underlying Try.underlying3; have u4 := run_underlying Try.underlying4; have u22 := run_underlying Try.underlying58
  have mixed : Try.prog.follows .mixedOrders = true := by kernel_rfl
  obtain ⟨i0, hi0, hz0, hzs0, hzb⟩ := info_parts hinfo
  have hz2 : ¬ ((i : Int) = (n : Int)) := by omega
  have hz3 : (c : Int) < (n : Int) + 1 := by omega
  have hsz : (Try.prog.info? 3).map (·.size) = some 1 := by rw [hi0]; simp [hzs0]
  have hbw : b < w.heap.size := block_lt_of_cell (hcs 0 _ (List.getElem?_eq_getElem (by omega)))
  have hvw : vb < w.heap.size := block_lt_of_cell (hvs 0 _ (List.getElem?_eq_getElem (by omega)))
  have hkk : (n : Int) + 1 - (i : Int) = ((n + 1 - i : Nat) : Int) := by omega
  have hik : i + (n + 1 - i) = n + 1 := by omega
  have hold : (Builtin.firstCells i0.size i (.slice (some ⟨b, off, none⟩) i c)).run Try.prog w.drew = .ok (cs.take (i)).toArray w.drew := by
    rw [hzs0]
    exact run_firstCells_some w.drew 1 i ⟨b, off, none⟩ i c (cs.take (i)) (by rw [List.length_take]; omega) (fun j v hj => by
      rw [Addr.add_lit]
      rw [List.getElem?_take] at hj
      split at hj
      · exact hcs j v hj
      · cases hj)
  have hrz : ∀ ty, (Builtin.append_ #[58, 3] ty #[.slice (some ⟨b, off, none⟩) i c, .int .i64 ((n : Int) + 1 - (i : Int))]).run Try.prog w =
      .ok (.slice (some ⟨w.heap.size, 0, none⟩) (n + 1) (grownCap w (n + 1) c 3)) (w.drew.alloc (.cells ((cs.take (i)).toArray ++ Builtin.zeroCells (Value.int .i64 0).cells (n + 1 - i) ++ Builtin.zeroCells (Value.int .i64 0).cells (grownCap w (n + 1) c 3 - (n + 1))) 3)) := fun ty => by
    have h := Lib.run_append_grow_zeros w 58 3 ty 3 i0 _ .i64 .i64 Try.underlying58 Try.underlying3 hi0 hz0 (some ⟨b, off, none⟩) i c (cs.take (i)) hold (n + 1 - i) (by omega) (by omega) (by omega) (by omega) (by rw [hzb]; omega) (by rw [hzb, hik]; exact growslice_fits hroom hbig)
    rw [hik] at h
    rw [hkk]
    exact h
  obtain ⟨G, hG⟩ : ∃ G, G = grownCap w (n + 1) c 3 := ⟨_, rfl⟩
  obtain ⟨ROW, hROW⟩ : ∃ ROW : Array Value, ROW = (cs.take (i)).toArray ++ Builtin.zeroCells (Value.int .i64 0).cells (n + 1 - i) ++ Builtin.zeroCells (Value.int .i64 0).cells (G - (n + 1)) := ⟨_, rfl⟩
  rw [← hG] at hrz ⊢
  rw [← hROW] at hrz ⊢
  have hRl : (n + 1) ≤ ROW.size := by
    rw [hROW, Array.size_append, Array.size_append, Ab.zeroCells_size, Ab.zeroCells_size, hzs]
    simp
    omega
  obtain ⟨W1, hW1⟩ : ∃ W1, W1 = w.drew.alloc (.cells ROW 3) := ⟨_, rfl⟩
  rw [← hW1] at hrz
  have hN : ∀ j, j < (n + 1) → (W1.cell? ⟨w.heap.size, j, none⟩).isSome = true := fun j hj => by
    rw [hW1, World.cell?_alloc_at (w := w.drew) ROW _ w.heap.size j rfl, Array.getElem?_eq_getElem (by omega)]; rfl
  have hNf : ∀ j, W1.frozen? ⟨w.heap.size, j, none⟩ = false := fun j => by rw [hW1]; exact World.frozen?_alloc_at (w := w.drew) ROW _ w.heap.size j rfl
  have hOb : ∀ j v, w.cell? ⟨b, j, none⟩ = some v → W1.cell? ⟨b, j, none⟩ = some v := fun j v h => by rw [hW1, World.cell?_alloc_past (w := w.drew) _ b j hbw]; exact h
  have hOv : ∀ j v, w.cell? ⟨vb, j, none⟩ = some v → W1.cell? ⟨vb, j, none⟩ = some v := fun j v h => by rw [hW1, World.cell?_alloc_past (w := w.drew) _ vb j hvw]; exact h
  have hcpA : ∀ (W : World), (∀ x, W.cell? x = W1.cell? x) → (∀ x, W.frozen? x = W1.frozen? x) → ∀ ty dc, (Builtin.copy_ #[58, 58] ty #[.slice (some ⟨w.heap.size, i, none⟩) (n + 1 - i) dc, .slice (some ⟨vb, voff, none⟩) 1 vc]).run Try.prog W = .ok (goInt (Nat.min 1 (n + 1 - i))) (W.setCells w.heap.size (i) vs) := fun W hWc hWf ty dc =>
    run_copy_k W _ _ ty 3 1 w.heap.size (i) (n + 1 - i) dc ⟨vb, voff, none⟩ 1 vc vs Try.underlying58 hsz (by rw [hvl]; simp only [Nat.min_def]; split <;> omega)
      (fun j v hj => by rw [Addr.add_lit, hWc]; exact hOv _ v (hvs j v hj))
      (fun j hj => by rw [hWc]; exact hN _ (by omega)) (fun j hj => by rw [hWf]; exact hNf _) h1v
  have hGn : n + 1 ≤ G := by rw [hG]; exact grownCap_ge w _ _ _
  have hG63 : G ≤ 9223372036854775807 := by
    have := grownCap_le_maxLen w (n + 1) c 3 (by unfold maxLen; omega)
    rw [← hG] at this
    unfold maxLen at this
    omega
  have hGi : ¬ (G = i) := by omega
  have hGim : ¬ (G = i + 1) := by omega
  have hci : ¬ (c = i) := by omega
  have hbN : b ≠ w.heap.size := by omega
  have hdl : (cs.drop (i)).length = (n - i) := by rw [List.length_drop, hcl]
  have hcpB : ∀ (W : World), (∀ x, W.cell? x = (W1.setCells w.heap.size (i) vs).cell? x) → (∀ x, W.frozen? x = (W1.setCells w.heap.size (i) vs).frozen? x) → ∀ ty dc sc, (Builtin.copy_ #[58, 58] ty #[.slice (some ⟨w.heap.size, (i + 1), none⟩) (n - i) dc, .slice (some ⟨b, off + i, none⟩) (n - i) sc]).run Try.prog W = .ok (goInt (Nat.min (n - i) (n - i))) (W.setCells w.heap.size ((i + 1)) (cs.drop (i))) := fun W hWc hWf ty dc sc =>
    run_copy_k W _ _ ty 3 1 w.heap.size ((i + 1)) (n - i) dc ⟨b, off + i, none⟩ (n - i) sc (cs.drop (i)) Try.underlying58 hsz (by rw [hdl]; simp only [Nat.min_def]; split <;> omega)
      (fun j v hj => by
        rw [Addr.add_lit, hWc, World.cell?_setCells_out _ _ _ _ _ (fun h _ => absurd h hbN), Nat.add_assoc]
        exact hOb _ v (hcs (i + j) v (by rwa [List.getElem?_drop] at hj)))
      (fun j hj => by rw [hWc]; exact isSome_setCells _ _ _ _ (fun t ht => hN _ (by omega)) _ (hN _ (by omega)))
      (fun j hj => by rw [hWf, World.frozen?_setCells]; exact hNf _) (fun v hv => h1c v (List.mem_of_mem_drop hv))
  subst hW1
  have hE1 : ∀ x, ((w.alloc (.cells ROW 3)).drew).cell? x = (w.drew.alloc (.cells ROW 3)).cell? x := fun x => rfl
  have hE2 : ∀ x, ((w.alloc (.cells ROW 3)).drew).frozen? x = (w.drew.alloc (.cells ROW 3)).frozen? x := fun x => rfl
  have hF1 : ∀ x, (((w.alloc (.cells ROW 3)).drew.setCells w.heap.size (i) vs).drew).cell? x = ((w.drew.alloc (.cells ROW 3)).setCells w.heap.size (i) vs).cell? x := fun x => rfl
  have hF2 : ∀ x, (((w.alloc (.cells ROW 3)).drew.setCells w.heap.size (i) vs).drew).frozen? x = ((w.drew.alloc (.cells ROW 3)).setCells w.heap.size (i) vs).frozen? x := fun x => rfl
  have hw1 : IntKind.i64.wrap ((i : Int) + 1) = (i : Int) + 1 := by rw [IntKind.wrap_i64]; omega
  have hw2 : IntKind.i64.wrap ((n : Int) + 1) = (n : Int) + 1 := by rw [IntKind.wrap_i64]; omega
  have hw3 : IntKind.i64.wrap ((n : Int) + 1 - (i : Int)) = (n : Int) + 1 - (i : Int) := by rw [IntKind.wrap_i64]; omega
  have hb1 : (0 : Int) ≤ (i : Int) + 1 := by omega
  have hin : i ≤ n := by omega
  have htn : ((i : Int) + 1).toNat = i + 1 := by omega
  have hb3 : (i : Int) ≤ (n : Int) := by omega
  clear hkk hik hold hROW hG hRl
  go_enter Try.func70, Try.ntmps70
  go_wp2_with (first
    | (at_builtin; refine Lib.wpList_append_run _ rfl _ _ _ _ rfl _ _ rfl rfl _ _ (hrz _) ?_)
    | (at_builtin; refine wpList_copy_runI _ rfl _ _ 58 58 rfl _ _ rfl rfl (hcpA _ hE1 hE2 _ _) ?_)
    | (at_builtin; refine wpList_copy_runI _ rfl _ _ 58 58 rfl _ _ rfl rfl (hcpB _ (fun _ => rfl) (fun _ => rfl) _ _ _) ?_))
  go_region_law_o (refine step_copy_runI rfl _ _ 58 58 rfl (.slice (some ⟨w.heap.size, (i + 1), none⟩) (n - i) (G - (i + 1))) (.slice (some ⟨b, off + i, none⟩) (n - i) (c - i)) (by simp [Act.eval, Act.put]) (by simp [Act.eval, Act.put]) (hcpB _ hF1 hF2 3 (G - (i + 1)) (c - i)) ?_)
  go_wp2
  go_ret
  exact ⟨rfl, rfl⟩

theorem insertI (xs : List (List PV)) (v : List PV) (hv : v.length = 1) (i : Nat) (hi : i < xs.length) (hlen : xs.length ≤ 1000000) :
    ACalls Try.prog 70 [.ref 0 0 xs.length, iD i, .ref 1 0 1] [.row 1 xs, .row 1 [v]] (fun r obs' => r = .ref 2 0 (xs.length + 1) ∧ obs' = [.dead, .row 1 [v], .row 1 (insR xs i v)]) :=
  insert_calls (nb := 8) (by decide) (by decide) (Value.int .i64 0).cells (by kernel_rfl) (by simpa only [Nat.mul_one] using insShift70) (by simpa only [Nat.mul_one] using insGrow70 (by kernel_rfl) (by kernel_rfl)) xs v hv i hi hlen

end Go.Proofs.Ytagphggcdmjlpaa.P

/- Objects of a heap: how many words they have, may they be so, their first word: contracts. -/
namespace Go.Proofs.Ytagphggcdmjlpaa.P
open Go.Ab Go.Proofs.Ytagphggcdmjlpaa.T

abbrev wrow (n : Int) : List PV := [.lit (.int .u64 n)]
abbrev words (ws : List Int) : D := .p (.sl (ws.map wrow))

structure Obj where
  at_ : Int
  kind : Int
  num : Int
  text : ByteArray
  parts : List Int

def Obj.row (o : Obj) : List PV := [.lit (.int .i64 o.at_), .lit (.int .i64 o.kind), .lit (.int .i64 o.num), .lit (.string o.text), .sl (o.parts.map wrow)]
abbrev objD (o : Obj) : D := .agg [iD o.at_, iD o.kind, iD o.num, .p (.lit (.string o.text)), .p (.sl (o.parts.map wrow))]

abbrev numK (k : Int) : Bool := k == 1 || k == 4
/-- How many words an object has. -/
def roomN (k : Int) (t p : Nat) : Nat := 1 + (t + 7) / 8 + p + if numK k then 1 else 0


theorem room (k : Int) (t p : Nat) (ht : t ≤ 1000000) (hp : p ≤ 1000000) : ACallP Try.prog 51 [iD k, iD t, iD p] (iD (roomN k t p)) := by
  have h1 : IntKind.i64.wrap ((t : Int) + 7) = ((t + 7 : Nat) : Int) := by rw [Go.Ab.wrap_small (by omega) (by omega)]; rfl
  have h2 : IntKind.i64.wrap (((t + 7 : Nat) : Int).tdiv 8) = (((t + 7) / 8 : Nat) : Int) := by
    rw [Int.tdiv_eq_ediv_of_nonneg (by omega), Go.Ab.wrap_small (by omega) (by omega)]; omega
  have h3 : IntKind.i64.wrap (1 + (((t + 7) / 8 : Nat) : Int)) = ((1 + (t + 7) / 8 : Nat) : Int) := by rw [Go.Ab.wrap_small (by omega) (by omega)]; omega
  have h4 : IntKind.i64.wrap (((1 + (t + 7) / 8 : Nat) : Int) + (p : Int)) = ((1 + (t + 7) / 8 + p : Nat) : Int) := by rw [Go.Ab.wrap_small (by omega) (by omega)]; omega
  have h5 : IntKind.i64.wrap (((1 + (t + 7) / 8 + p : Nat) : Int) + 1) = ((1 + (t + 7) / 8 + p + 1 : Nat) : Int) := by rw [Go.Ab.wrap_small (by omega) (by omega)]; omega
  have hv : roomN k t p = 1 + (t + 7) / 8 + p + if numK k then 1 else 0 := rfl
  rw [hv]
  clear hv
  refine acallp_fn [6] Try.func51 rfl rfl Try.ntmps51 (by simp) fun R hR => ?_
  (refine awp_reg_seq [0, 1, 2] fun K hK => ?_; (repeat' ((refine al_r rfl fun K' hK' => ?_); (repeat (simp only [go_sem, simprocAttr])); ((refine hK' _ _ ?_) <;> clear hK' K'))); all_goals (refine al_nil ?_; (simp only [go_sem, simprocAttr]); refine hK _ ?_; clear hK K))

  (refine awp_reg_seq [0, 7] fun K hK => ?_; (repeat' ((refine al_r rfl fun K' hK' => ?_); (repeat (simp only [go_sem, simprocAttr, h1, h2, h3, h4, h5])); ((refine hK' _ _ ?_) <;> clear hK' K'))); all_goals (refine al_nil ?_; (simp only [go_sem, simprocAttr, h1, h2, h3, h4, h5]); refine hK _ ?_; clear hK K))
  refine awp_seq_k fun K hK => ?_
  (refine awp_reg_tov [7, 19] [(7, iD ((1 + (t + 7) / 8 + p : Nat) : Int)), (19, bD (k == 1 || k == 4))] (h := ?_) (k := ?_); · ((repeat' (first | ((first | refine al_r rfl fun K' hK' => ?_ | refine al_t rfl rfl fun K' hK' => ?_); (repeat (simp only [go_sem, simprocAttr, h1, h2, h3, h4, h5])); ((refine hK' _ _ ?_) <;> clear hK' K')) | refine al_e rfl rfl ?_ | ((fail_if_success (refine al_t rfl rfl fun K' hK' => ?_)); refine al_s _ rfl rfl rfl (fun hb => ?_) (fun hb => ?_)))); all_goals (refine al_nil ?_; simp only [go_sem, simprocAttr, h1, h2, h3, h4, h5, *, Bool.and_true, Bool.and_false, Bool.true_and, Bool.false_and, Bool.or_true, Bool.true_or, Bool.or_false, Bool.false_or, Bool.not_true, Bool.not_false, Bool.false_eq_true]))); intro K hK; (simp only [go_sem, simprocAttr, h1, h2, h3, h4, h5]); refine hK _ ?_; clear hK K
  refine awp_if (numK k) rfl (fun hc => ?_) (fun hc => ?_)
  · (refine awp_reg_end [7] fun K hK => ?_; (repeat' ((refine al_r rfl fun K' hK' => ?_); (repeat (simp only [go_sem, simprocAttr, h1, h2, h3, h4, h5])); ((refine hK' _ _ ?_) <;> clear hK' K'))); all_goals (refine al_nil ?_; (simp only [go_sem, simprocAttr, h1, h2, h3, h4, h5]); refine hK _ ?_; clear hK K))
    refine hK _ ?_; clear hK K
    (refine awp_reg_seq [6] fun K hK => ?_; (repeat' ((refine al_r rfl fun K' hK' => ?_); (repeat (simp only [go_sem, simprocAttr, h1, h2, h3, h4, h5])); ((refine hK' _ _ ?_) <;> clear hK' K'))); all_goals (refine al_nil ?_; (simp only [go_sem, simprocAttr, h1, h2, h3, h4, h5]); refine hK _ ?_; clear hK K))
    refine awp_ret ?_; (refine hR _ _ (.inl rfl) rfl ?_)
    simp only [go_sem, simprocAttr, h1, h2, h3, h4, h5, hc, if_true, if_false, Bool.false_eq_true, Nat.add_zero]
  · refine awp_skip ?_
    refine hK _ ?_; clear hK K
    (refine awp_reg_seq [6] fun K hK => ?_; (repeat' ((refine al_r rfl fun K' hK' => ?_); (repeat (simp only [go_sem, simprocAttr, h1, h2, h3, h4, h5])); ((refine hK' _ _ ?_) <;> clear hK' K'))); all_goals (refine al_nil ?_; (simp only [go_sem, simprocAttr, h1, h2, h3, h4, h5]); refine hK _ ?_; clear hK K))
    refine awp_ret ?_; (refine hR _ _ (.inl rfl) rfl ?_)
    simp only [go_sem, simprocAttr, h1, h2, h3, h4, h5, hc, if_true, if_false, Bool.false_eq_true, Nat.add_zero]

def rightS (o : Obj) : Bool :=
  !(decide ((o.text.size : Int) > 64) || decide ((o.parts.length : Int) > 400) || decide (o.kind < 1) || decide (o.kind > 5)) &&
  (!((o.kind == 1 || o.kind == 2) && decide ((o.parts.length : Int) > 0)) && (!(((o.kind != 2) && (o.kind != 3)) && !(o.text.toList == (⟨#[]⟩ : ByteArray).toList)) && (!(((o.kind != 1) && (o.kind != 4)) && (o.num != 0)) &&
  ((o.kind != 5) || decide ((o.parts.length : Int) ≤ 1)))))


theorem right (o : Obj) : ACallP Try.prog 52 [objD o] (bD (rightS o)) := by
  have hv : rightS o = (!(decide ((o.text.size : Int) > 64) || decide ((o.parts.length : Int) > 400) || decide (o.kind < 1) || decide (o.kind > 5)) &&
  (!((o.kind == 1 || o.kind == 2) && decide ((o.parts.length : Int) > 0)) && (!(((o.kind != 2) && (o.kind != 3)) && !(o.text.toList == (⟨#[]⟩ : ByteArray).toList)) && (!(((o.kind != 1) && (o.kind != 4)) && (o.num != 0)) &&
  ((o.kind != 5) || decide ((o.parts.length : Int) ≤ 1)))))) := rfl
  rw [hv]
  clear hv
  refine acallp_fn [2] Try.func52 rfl rfl Try.ntmps52 (by simp) fun R hR => ?_
  (refine awp_reg_seq [1] fun K hK => ?_; (repeat' ((refine al_r rfl fun K' hK' => ?_); (repeat (simp only [go_sem, simprocAttr, List.length_map])); ((refine hK' _ _ ?_) <;> clear hK' K'))); all_goals (refine al_nil ?_; (simp only [go_sem, simprocAttr, List.length_map]); refine hK _ ?_; clear hK K))
  (refine awp_frz [1] [] (by decide) (by (simp; done)) ?_; simp only [go_sem, simprocAttr, List.length_map])
  refine awp_seq_k fun K hK => ?_
  refine awp_block ?_
  (refine awp_reg_tov [1, 3] [(3, bD (decide ((o.text.size : Int) > 64) || decide ((o.parts.length : Int) > 400) || decide (o.kind < 1) || decide (o.kind > 5)))] (h := ?_) (k := ?_); · ((repeat' (first | ((first | refine al_r rfl fun K' hK' => ?_ | refine al_t rfl rfl fun K' hK' => ?_); (repeat (simp only [go_sem, simprocAttr, List.length_map])); ((first | refine hK' _ _ ?_ | refine ⟨?_, hK' _ _ ?_⟩) <;> clear hK' K' <;> (first | (show alist _ _ _ _ _ _; skip) | (intro s hs; cases hs; done) | (simp; done)))) | refine al_e rfl rfl ?_ | ((fail_if_success (refine al_t rfl rfl fun K' hK' => ?_)); refine al_s _ rfl rfl rfl (fun hb => ?_) (fun hb => ?_)))); all_goals (refine al_nil ?_; simp only [go_sem, simprocAttr, List.length_map, *, Bool.and_true, Bool.and_false, Bool.true_and, Bool.false_and, Bool.or_true, Bool.true_or, Bool.or_false, Bool.false_or, Bool.not_true, Bool.not_false, Bool.false_eq_true]))); intro K hK; (simp only [go_sem, simprocAttr, List.length_map]); refine hK _ ?_; clear hK K
  refine awp_if (_) rfl (fun hc => ?_) (fun hc => ?_)
  · (refine awp_reg_seq [2] fun K hK => ?_; (repeat' ((refine al_r rfl fun K' hK' => ?_); (repeat (simp only [go_sem, simprocAttr, List.length_map])); ((refine hK' _ _ ?_) <;> clear hK' K'))); all_goals (refine al_nil ?_; (simp only [go_sem, simprocAttr, List.length_map]); refine hK _ ?_; clear hK K))
    all_goals (refine awp_ret ?_; (refine hR _ _ (.inl rfl) rfl ?_); (simp only [go_sem, simprocAttr, List.length_map, *, Bool.and_true, Bool.and_false, Bool.true_and, Bool.false_and, Bool.or_true, Bool.true_or, Bool.or_false, Bool.false_or, Bool.not_true, Bool.not_false, Bool.false_eq_true]; done))
  · refine awp_seq_k fun K hK => ?_
    (refine awp_reg_tov [1, 24] [(24, bD ((o.kind == 1 || o.kind == 2) && decide ((o.parts.length : Int) > 0)))] (h := ?_) (k := ?_); · ((repeat' (first | ((first | refine al_r rfl fun K' hK' => ?_ | refine al_t rfl rfl fun K' hK' => ?_); (repeat (simp only [go_sem, simprocAttr, List.length_map])); ((first | refine hK' _ _ ?_ | refine ⟨?_, hK' _ _ ?_⟩) <;> clear hK' K' <;> (first | (show alist _ _ _ _ _ _; skip) | (intro s hs; cases hs; done)))) | refine al_e rfl rfl ?_ | ((fail_if_success (refine al_t rfl rfl fun K' hK' => ?_)); refine al_s _ rfl rfl rfl (fun hb => ?_) (fun hb => ?_)))); all_goals (refine al_nil ?_; simp only [go_sem, simprocAttr, List.length_map, *, Bool.and_true, Bool.and_false, Bool.true_and, Bool.false_and, Bool.or_true, Bool.true_or, Bool.or_false, Bool.false_or, Bool.not_true, Bool.not_false, Bool.false_eq_true]))); intro K hK; (simp only [go_sem, simprocAttr, List.length_map]); refine hK _ ?_; clear hK K
    refine awp_if (_) rfl (fun hc => ?_) (fun hc => ?_)
    · refine awp_skip ?_
      refine hK _ ?_; clear hK K
      refine awp_if (_) rfl (fun hc => ?_) (fun hc => ?_)
      · (refine awp_reg_seq [2] fun K hK => ?_; (repeat' ((refine al_r rfl fun K' hK' => ?_); (repeat (simp only [go_sem, simprocAttr, List.length_map])); ((refine hK' _ _ ?_) <;> clear hK' K'))); all_goals (refine al_nil ?_; (simp only [go_sem, simprocAttr, List.length_map]); refine hK _ ?_; clear hK K))
        all_goals (refine awp_ret ?_; (refine hR _ _ (.inl rfl) rfl ?_); (simp only [go_sem, simprocAttr, List.length_map, *, Bool.and_true, Bool.and_false, Bool.true_and, Bool.false_and, Bool.or_true, Bool.true_or, Bool.or_false, Bool.false_or, Bool.not_true, Bool.not_false, Bool.false_eq_true]; done))
      · refine awp_skip ?_
        refine hK _ ?_; clear hK K
        (refine awp_reg_tov [2] [(2, bD ((o.kind != 5) || decide ((o.parts.length : Int) ≤ 1)))] (h := ?_) (k := ?_); · ((repeat' (first | ((first | refine al_r rfl fun K' hK' => ?_ | refine al_t rfl rfl fun K' hK' => ?_); (repeat (simp only [go_sem, simprocAttr, List.length_map])); ((first | refine hK' _ _ ?_ | refine ⟨?_, hK' _ _ ?_⟩) <;> clear hK' K' <;> (first | (show alist _ _ _ _ _ _; skip) | (intro s hs; cases hs; done)))) | refine al_e rfl rfl ?_ | ((fail_if_success (refine al_t rfl rfl fun K' hK' => ?_)); refine al_s _ rfl rfl rfl (fun hb => ?_) (fun hb => ?_)))); all_goals (refine al_nil ?_; simp only [go_sem, simprocAttr, List.length_map, *, Bool.and_true, Bool.and_false, Bool.true_and, Bool.false_and, Bool.or_true, Bool.true_or, Bool.or_false, Bool.false_or, Bool.not_true, Bool.not_false, Bool.false_eq_true]))); intro K hK; (simp only [go_sem, simprocAttr, List.length_map]); refine hK _ ?_; clear hK K
        all_goals (refine awp_ret ?_; (refine hR _ _ (.inl rfl) rfl ?_); (simp_all; done))
    · (refine awp_reg_tov [1, 24] [(24, bD (((o.kind != 2) && (o.kind != 3)) && !(o.text.toList == (⟨#[]⟩ : ByteArray).toList)))] (h := ?_) (k := ?_); · ((repeat' (first | ((first | refine al_r rfl fun K' hK' => ?_ | refine al_t rfl rfl fun K' hK' => ?_); (repeat (simp only [go_sem, simprocAttr, List.length_map])); ((refine hK' _ _ ?_) <;> clear hK' K')) | refine al_e rfl rfl ?_ | ((fail_if_success (refine al_t rfl rfl fun K' hK' => ?_)); refine al_s _ rfl rfl rfl (fun hb => ?_) (fun hb => ?_)))); all_goals (refine al_nil ?_; simp only [go_sem, simprocAttr, List.length_map, *, Bool.and_true, Bool.and_false, Bool.true_and, Bool.false_and, Bool.or_true, Bool.true_or, Bool.or_false, Bool.false_or, Bool.not_true, Bool.not_false, Bool.false_eq_true]))); intro K hK; (simp only [go_sem, simprocAttr, List.length_map]); refine hK _ ?_; clear hK K
      refine awp_if (_) rfl (fun hc => ?_) (fun hc => ?_)
      · refine awp_skip ?_
        refine hK _ ?_; clear hK K
        refine awp_if (_) rfl (fun hc => ?_) (fun hc => ?_)
        · (refine awp_reg_seq [2] fun K hK => ?_; (repeat' ((refine al_r rfl fun K' hK' => ?_); (repeat (simp only [go_sem, simprocAttr, List.length_map])); ((refine hK' _ _ ?_) <;> clear hK' K'))); all_goals (refine al_nil ?_; (simp only [go_sem, simprocAttr, List.length_map]); refine hK _ ?_; clear hK K))
          all_goals (refine awp_ret ?_; (refine hR _ _ (.inl rfl) rfl ?_); (simp only [go_sem, simprocAttr, List.length_map, *, Bool.and_true, Bool.and_false, Bool.true_and, Bool.false_and, Bool.or_true, Bool.true_or, Bool.or_false, Bool.false_or, Bool.not_true, Bool.not_false, Bool.false_eq_true]; done))
        · refine awp_skip ?_
          refine hK _ ?_; clear hK K
          (refine awp_reg_tov [2] [(2, bD ((o.kind != 5) || decide ((o.parts.length : Int) ≤ 1)))] (h := ?_) (k := ?_); · ((repeat' (first | ((first | refine al_r rfl fun K' hK' => ?_ | refine al_t rfl rfl fun K' hK' => ?_); (repeat (simp only [go_sem, simprocAttr, List.length_map])); ((first | refine hK' _ _ ?_ | refine ⟨?_, hK' _ _ ?_⟩) <;> clear hK' K' <;> (first | (show alist _ _ _ _ _ _; skip) | (intro s hs; cases hs; done)))) | refine al_e rfl rfl ?_ | ((fail_if_success (refine al_t rfl rfl fun K' hK' => ?_)); refine al_s _ rfl rfl rfl (fun hb => ?_) (fun hb => ?_)))); all_goals (refine al_nil ?_; simp only [go_sem, simprocAttr, List.length_map, *, Bool.and_true, Bool.and_false, Bool.true_and, Bool.false_and, Bool.or_true, Bool.true_or, Bool.or_false, Bool.false_or, Bool.not_true, Bool.not_false, Bool.false_eq_true]))); intro K hK; (simp only [go_sem, simprocAttr, List.length_map]); refine hK _ ?_; clear hK K
          all_goals (refine awp_ret ?_; (refine hR _ _ (.inl rfl) rfl ?_); (simp_all; done))
      · (refine awp_reg_end_tov [1, 24] [(24, bD (((o.kind != 1) && (o.kind != 4)) && (o.num != 0)))] (h := ?_) (k := ?_); · ((repeat' (first | ((first | refine al_r rfl fun K' hK' => ?_ | refine al_t rfl rfl fun K' hK' => ?_); (repeat (simp only [go_sem, simprocAttr, List.length_map])); ((refine hK' _ _ ?_) <;> clear hK' K')) | refine al_e rfl rfl ?_ | ((fail_if_success (refine al_t rfl rfl fun K' hK' => ?_)); refine al_s _ rfl rfl rfl (fun hb => ?_) (fun hb => ?_)))); all_goals (refine al_nil ?_; simp only [go_sem, simprocAttr, List.length_map, *, Bool.and_true, Bool.and_false, Bool.true_and, Bool.false_and, Bool.or_true, Bool.true_or, Bool.or_false, Bool.false_or, Bool.not_true, Bool.not_false, Bool.false_eq_true]))); intro K hK; (simp only [go_sem, simprocAttr, List.length_map]); refine hK _ ?_; clear hK K
        refine hK _ ?_; clear hK K
        refine awp_if (_) rfl (fun hc => ?_) (fun hc => ?_)
        · (refine awp_reg_seq [2] fun K hK => ?_; (repeat' ((refine al_r rfl fun K' hK' => ?_); (repeat (simp only [go_sem, simprocAttr, List.length_map])); ((refine hK' _ _ ?_) <;> clear hK' K'))); all_goals (refine al_nil ?_; (simp only [go_sem, simprocAttr, List.length_map]); refine hK _ ?_; clear hK K))
          all_goals (refine awp_ret ?_; (refine hR _ _ (.inl rfl) rfl ?_); (simp only [go_sem, simprocAttr, List.length_map, *, Bool.and_true, Bool.and_false, Bool.true_and, Bool.false_and, Bool.or_true, Bool.true_or, Bool.or_false, Bool.false_or, Bool.not_true, Bool.not_false, Bool.false_eq_true]; done))
        · refine awp_skip ?_
          refine hK _ ?_; clear hK K
          (refine awp_reg_tov [2] [(2, bD ((o.kind != 5) || decide ((o.parts.length : Int) ≤ 1)))] (h := ?_) (k := ?_); · ((repeat' (first | ((first | refine al_r rfl fun K' hK' => ?_ | refine al_t rfl rfl fun K' hK' => ?_); (repeat (simp only [go_sem, simprocAttr, List.length_map])); ((first | refine hK' _ _ ?_ | refine ⟨?_, hK' _ _ ?_⟩) <;> clear hK' K' <;> (first | (show alist _ _ _ _ _ _; skip) | (intro s hs; cases hs; done)))) | refine al_e rfl rfl ?_ | ((fail_if_success (refine al_t rfl rfl fun K' hK' => ?_)); refine al_s _ rfl rfl rfl (fun hb => ?_) (fun hb => ?_)))); all_goals (refine al_nil ?_; simp only [go_sem, simprocAttr, List.length_map, *, Bool.and_true, Bool.and_false, Bool.true_and, Bool.false_and, Bool.or_true, Bool.true_or, Bool.or_false, Bool.false_or, Bool.not_true, Bool.not_false, Bool.false_eq_true]))); intro K hK; (simp only [go_sem, simprocAttr, List.length_map]); refine hK _ ?_; clear hK K
          all_goals (refine awp_ret ?_; (refine hR _ _ (.inl rfl) rfl ?_); (simp only [go_sem, simprocAttr, List.length_map, *, Bool.and_true, Bool.and_false, Bool.true_and, Bool.false_and, Bool.or_true, Bool.true_or, Bool.or_false, Bool.false_or, Bool.not_true, Bool.not_false, Bool.false_eq_true]; done))
end Go.Proofs.Ytagphggcdmjlpaa.P

