/- Maps with whole numbers as keys. No program is named here. -/
import Derived.Test.YtlffgjppnbhahaaGreatAbH
import Derived.MapKept
set_option linter.unusedSimpArgs false
set_option linter.unusedVariables false
set_option maxHeartbeats 1000000
namespace Go.Ab

/-- What a map has at a number. -/
def mget : List (Value × PV) → Int → Option PV
  | [], _ => none
  | (.int _ m, x) :: l, n => if m = n then some x else mget l n
  | _ :: l, n => mget l n

/-- A map, written to at a number. -/
def mset (k : IntKind) (n : Int) (y : PV) : List (Value × PV) → List (Value × PV)
  | [] => [(.int k n, y)]
  | (.int k' m, x) :: l => if m = n then (.int k' m, y) :: l else (.int k' m, x) :: mset k n y l
  | e :: l => e :: mset k n y l

/-- All keys are whole numbers of a kind. -/
def intKeys (k : IntKind) (es : List (Value × PV)) : Prop := ∀ e, e ∈ es → ∃ n, e.1 = .int k n

theorem intKeys_nil (k : IntKind) : intKeys k [] := fun e he => by cases he

theorem intKeys_cons {k : IntKind} {e : Value × PV} {l : List (Value × PV)} (h : intKeys k (e :: l)) : (∃ n x, e = (.int k n, x)) ∧ intKeys k l := by
  obtain ⟨n, hn⟩ := h e List.mem_cons_self
  exact ⟨⟨n, e.2, by rw [← hn]⟩, fun x hx => h x (List.mem_cons_of_mem _ hx)⟩

theorem intKeys_mset {k : IntKind} {n : Int} {y : PV} : ∀ {l : List (Value × PV)}, intKeys k l → intKeys k (mset k n y l)
  | [], _ => fun e he => by simp [mset] at he; subst he; exact ⟨n, rfl⟩
  | e :: l, h => by
    obtain ⟨⟨m, x, rfl⟩, hl⟩ := intKeys_cons h
    unfold mset
    split
    · intro e he
      rcases List.mem_cons.1 he with rfl | he
      · exact ⟨m, rfl⟩
      · exact hl e he
    · intro e he
      rcases List.mem_cons.1 he with rfl | he
      · exact ⟨m, rfl⟩
      · exact intKeys_mset hl e he

theorem mget_mset {k : IntKind} {n : Int} {y : PV} : ∀ {l : List (Value × PV)}, intKeys k l → ∀ j, mget (mset k n y l) j = if n = j then some y else mget l j
  | [], _, j => by simp [mset, mget]
  | e :: l, h, j => by
    obtain ⟨⟨m, x, rfl⟩, hl⟩ := intKeys_cons h
    by_cases hm : m = n
    · subst hm
      simp only [mset, if_true, mget]
      split <;> rfl
    · simp only [mset, if_neg hm, mget, mget_mset hl j]
      by_cases hj : m = j
      · subst hj; rw [if_pos rfl, if_neg (fun e => hm e.symm), if_pos rfl]
      · rw [if_neg hj, if_neg hj]

/-- Entries are as they are known. -/
def MRel (H : HV) : List MapEntry → List (Value × PV) → Prop
  | [], [] => True
  | e :: l, (k, x) :: l' => e.key = k ∧ e.val.oneCell' = true ∧ PVr H e.val x ∧ MRel H l l'
  | _, _ => False

theorem MRel.of {H : HV} : ∀ {l : List MapEntry} {l' : List (Value × PV)}, l.length = l'.length → (∀ (i : Nat) k x, l'[i]? = some (k, x) → ∃ e : MapEntry, l[i]? = some e ∧ e.key = k ∧ e.val.oneCell' = true ∧ PVr H e.val x) → MRel H l l'
  | [], [], _, _ => trivial
  | e :: l, (k, x) :: l', hn, h => by
    obtain ⟨e', h1, h2, h3, h4⟩ := h 0 k x rfl
    cases h1
    exact ⟨h2, h3, h4, MRel.of (by simpa using hn) fun i k x hi => by simpa using h (i + 1) k x (by simpa using hi)⟩
  | [], _ :: _, hn, _ => by simp at hn
  | _ :: _, [], hn, _ => by simp at hn

theorem MRel.to {H : HV} : ∀ {l : List MapEntry} {l' : List (Value × PV)}, MRel H l l' → l.length = l'.length ∧ ∀ (i : Nat) k x, l'[i]? = some (k, x) → ∃ e : MapEntry, l[i]? = some e ∧ e.key = k ∧ e.val.oneCell' = true ∧ PVr H e.val x
  | [], [], _ => ⟨rfl, fun i k x h => by simp at h⟩
  | e :: l, (k, x) :: l', h => by
    obtain ⟨h1, h2, h3, h4⟩ := h
    obtain ⟨g1, g2⟩ := MRel.to h4
    refine ⟨by simp [g1], fun i k' x' hi => ?_⟩
    cases i with
    | zero => simp at hi; obtain ⟨rfl, rfl⟩ := hi; exact ⟨e, rfl, h1, h2, h3⟩
    | succ i => simpa using g2 i k' x' (by simpa using hi)
  | [], _ :: _, h => h.elim
  | _ :: _, [], h => h.elim

theorem MRel.set {H : HV} {v : Value} {y : PV} {key : Value} (h1 : v.oneCell' = true) (h2 : PVr H v y) : ∀ {l : List MapEntry} {l' : List (Value × PV)} {j : Nat} {k : Value} {x : PV}, MRel H l l' → l'[j]? = some (k, x) → key = k →
    MRel H (l.modify j fun e => { e with key := key, val := v }) (l'.set j (k, y))
  | e :: l, (k0, x0) :: l', j, k, x, h, hj, hk => by
    obtain ⟨a1, a2, a3, a4⟩ := h
    cases j with
    | zero =>
      simp at hj
      obtain ⟨rfl, rfl⟩ := hj
      exact ⟨hk, h1, h2, a4⟩
    | succ j => exact ⟨a1, a2, a3, MRel.set h1 h2 a4 (by simpa using hj) hk⟩
  | [], [], j, k, x, _, hj, _ => by simp at hj

theorem MRel.push {H : HV} {e : MapEntry} {k : Value} {y : PV} (h0 : e.key = k) (h1 : e.val.oneCell' = true) (h2 : PVr H e.val y) : ∀ {l : List MapEntry} {l' : List (Value × PV)}, MRel H l l' → MRel H (l ++ [e]) (l' ++ [(k, y)])
  | [], [], _ => ⟨h0, h1, h2, trivial⟩
  | _ :: _, (_, _) :: _, h => ⟨h.1, h.2.1, h.2.2.1, MRel.push h0 h1 h2 h.2.2.2⟩

/-- The search for a key. -/
theorem find_spec {H : HV} {k : IntKind} {n : Int} : ∀ {l : List MapEntry} {l' : List (Value × PV)} (i : Nat), MRel H l l' → intKeys k l' →
    (Instr.findNow (.int k) (.int k n) l i = some none ∧ mget l' n = none ∧ ∀ y, mset k n y l' = l' ++ [(.int k n, y)]) ∨
    ∃ j e x, Instr.findNow (.int k) (.int k n) l i = some (some (i + j, e.val)) ∧ l[j]? = some e ∧ e.key = .int k n ∧ l'[j]? = some (.int k n, x) ∧ mget l' n = some x ∧ PVr H e.val x ∧ ∀ y, mset k n y l' = l'.set j (.int k n, y)
  | [], [], i, _, _ => .inl ⟨rfl, rfl, fun y => rfl⟩
  | e :: l, (k0, x0) :: l', i, h, hk => by
    obtain ⟨a1, a2, a3, a4⟩ := h
    obtain ⟨⟨m, x, he⟩, hk'⟩ := intKeys_cons hk
    cases he
    have hsame : Instr.sameNow (.int k) (.int k n) e.key = some (n == m) := by rw [a1]; simp [Instr.sameNow]
    by_cases hm : m = n
    · subst hm
      refine .inr ⟨0, e, x0, by simp [Instr.findNow, hsame], rfl, a1, rfl, by simp [mget], a3, fun y => by simp [mset]⟩
    · have hne : (n == m) = false := by simpa using fun e => hm e.symm
      rcases find_spec (n := n) (i + 1) a4 hk' with ⟨g1, g2, g3⟩ | ⟨j, e', x', g1, g2, g3, g4, g5, g6, g7⟩
      · exact .inl ⟨by simp [Instr.findNow, hsame, hne, g1], by simp [mget, hm, g2], fun y => by simp [mset, hm, g3]⟩
      · exact .inr ⟨j + 1, e', x', by simp [Instr.findNow, hsame, hne, g1]; omega, by simpa using g2, g3, by simpa using g4, by simp [mget, hm, g5], g6, fun y => by simp [mset, hm, g7]⟩
  | [], _ :: _, _, h, _ => h.elim
  | _ :: _, [], _, h, _ => h.elim

section
variable {P : Program} {M : En} {H0 : HV} {w0 : World} {nt : Nat} {H : HV} {loc : Nat → Loc} {w : World} {st : St} {a : Act}

theorem Born.push {arr : Array MapEntry} {c : Nat} (h : Born arr c) {e : MapEntry} (he : e.born = c) : Born (arr.push e) (c + 1) := by
  refine ⟨fun x hx => ?_, ?_⟩
  · rw [Array.toList_push, List.mem_append] at hx
    rcases hx with hx | hx
    · have := h.1 x hx; omega
    · rcases List.mem_singleton.1 hx with rfl; omega
  · rw [Array.toList_push, List.map_append, List.nodup_append]
    refine ⟨h.2, by simp, fun a ha b hb => ?_⟩
    rcases List.mem_singleton.1 hb with rfl
    obtain ⟨x, hx, rfl⟩ := List.mem_map.1 ha
    have := h.1 x hx
    intro e2
    dsimp only at e2
    omega

theorem Born.modify {arr : Array MapEntry} {c : Nat} (h : Born arr c) (j : Nat) {f : MapEntry → MapEntry} (hf : ∀ e, (f e).born = e.born) : Born (arr.modify j f) c := by
  have e : (arr.modify j f).toList.map (·.born) = arr.toList.map (·.born) := by
    rw [Array.toList_modify]
    apply List.ext_getElem?
    intro i
    rw [List.getElem?_map, List.getElem?_map, List.getElem?_modify]
    cases arr.toList[i]? with
    | none => simp
    | some x => by_cases hj : j = i <;> simp [hj, hf]
  refine ⟨fun x hx => ?_, by rw [e]; exact h.2⟩
  have : x.born ∈ arr.toList.map (·.born) := by rw [← e]; exact List.mem_map.2 ⟨x, hx, rfl⟩
  obtain ⟨y, hy, e2⟩ := List.mem_map.1 this
  rw [← e2]; exact h.1 y hy

/-- A map that is there. -/
theorem Rel.map_at (r : Rel M H0 w0 nt H loc w st a) {id : Nat} {es : List (Value × PV)} (ho : st.ob[id]? = some (.map es)) : (loc id).r = true ∧ ∃ arr clock, w.heap[(loc id).b]? = some (.map arr clock) ∧ MRel H arr.toList es ∧ Born arr clock := by
  obtain ⟨hr, arr, clock, h1, ⟨h2, hb⟩, h3⟩ := r.sr.obj id _ ho
  exact ⟨hr, arr, clock, h1, MRel.of (by simpa using h2) (fun i k x hi => by
    obtain ⟨e, g1, g2⟩ := h3 i k x hi
    exact ⟨e, by simpa using g1, g2⟩), hb⟩

/-- A type's zero value. -/
def zvO (P : Program) (t : TypeId) : Option Value := (P.info? t).bind fun i => i.zero

/-- 'm[k]'. -/
def lookupD (P : Program) (t : TypeId) (st : St) (x ix : D) (ok : Bool) (K : D → St → Prop) : Prop :=
  match x, ix, P.underlying t with
  | .mp id, .p (.lit (.int k n)), some (.map kt et) =>
    (match st.ob[id]?, zvO P et with
     | some (.map es), some z => P.underlying kt = some (.int k) ∧ intKeys k es ∧
       (match mget es n with
        | some y => K (if ok then .tup [.p y, bD true] else .p y) st
        | none => K (if ok then .tup [constD z, bD false] else constD z) st)
     | _, _ => False)
  | _, _, _ => False

theorem zv_run {et : TypeId} {v : Value} (hz : zvO P et = some v) (w : World) : (zeroValue et).run P w = .ok v w := by
  unfold zvO at hz
  cases hi : P.info? et with
  | none => rw [hi] at hz; cases hz
  | some i =>
    rw [hi] at hz
    simp only [Option.bind_some] at hz
    simp [zeroValue, typeInfo, hi, hz]

theorem lookup_sound {t : TypeId} {x ix : D} {ok : Bool} {K : D → St → Prop} (h : lookupD P t st x ix ok K) (r : Rel M H0 w0 nt H loc w st a) {vx vi : Value} (hv : V H loc st.ob vx x) (hi : V H loc st.ob vi ix) :
    ∃ v d, (Instr.lookup t vx vi ok).run P w = .ok v w ∧ K d st ∧ V H loc st.ob v d := by
  unfold lookupD at h
  split at h
  · rename_i id k n kt et hu
    split at h
    · rename_i es z hob hz
      obtain ⟨hk, hks, h⟩ := h
      have := hi.lit_inv; subst this
      cases hv with
      | mpGone _ _ ho' => rw [hob] at ho'; cases ho'
      | mp _ es' ho' =>
        rw [hob] at ho'; cases ho'
        obtain ⟨hr, arr, clock, hw, hm, hbn⟩ := r.map_at hob
        have hkey : MapKept.IsKey (.int k) (.int k n) := rfl
        rcases find_spec (n := n) 0 hm hks with ⟨g1, g2, _⟩ | ⟨j, e, y, g1, g2, g3, g4, g5, g6, _⟩
        · rw [g2] at h
          have hz1 := zv_run hz w
          have hz2 : V H loc st.ob z (constD z) := .constD z
          have e1 := MapKept.run_findKey (w := w) hk g1
          have e2 := MapKept.run_checkKey (P := P) (w := w) hk hkey arr.isEmpty 9999
          refine ⟨if ok then .tuple #[z, .bool false] else z, _, ?_, h, ?_⟩
          · simp [Instr.lookup, run_underlying hu, MapKept.run_getObj_map hw, e1, e2, hz1]
          · cases ok
            · exact hz2
            · refine .tup _ _ rfl fun i v d q1 q2 => ?_
              match i, q1, q2 with
              | 0, q1, q2 => simp at q1 q2; subst q1; subst q2; exact hz2
              | 1, q1, q2 => simp at q1 q2; subst q1; subst q2; exact .p _ _ (.lit _)
              | i + 2, q1, q2 => simp at q1
        · rw [g5] at h
          have e1 := MapKept.run_findKey (w := w) hk g1
          have e2 := MapKept.run_checkKey (P := P) (w := w) hk hkey arr.isEmpty 9999
          refine ⟨if ok then .tuple #[e.val, .bool true] else e.val, _, ?_, h, ?_⟩
          · simp [Instr.lookup, run_underlying hu, MapKept.run_getObj_map hw, e1, e2]
          · cases ok
            · exact .p _ _ g6
            · refine .tup _ _ rfl fun i v d q1 q2 => ?_
              match i, q1, q2 with
              | 0, q1, q2 => simp at q1 q2; subst q1; subst q2; exact .p _ _ g6
              | 1, q1, q2 => simp at q1 q2; subst q1; subst q2; exact .p _ _ (.lit _)
              | i + 2, q1, q2 => simp at q1
    · exact h.elim
  · exact h.elim

/-- 'm[k] = v'. -/
def updateD (P : Program) (t : TypeId) (st : St) (x ix y : D) (K : St → Prop) : Prop :=
  match x, ix, y, P.underlying t with
  | .mp id, .p (.lit (.int k n)), .p (.lit u), some (.map kt _) =>
    (match st.ob[id]? with
     | some (.map es) => P.underlying kt = some (.int k) ∧ u.oneCell' = true ∧ intKeys k es ∧ K ⟨st.tm, st.ob.set id (.map (mset k n (.lit u) es)), st.n0⟩
     | _ => False)
  | _, _, _, _ => False

theorem update_sound {t : TypeId} {x ix y : D} {K : St → Prop} (h : updateD P t st x ix y K) (r : Rel M H0 w0 nt H loc w st a) {vx vi vy : Value} (hv : V H loc st.ob vx x) (hi : V H loc st.ob vi ix) (hy : V H loc st.ob vy y) :
    ∃ w' st', (Instr.mapUpdate t vx vi vy).run P w = .ok () w' ∧ K st' ∧ Rel M H0 w0 nt H loc w' st' a := by
  unfold updateD at h
  split at h
  · rename_i id k n u kt et hu
    split at h
    · rename_i es hob
      obtain ⟨hk, h1, hks, hK⟩ := h
      have := hi.lit_inv; subst this
      have := hy.lit_inv; subst this
      cases hv with
      | mpGone _ _ ho' => rw [hob] at ho'; cases ho'
      | mp _ es' ho' =>
        rw [hob] at ho'; cases ho'
        obtain ⟨hr, arr, clock, hw, hm, hbn⟩ := r.map_at hob
        have hkey : MapKept.IsKey (.int k) (.int k n) := rfl
        have e2 := MapKept.run_checkKey (P := P) (w := w) hk hkey false 9999
        have key : ∀ (arr' : Array MapEntry) (clock' : Nat), Born arr' clock' → MRel H arr'.toList (mset k n (.lit vy) es) →
            Rel M H0 w0 nt H loc { w with heap := w.heap.setIfInBounds (loc id).b (.map arr' clock') } ⟨st.tm, st.ob.set id (.map (mset k n (.lit vy) es)), st.n0⟩ a := by
          intro arr' clock' hb' hm'
          obtain ⟨q1, q2⟩ := MapKept.heap_set (o' := .map arr' clock') hw
          refine r.setOb (o' := .map (mset k n (.lit vy) es)) hob rfl hr trivial (fun b hb => q2 b hb) (by simp) rfl rfl rfl ?_
          obtain ⟨l1, l2⟩ := hm'.to
          exact ⟨hr, arr', clock', q1, ⟨by simpa using l1, hb'⟩, fun i k x hi => by
            obtain ⟨e, g1, g2⟩ := l2 i k x hi
            exact ⟨e, by simpa using g1, g2⟩⟩
        rcases find_spec (n := n) 0 hm hks with ⟨g1, g2, g3⟩ | ⟨j, e, x, g1, g2, g3, g4, g5, g6, g7⟩
        · have e1 := MapKept.run_findKey (w := w) hk g1
          refine ⟨_, _, ?_, hK, key (arr.push { key := .int k n, val := vy, born := clock }) (clock + 1) (hbn.push rfl) (by
            rw [g3, Array.toList_push]; exact MRel.push rfl h1 (.lit _) hm)⟩
          simp [Instr.mapUpdate, run_underlying hu, MapKept.run_getObj_map hw, e1, e2, MapKept.run_setObj_map _ hw]
        · have e1 := MapKept.run_findKey (w := w) hk g1
          have hj : arr[j]? = some e := by simpa using g2
          refine ⟨_, _, ?_, hK, key (arr.modify j fun e => { e with key := .int k n, val := vy }) clock (hbn.modify _ (fun _ => rfl)) (by
            rw [g7, Array.toList_modify]; exact MRel.set h1 (.lit _) hm g4 rfl)⟩
          simp [Instr.mapUpdate, run_underlying hu, MapKept.run_getObj_map hw, e1, e2, hj, g3, MapKept.run_keyThatStays hkey, MapKept.run_setObj_map _ hw]
    · exact h.elim
  · exact h.elim

/-- A new map. -/
theorem Rel.newMap (r : Rel M H0 w0 nt H loc w st a) : ∃ loc', Rel M H0 w0 nt H loc' (w.alloc (.map #[] 0)) ⟨st.tm, st.ob ++ [.map []], st.n0⟩ a ∧ V H loc' (st.ob ++ [.map []]) (.map (some w.heap.size)) (.mp st.ob.length) := by
  refine ⟨_, r.push (.map #[] 0) (.map []) 0 0 ⟨rfl, #[], 0, heap_alloc_new w _, ⟨rfl, fun x h => by simp at h, by simp⟩, fun i k x h => by simp at h⟩, ?_⟩
  have hl : locPush loc st.ob.length ⟨w.heap.size, 0, 0, true⟩ st.ob.length = ⟨w.heap.size, 0, 0, true⟩ := if_pos rfl
  have := V.mp (H := H) (loc := locPush loc st.ob.length ⟨w.heap.size, 0, 0, true⟩) (obs := st.ob ++ [.map []]) st.ob.length [] (by simp)
  rw [hl] at this
  exact this

end
end Go.Ab
