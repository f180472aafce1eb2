/- slices.Sort of ints, as a call over objects: out of the kit's contract. -/
import Derived.Test.YtjaghpkmbgcabaaAb27
import Derived.Shelf.Sort.Plain
set_option linter.unusedSimpArgs false
set_option linter.unusedVariables false
set_option maxHeartbeats 1000000
namespace Go.Ab
open Go.Proofs Go.Shelf Go.Sort

abbrev srt (zs : List Int) : List Int := zs.mergeSort fun x y => decide (x ≤ y)

theorem Sr.wider {H : HV} {loc : Nat → Loc} {obs : List Ob} {w w' : World} (h : Sr H loc obs w) (hw : ∀ b, b < w.heap.size → w'.heap[b]? = w.heap[b]?) : Sr H loc obs w' where
  heap := fun b c hb => by rw [hw b (h.H_lt hb)]; exact h.heap b c hb
  obj := fun i o ho => by
    cases hl : o.live with
    | false => cases o <;> first | trivial | cases hl
    | true => exact Ob.holds_turn (.refl H) (Turns.refl _ _) (fun hr => hw _ (h.live_lt ho hl hr)) (h.obj i o ho)
  apart := h.apart
  inj := h.inj

theorem sort_calls {P : Program} {ρ : Ren} (L : Lays.n189 P ρ) (zs : List Int) (hz : zs.length < 4611686018427387904) (hne : zs ≠ []) :
    ACalls P (ρ.f 189) [.ref 0 0 zs.length] [.row 1 (zs.map fun z => [.lit (.int .i64 z)])] (fun r obs' => r = .tup [] ∧ obs' = [.row 1 ((srt zs).map fun z => [.lit (.int .i64 z)])]) := by
  intro H loc w vs hsr hsz hvs
  have hpos : 0 < zs.length := List.length_pos_iff.2 hne
  obtain ⟨v, rfl⟩ : ∃ v, vs = #[v] := by
    obtain ⟨l⟩ := vs
    match l, hsz with
    | [v], _ => exact ⟨v, rfl⟩
  have hv := hvs 0 v (.ref 0 0 zs.length) rfl rfl
  have hlen : (srt zs).length = zs.length := List.length_mergeSort zs
  generalize hd : D.ref 0 0 zs.length = d at hv
  cases hv <;> first | (cases hd; done) | skip
  case ref id off len cap s xs ho hl hc hx hr hn =>
    cases hd
    simp only [List.getElem?_cons_zero, Option.some.injEq, Ob.row.injEq] at ho
    obtain ⟨rfl, rfl⟩ := ho
    have hob := hsr.obj 0 _ rfl
    rcases hob with ⟨hx, _⟩ | ⟨_, c, ec, h1, h2, h3, h4, h5⟩
    · rw [hr] at hx; cases hx
    simp only [List.length_map, Nat.mul_one] at h3
    have hcell : ∀ j, j < zs.length → c[(loc 0).o + j]? = some (.int .i64 zs[j]!) := fun j hj => by
      obtain ⟨u, a1, _, a3⟩ := h5 j [.lit (.int .i64 zs[j]!)] (by rw [List.getElem?_map, List.getElem?_eq_getElem hj, getElem!_pos zs j hj]; rfl) 0 _ rfl
      cases a3
      simpa using a1
    have hblk : (loc 0).b < w.heap.size := hsr.live_lt (i := 0) rfl rfl hr
    have hH : Holds (Value.int .i64) w (loc 0).b (loc 0).o zs.toArray := fun j hj => by
      have hj' : j < zs.length := by simpa using hj
      refine ⟨?_, by simp [World.frozen?, h1]⟩
      simp only [World.cell?, h1, Option.isSome_none, Bool.false_eq_true, if_false]
      rw [hcell j hj']
      simp
    have hcall := Any.slices_Sort_int L (loc 0).b (loc 0).o cap zs w hH hblk hz
    simp only [Nat.zero_mul, Nat.add_zero]
    refine hcall.mono fun e w' ⟨he, n, os, hw'⟩ => ?_
    have hp : (putRow (Value.int .i64) (Sort.ahead w n) (loc 0).b (loc 0).o (srt zs).toArray).heap[(loc 0).b]? = some (.cells (putCells (Value.int .i64) (loc 0).o (srt zs).toArray c) ec (0, 0)) := by
      unfold putRow mapBlock
      simp only [Array.getElem?_modify, if_pos]
      show Option.map _ w.heap[(loc 0).b]? = _
      rw [h1]
      rfl
    have ho2 : ∀ b, b ≠ (loc 0).b → (putRow (Value.int .i64) (Sort.ahead w n) (loc 0).b (loc 0).o (srt zs).toArray).heap[b]? = w.heap[b]? := fun b hb => by
      unfold putRow mapBlock
      simp only [Array.getElem?_modify]
      rw [if_neg (fun e => hb e.symm)]
      rfl
    have hsz1 : (putRow (Value.int .i64) (Sort.ahead w n) (loc 0).b (loc 0).o (srt zs).toArray).heap.size = w.heap.size := by simp [size_putRow, Sort.ahead]
    have hgr : ∀ b, b < w.heap.size → w'.heap[b]? = (putRow (Value.int .i64) (Sort.ahead w n) (loc 0).b (loc 0).o (srt zs).toArray).heap[b]? := fun b hb => by
      rw [hw']
      unfold grow
      exact Array.getElem?_append_left (by rw [hsz1]; exact hb)
    have hsr1 : Sr H loc [.row 1 ((srt zs).map fun z => [.lit (.int .i64 z)])] (putRow (Value.int .i64) (Sort.ahead w n) (loc 0).b (loc 0).o (srt zs).toArray) := by
      refine hsr.setOb (id := 0) (o' := .row 1 ((srt zs).map fun z => [.lit (.int .i64 z)])) rfl rfl hr ⟨rfl, by simp [hlen]⟩ ho2 ?_
      refine .inr ⟨hr, _, ec, hp, by simp [putCells, h2], by simp [hlen]; exact h3, fun x hx => ?_, fun i x hi j y hj => ?_⟩
      · obtain ⟨z, _, rfl⟩ := List.mem_map.1 hx; rfl
      · rw [List.getElem?_map] at hi
        obtain ⟨z, hz1, rfl⟩ := Option.map_eq_some_iff.1 hi
        have hil := lt_of_get hz1
        cases j with
        | succ j => simp at hj
        | zero =>
          simp only [List.getElem?_cons_zero, Option.some.injEq] at hj
          subst hj
          refine ⟨.int .i64 z, ?_, rfl, .lit _⟩
          have hin : (loc 0).o + i < c.size := by omega
          simp only [putCells, Nat.mul_one, Nat.add_zero, Array.getElem?_mapIdx]
          rw [Array.getElem?_eq_getElem hin]
          simp only [Option.map_some, Option.some.injEq]
          rw [if_pos ⟨by omega, by simp; omega⟩, show (loc 0).o + i - (loc 0).o = i by omega]
          congr 1
          rw [getElem!_pos _ i (by simpa using hil)]
          simp only [List.getElem_toArray]
          rw [List.getElem?_eq_getElem hil] at hz1
          exact Option.some.inj hz1
    refine ⟨.tuple #[], H, loc, .tup [], _, ⟨rfl, rfl⟩, he, .tup _ _ rfl (fun i v d h _ => by simp at h), hsr1.wider (fun b hb => hgr b (by rw [hsz1] at hb; exact hb)), ⟨?_, ?_, ?_, ?_, fun b hb hm => ?_, .refl H, fun b c h => .inl (by rw [h]; simp)⟩, fun i o ho hl hr => ?_, fun k o ho => ?_⟩
    · rw [hw']; rfl
    · rw [hw']; rfl
    · rw [hw']; rfl
    · rw [hw']; unfold grow; simp [hsz1]
    · have hbne : b ≠ (loc 0).b := fun e => hm ⟨0, _, rfl, rfl, hr, e.symm⟩
      rw [hgr b hb, ho2 b hbne]
    · cases i with
      | zero => exact .inl ⟨0, _, rfl, rfl, hr, rfl⟩
      | succ i => simp at ho
    · cases k with
      | zero => cases ho; exact .inr ⟨_, rfl, ⟨rfl, by simp [hlen]⟩, rfl⟩
      | succ k => simp at ho
  case ref0 => injection hd with a b c; omega
  case refGone => cases hd; rename_i ho; simp at ho
end Go.Ab
