/- slices.Sort on a row whose order is not known, as a summary. -/
import Derived.Test.YtlffgjppnbhahaaGreatX29
import Derived.Test.YtlffgjppnbhahaaGreatSO
set_option linter.unusedSimpArgs false
set_option linter.unusedVariables false
set_option maxHeartbeats 1000000
namespace Go.Cx
open Go.Proofs Go.Shelf Go.Sort

def insI (z : Int) : List Int → List Int
  | [] => [z]
  | y :: l => bif decide (z ≤ y) then z :: y :: l else y :: insI z l

def srtI : List Int → List Int
  | [] => []
  | z :: l => insI z (srtI l)

theorem insI_perm (z : Int) : ∀ l, (insI z l).Perm (z :: l)
  | [] => .refl _
  | y :: l => by
    unfold insI
    cases decide (z ≤ y) with
    | true => exact .refl _
    | false => exact (List.Perm.cons y (insI_perm z l)).trans (.swap z y l)

theorem srtI_perm : ∀ l, (srtI l).Perm l
  | [] => .refl _
  | z :: l => (insI_perm z (srtI l)).trans (.cons z (srtI_perm l))

theorem insI_up (z : Int) : ∀ l : List Int, l.Pairwise (· ≤ ·) → (insI z l).Pairwise (· ≤ ·)
  | [], _ => by simp [insI]
  | y :: l, h => by
    have h' := List.pairwise_cons.1 h
    unfold insI
    cases hd : decide (z ≤ y) with
    | true =>
      have hd : z ≤ y := by simpa using hd
      refine List.pairwise_cons.2 ⟨fun x hx => ?_, h⟩
      rcases List.mem_cons.1 hx with rfl | hx
      · exact hd
      · exact Int.le_trans hd (h'.1 x hx)
    | false =>
      have hd : ¬ z ≤ y := by simpa using hd
      refine List.pairwise_cons.2 ⟨fun x hx => ?_, insI_up z l h'.2⟩
      rcases List.mem_cons.1 ((insI_perm z l).subset hx) with rfl | hx
      · omega
      · exact h'.1 x hx

theorem srtI_up : ∀ l : List Int, (srtI l).Pairwise (· ≤ ·)
  | [] => .nil
  | z :: l => insI_up z _ (srtI_up l)

theorem srt_eq {us zs : List Int} (h : us.Perm zs) : us.mergeSort (fun x y => decide (x ≤ y)) = srtI zs := by
  refine List.Perm.eq_of_pairwise (le := (· ≤ ·)) (fun a b _ _ h1 h2 => Int.le_antisymm h1 h2) ?_ (srtI_up zs) (((List.mergeSort_perm us _).trans h).trans (srtI_perm zs).symm)
  have := List.pairwise_mergeSort (le := fun x y : Int => decide (x ≤ y)) (fun a b c h1 h2 => by simp at h1 h2 ⊢; omega) (fun a b => by simp; omega) us
  exact this.imp (by simp)

def intsOf : List CV → R (List Int)
  | [] => .ok []
  | x :: l => (R.of "ints" (keyI? x)).bind fun z => (intsOf l).bind fun zs => .ok (z :: zs)

theorem intsOf_ok : ∀ {xs : List CV} {zs : List Int}, intsOf xs = .ok zs → xs = intsL zs
  | [], zs, h => by cases h; rfl
  | x :: l, zs, h => by
    obtain ⟨z, h1, h⟩ := R.bind_ok.1 h
    obtain ⟨zs', h2, h⟩ := R.bind_ok.1 h
    cases h
    have h1 := R.of_ok.1 h1
    unfold keyI? at h1
    split at h1
    · cases h1
      rw [intsOf_ok h2]; rfl
    · cases h1

def sortS (so : FuncId) : Sum := fun f args hp nx => bif Nat.beq f so then (match args with
  | [.sl id st off n _ _] => match hp.get id with
    | some (.bag xs) => some ((intsOf xs).bind fun zs => R.if "sort" (Nat.beq off 0 && Nat.beq st 1 && Nat.beq n zs.length && Nat.ble 1 n && Nat.ble n 1000) (.ok (.tup [], hp.set id (.cells (intsL (srtI zs))), nx)))
    | _ => none
  | _ => none) else none

theorem perm_ints {ys : List CV} {zs : List Int} (h : ys.Perm (intsL zs)) : ∃ us : List Int, us.Perm zs ∧ ys = intsL us := by
  refine ⟨ys.filterMap keyI?, ?_, ?_⟩
  · have := h.filterMap keyI?
    refine this.trans ?_
    unfold intsL
    rw [List.filterMap_map]
    have : (keyI? ∘ fun z => CV.lit (.int .i64 z)) = some := by funext z; rfl
    rw [this, List.filterMap_some]
  · have hall : ∀ y, y ∈ ys → ∃ z, y = .lit (.int .i64 z) := fun y hy => by
      have := h.subset hy
      obtain ⟨z, _, hz⟩ := List.mem_map.1 this
      exact ⟨z, hz.symm⟩
    clear h
    induction ys with
    | nil => rfl
    | cons y ys ih =>
      obtain ⟨z, rfl⟩ := hall y (.head _)
      have e : keyI? (.lit (.int .i64 z)) = some z := rfl
      rw [List.filterMap_cons, e]
      show _ = CV.lit (.int .i64 z) :: intsL (ys.filterMap keyI?)
      rw [← ih fun y hy => hall y (.tail _ hy)]

theorem sortS_ok {P : Program} {ρr : Ren} (L : Lays.n189 P ρr) {ρ : Nat → Int} : SumOk P ρ (sortS (ρr.f 189)) := by
  intro f args hp nx v hp' nx' hs loc w vs hM hv hf
  unfold sortS at hs
  cases hfo : Nat.beq f (ρr.f 189) with
  | false => rw [hfo] at hs; cases hs
  | true =>
    rw [hfo, cond_true] at hs
    have := Nat.eq_of_beq_eq_true hfo
    subst this
    split at hs
    · rename_i id st off n cap ex
      split at hs
      · rename_i xs hbag
        have hs := Option.some.inj hs
        obtain ⟨zs, h1, hs⟩ := R.bind_ok.1 hs
        obtain ⟨h2, hs⟩ := R.if_ok.1 hs
        cases hs
        simp only [Bool.and_eq_true] at h2
        obtain ⟨⟨⟨⟨b1, b2⟩, b3⟩, b4⟩, b5⟩ := h2
        have b1 := Nat.eq_of_beq_eq_true b1
        have b2 := Nat.eq_of_beq_eq_true b2
        have b3 := Nat.eq_of_beq_eq_true b3
        have b4 : 1 ≤ n := Nat.le_of_ble_eq_true b4
        have b5 : n ≤ 1000 := Nat.le_of_ble_eq_true b5
        subst b1 b2 b3
        have hxs := intsOf_ok h1
        subst hxs
        simp only [VL, V] at hv
        obtain ⟨u, l, hvl, ⟨p, ad, c, p1, rfl, p2, p3, p4, p5⟩, rfl⟩ := hv
        have hvs : vs = #[.slice (some ad) zs.length c] := Array.ext' hvl
        subst hvs
        obtain ⟨had, hfit⟩ : ad = ⟨p.b, p.o + 0, none⟩ ∧ p.o + 0 + c * 1 ≤ p.n := by
          rcases p5 with h | h
          · omega
          · exact h
        obtain ⟨q, q1, ys, q2, cc, ec, q3, q4, q5, q6⟩ := hM.sat _ _ hbag
        rw [p1] at q1; cases q1
        obtain ⟨us, u1, rfl⟩ := perm_ints q2
        have hul : us.length = zs.length := u1.length_eq
        have hcell : ∀ j (hj : j < us.length), cc[p.o + j]? = some (.int .i64 us[j]) := fun j hj => by
          obtain ⟨v, v1, v2⟩ := q6 j (.lit (.int .i64 us[j])) (by rw [intsL_get, List.getElem?_eq_getElem hj]; rfl)
          simp only [V] at v2
          rw [v1, v2]
        have hblk : p.b < w.heap.size := (Array.getElem?_eq_some_iff.1 q3).1
        have hH : Go.Sort.Holds (Value.int .i64) w p.b p.o us.toArray := fun j hj => by
          have hj' : j < us.length := by simpa using hj
          refine ⟨?_, by simp [World.frozen?, q3]⟩
          simp only [World.cell?, q3, Option.isSome_none, Bool.false_eq_true, if_false]
          rw [hcell j hj']
          congr 2
          rw [getElem!_pos _ j (by simpa using hj')]
          simp
        have hcall := Any.slices_Sort_int L p.b p.o c us w hH hblk (by omega)
        rw [had, ← hul]
        simp only [Nat.add_zero] at hcall ⊢
        refine hcall.mono fun e w' ⟨he, n, os, hw'⟩ => ?_
        have hsrt : us.mergeSort (fun x y => decide (x ≤ y)) = srtI zs := srt_eq u1
        rw [hsrt] at hw'
        have hlen : (srtI zs).length = zs.length := (srtI_perm zs).length_eq
        have hpb : (putRow (Value.int .i64) (Sort.ahead w n) p.b p.o (srtI zs).toArray).heap[p.b]? = some (.cells (putCells (Value.int .i64) p.o (srtI zs).toArray cc) ec (0, 0)) := by
          unfold putRow mapBlock
          simp only [Array.getElem?_modify, if_pos]
          show Option.map _ w.heap[p.b]? = _
          rw [q3]
          rfl
        have ho2 : ∀ b, b ≠ p.b → (putRow (Value.int .i64) (Sort.ahead w n) p.b p.o (srtI zs).toArray).heap[b]? = w.heap[b]? := fun b hb => by
          unfold putRow mapBlock
          simp only [Array.getElem?_modify]
          rw [if_neg (fun e => hb e.symm)]
          rfl
        have hsz1 : (putRow (Value.int .i64) (Sort.ahead w n) p.b p.o (srtI zs).toArray).heap.size = w.heap.size := by simp [size_putRow, Sort.ahead]
        have hgr : ∀ b, b < w.heap.size → w'.heap[b]? = (putRow (Value.int .i64) (Sort.ahead w n) p.b p.o (srtI zs).toArray).heap[b]? := fun b hb => by
          rw [hw']
          unfold grow
          exact Array.getElem?_append_left (by rw [hsz1]; exact hb)
        refine ⟨.tuple #[], loc, he, by simp only [V]; exact ⟨_, rfl, by simp [VL]⟩, ⟨fun j o hj => ?_, fun i j o o' pi pj hi hj => ?_⟩, Nat.le_refl _, fun _ _ => rfl, ⟨by rw [hw']; rfl, by rw [hw']; rfl, by rw [hw']; rfl, by rw [hw']; unfold grow; simp [hsz1], fun b hb hn => ?_, fun b hb => ?_⟩⟩
        · rw [Tr.get_set] at hj
          split at hj
          · rename_i e; subst e
            cases hj
            refine ⟨p, p1, putCells (Value.int .i64) p.o (srtI zs).toArray cc, ec, by rw [hgr _ hblk, hpb], by simp [putCells, q4], ?_, fun i x hx => ?_⟩
            · have : (intsL (srtI zs)).length = (intsL us).length := by simp [intsL, hlen, hul]
              rw [this]; exact q5
            · rw [intsL_get] at hx
              cases hz : (srtI zs)[i]? with
              | none => rw [hz] at hx; cases hx
              | some z =>
                rw [hz] at hx
                cases hx
                have hil : i < (srtI zs).length := (List.getElem?_eq_some_iff.1 hz).1
                refine ⟨.int .i64 z, ?_, by simp [V]⟩
                have hin : p.o + i < cc.size := by
                  have : (intsL us).length = us.length := by simp [intsL]
                  omega
                simp only [putCells, Array.getElem?_mapIdx]
                rw [Array.getElem?_eq_getElem hin]
                simp only [Option.map_some, Option.some.injEq]
                rw [if_pos ⟨by omega, by simp; omega⟩, show p.o + i - p.o = i by omega]
                congr 1
                rw [getElem!_pos _ i (by simpa using hil)]
                simp only [List.getElem_toArray]
                rw [List.getElem?_eq_getElem hil] at hz
                exact Option.some.inj hz
          · rename_i e
            obtain ⟨pj, g1, g2⟩ := hM.sat _ _ hj
            refine ⟨pj, g1, g2.mono (.refl _) ?_⟩
            have hne : pj.b ≠ p.b := fun eb => e (hM.inj _ _ _ _ _ _ hj hbag g1 p1 eb)
            rw [hgr _ g2.lt, ho2 _ hne]
        · have back : ∀ {k : Nat} {o : OB}, (hp.set id (.cells (intsL (srtI zs)))).get k = some o → ∃ o', hp.get k = some o' := fun hk => by
            rw [Tr.get_set] at hk
            split at hk
            · rename_i e; subst e; exact ⟨_, hbag⟩
            · exact ⟨_, hk⟩
          obtain ⟨_, a1⟩ := back hi
          obtain ⟨_, a2⟩ := back hj
          exact hM.inj _ _ _ _ _ _ a1 a2
        · have hne : b ≠ p.b := fun eb => hn ⟨id, _, p, hbag, p1, eb.symm⟩
          rw [hgr b hb, ho2 b hne]
        · obtain ⟨k, o, pk, hk, hpk, rfl⟩ := hb
          rw [Tr.get_set] at hk
          split at hk
          · rename_i e; subst e; exact .inl ⟨_, _, pk, hbag, hpk, rfl⟩
          · exact .inl ⟨k, o, pk, hk, hpk, rfl⟩
      · cases hs
    · cases hs

end Go.Cx
