/- 'append(nil, make(T, n)...)' and 'cap(nil)', over abstract states. No program is named here. -/
import Derived.Test.YtlffgjppnbhahaaGreatAbM
import Derived.Lib.AppendZeros
set_option linter.unusedSimpArgs false
set_option linter.unusedVariables false
set_option maxHeartbeats 1000000
namespace Go.Ab

section
variable {P : Program} {M : En} {H0 : HV} {w0 : World} {nt : Nat} {H : HV} {loc : Nat → Loc} {w : World} {st : St} {a : Act}

/-- So many zeros, as a new row. -/
def appendZ (P : Program) (t tx : TypeId) (s n : Nat) (st : St) (x y : D) (K : D → St → Prop) : Prop :=
  match x, y, P.underlying t, P.underlying tx with
  | .nil, .p (.lit (.int _ m)), some (.slice e), some (.int _) =>
    (match zeroO P e with
     | some cs => cs.all cellOk0 = true ∧ cs.length = s ∧ 0 < m ∧ m.toNat * n ≤ 140737488355328 ∧ K (.ref st.ob.length 0 m.toNat) ⟨st.tm, st.ob ++ [.row s (List.replicate m.toNat (cs.map zpv))], st.n0⟩
     | none => False)
  | _, _, _, _ => False

theorem zeroCells_at {z : Array Value} {n i j : Nat} (hi : i < n) (hj : j < z.size) : (Builtin.zeroCells z n)[i * z.size + j]? = z[j]? := by
  have hlt : i * z.size + j < n * z.size := by
    have : (i + 1) * z.size ≤ n * z.size := Nat.mul_le_mul_right _ hi
    rw [Nat.succ_mul] at this; omega
  unfold Builtin.zeroCells
  rw [Array.getElem?_map, Array.getElem?_range, if_pos hlt]
  simp only [Option.map_some]
  rw [Nat.add_comm, Nat.add_mul_mod_self_right, Nat.mod_eq_of_lt hj, getElem!_pos _ j hj, Array.getElem?_eq_getElem hj]

theorem appendZ_sound {t tx ty : TypeId} {s n : Nat} {x y : D} {K : D → St → Prop} (hap : apO P t = some (s, n)) (h : appendZ P t tx s n st x y K) (r : Rel M H0 w0 nt H loc w st a) {vx vy : Value} (hv : V H loc st.ob vx x) (hy : V H loc st.ob vy y) :
    ∃ v w' loc' d st', (Builtin.append_ #[t, tx] ty #[vx, vy]).run P w = .ok v w' ∧ K d st' ∧ V H loc' st'.ob v d ∧ Rel M H0 w0 nt H loc' w' st' a := by
  unfold appendZ at h
  split at h
  · rename_i k m e kx hu hux
    obtain ⟨e', i, z, hu', hi, hz, hzs, his, hib, hs0, hn0⟩ := apO_of hap
    have he : e' = e := by rw [hu] at hu'; cases hu'; rfl
    subst he
    cases hv
    have := hy.lit_inv
    subst this
    split at h
    · rename_i cs hzo
      obtain ⟨hok, hcs, hm, hfit, hK⟩ := h
      obtain ⟨n', rfl⟩ : ∃ n' : Nat, m = n' := ⟨m.toNat, by omega⟩
      rw [Int.toNat_natCast] at hfit hK
      have hn1 : 0 < n' := by omega
      have hcz : cs = z.cells.toList.map constC := by
        unfold zeroO at hzo
        rw [hi] at hzo
        simp only [Option.bind_some, hz, Option.some.injEq] at hzo
        exact hzo.symm
      have h63 : (n' : Int) ≤ 9223372036854775807 := by
        have : n' * 1 ≤ n' * n := Nat.mul_le_mul_left _ (by omega)
        omega
      have hrun := Lib.run_append_nil_zeros w t tx ty e' i z k kx hu hux hi hz n' hn1 (by omega) h63 (by rw [hib]; omega)
      have hge : n' ≤ grownCap w n' 0 e' := by have := grown_ge w n' 0 e' h63; omega
      generalize grownCap w n' 0 e' = g at hrun hge
      have hsz1 : (Builtin.zeroCells z.cells n').size = n' * s := by rw [zeroCells_size, hzs]
      have hsz : (Builtin.zeroCells z.cells n' ++ Builtin.zeroCells z.cells (g - n')).size = g * s := by
        rw [Array.size_append, zeroCells_size, zeroCells_size, hzs, ← Nat.add_mul]
        congr 1; omega
      obtain ⟨loc', r', hv'⟩ := r.drew.newRow e' (c := Builtin.zeroCells z.cells n' ++ Builtin.zeroCells z.cells (g - n')) s (List.replicate n' (cs.map zpv)) g
        (by rw [hsz, List.length_replicate]; exact Nat.mul_le_mul_right s hge) (by rw [hsz]; exact Nat.le_refl _) (by rw [List.length_replicate]; exact hge)
        (fun x hx => by rw [(List.mem_replicate.1 hx).2, List.length_map, hcs])
        (fun i' x hx j y hj => by
          have hil : i' < n' := by
            rcases Nat.lt_or_ge i' n' with h' | h'
            · exact h'
            · rw [List.getElem?_eq_none (by rw [List.length_replicate]; exact h')] at hx; cases hx
          have hxe : x = cs.map zpv := (List.mem_replicate.1 (List.mem_of_getElem? hx)).2
          subst hxe
          rw [List.getElem?_map] at hj
          cases hcj : cs[j]? with
          | none => rw [hcj] at hj; cases hj
          | some c =>
            rw [hcj] at hj; cases hj
            rw [hcz, List.getElem?_map, Array.getElem?_toList] at hcj
            cases hzj : z.cells[j]? with
            | none => rw [hzj] at hcj; cases hcj
            | some u =>
              rw [hzj] at hcj; cases hcj
              have hjl : j < z.cells.size := by
                rcases Nat.lt_or_ge j z.cells.size with h' | h'
                · exact h'
                · simp [Array.getElem?_eq_none h'] at hzj
              have hlt : i' * s + j < n' * s := by
                have : (i' + 1) * s ≤ n' * s := Nat.mul_le_mul_right _ hil
                rw [Nat.succ_mul] at this; omega
              refine ⟨u, ?_, ?_, ?_⟩
              · rw [Array.getElem?_append_left (by rw [hsz1]; exact hlt), ← hzs, zeroCells_at hil hjl, hzj]
              · have := List.all_eq_true.1 hok (constC u) (by rw [hcz]; exact List.mem_map.2 ⟨u, by simpa using Array.mem_of_getElem? hzj, rfl⟩)
                unfold constC at this
                split at this
                · rfl
                · exact this
              · unfold constC
                split
                · exact .none _ _
                · exact .lit _)
      rw [List.length_replicate] at hv'
      exact ⟨_, _, loc', _, _, hrun, hK, hv', r'⟩
    · exact h.elim
  · exact h.elim

end
end Go.Ab
