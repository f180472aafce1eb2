/- NodeOwn: whatever its argument it says true. -/
import Derived.Test.YtlffgjppnbhahaaGreatOB
set_option linter.unusedSimpArgs false
set_option linter.unusedVariables false
set_option maxHeartbeats 1000000
namespace Go.Cx
open Go.Ab (PV HV D iD bD)

theorem run_all (q : Bool) : isT (runO q) = true := by
  cases q
  · exact runO_f
  · exact runO_t

/-- Where the four cells of the argument lie: nowhere; the last one's rows lie in what was there. -/
def locV (k n : Int) (t : ByteArray) (args : List (List PV)) (ws : Value) (F : Nat → Prop) : Lc
  | 0 => some ⟨0, 0, 0, some (.int .i64 k, .lit (.int .i64 k), fun _ => False)⟩
  | 1 => some ⟨0, 0, 0, some (.int .i64 n, .lit (.int .i64 n), fun _ => False)⟩
  | 2 => some ⟨0, 0, 0, some (.string t, .lit (.string t), fun _ => False)⟩
  | 3 => some ⟨0, 0, 0, some (ws, .sl args, F)⟩
  | _ => none

theorem lit_tree (w : World) (v : Value) : TreeIn w (fun _ => False) v (.lit v) :=
  ⟨fun _ => none, ⟨fun _ _ h => (by cases h), fun _ _ h => (by cases h), fun _ _ h => (by cases h), fun _ _ _ _ h => (by cases h)⟩, .p _ _ (.lit v), fun _ h => (h rfl).elim⟩

theorem no_dom {loc : Lc} {b : Nat} : ¬ Dom loc (Tr.e : Tr OB).get b := by
  rintro ⟨i, o, p, h, _⟩
  cases h

theorem ownNode {f : Nat} {xs : List PV} (hx : Go.Ab.shapeOk prog f 41 xs) (w : World) (v : Value) (hv : Go.Ab.V (Go.Ab.hvOf w) noLoc [] v (.agg (xs.map .p))) :
    Calls prog 10 #[v] w fun e w' => e = .returned (.bool true) ∧ Go.RowKit.Below w.heap.size w w' := by
  obtain ⟨q, hq⟩ := Go.Proofs.YtlffgjppnbhahaaGreat.P.flatP hx
  obtain ⟨k, n, t, args, g, rfl, _⟩ := Go.Proofs.YtlffgjppnbhahaaGreat.P.sh41 hx
  have ho := Go.Proofs.YtlffgjppnbhahaaGreat.P.ownV f k n t args hx
  obtain ⟨ws, rfl, hw⟩ := agg_inv hv
  have hsr : Go.Ab.Sr (Go.Ab.hvOf w) noLoc [] w := ⟨fun b c hb => by
    simp only [Go.Ab.hvOf] at hb
    cases hw : w.heap[b]? with
    | none => rw [hw] at hb; cases hb
    | some ob =>
      rw [hw] at hb
      cases ob <;> dsimp only at hb <;> try cases hb
      exact ⟨_, _, _, rfl, fun _ _ h => h⟩, fun _ _ h => (by cases h), fun _ _ h => (by cases h), fun _ _ _ _ h => (by cases h)⟩
  have hlt : ∀ b, Go.Ab.hvOf w b ≠ none → b < w.heap.size := fun b hb => by
    cases hc : Go.Ab.hvOf w b with
    | none => exact (hb hc).elim
    | some c =>
      obtain ⟨c', e, f, g, _⟩ := hsr.heap b c hc
      exact (Array.getElem?_eq_some_iff.1 g).1
  have h1 : ws.oneCell' = true := by cases hw <;> rfl
  refine call_true (ρ := rhoV (fun _ => 0) k n t args) (loc := locV k n t args ws fun b => Go.Ab.hvOf w b ≠ none) mixed_prog dsts_prog no_oracle (orS_ok sumN (orS_ok (flatS_ok hq) (ownS_ok ho))) (fun _ _ => none_loops) (run_all q) w _ ?_ ?_ ?_
  · intro id p v A F g1 g2
    match id, g1 with
    | 0, g1 => cases g1; cases g2; exact ⟨lit_tree w _, fun _ h => h.elim⟩
    | 1, g1 => cases g1; cases g2; exact ⟨lit_tree w _, fun _ h => h.elim⟩
    | 2, g1 => cases g1; cases g2; exact ⟨lit_tree w _, fun _ h => h.elim⟩
    | 3, g1 => cases g1; cases g2; exact ⟨⟨_, hsr, .p _ _ hw, fun _ h => h⟩, fun b hb => ⟨no_dom, hlt b hb⟩⟩
    | _ + 4, g1 => cases g1
  · intro id hid
    match id, hid with
    | _ + 4, _ => rfl
  · refine .cons ?_ .nil
    simp only [V]
    refine ⟨_, rfl, .cons ?_ (.cons ?_ (.cons ?_ (.cons ?_ .nil)))⟩
    · simp only [V]; exact ⟨_, rfl, ⟨_, rfl⟩, rfl⟩
    · simp only [V]; exact ⟨_, rfl, ⟨_, rfl⟩, rfl⟩
    · simp only [V]; exact ⟨_, rfl, ⟨_, rfl⟩, rfl⟩
    · simp only [V]; exact ⟨_, rfl, ⟨_, rfl⟩, h1⟩

theorem closedV : Go.Ab.closedT prog [3, 9, 39, 41] = true := by kernel_rfl
end Go.Cx
