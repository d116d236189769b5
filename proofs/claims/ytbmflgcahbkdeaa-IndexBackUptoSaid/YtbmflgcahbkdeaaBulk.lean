/-
  What the bound of a second form gives: lengths.
-/
import Derived.Test.YtbmflgcahbkdeaaRows
import Derived.ProofKit
import Derived.ChangeArms
namespace Go.Proofs.Ytbmflgcahbkdeaa
open Go.RowKit

section
variable {P : Program} {H : Type} {enc : TypeId × Value → H} {w : World} {base : Nat} {spare : Nat → Bool} {held : Bool}
theorem bulk_one (d : DataW H) : 1 ≤ Rows.uptoBulk d := by
  cases d with
  | lit l => cases l <;> simp [Rows.uptoBulk]
  | _ => simp [Rows.uptoBulk]
theorem bulk_len (l : List (DataW H)) : l.length ≤ Rows.uptoBulkAll l := by
  induction l with
  | nil => exact Nat.zero_le _
  | cons x r ih => have := bulk_one x; simp only [Rows.uptoBulkAll, List.length_cons]; omega
theorem bulk_mem {l : List (DataW H)} {i : Nat} {d : DataW H} (h : l[i]? = some d) : Rows.uptoBulk d ≤ Rows.uptoBulkAll l := by
  induction l generalizing i with
  | nil => cases h
  | cons x r ih =>
    simp only [Rows.uptoBulkAll]
    cases i with
    | zero => simp only [List.getElem?_cons_zero, Option.some.injEq] at h; subst h; omega
    | succ i => rw [List.getElem?_cons_succ] at h; have := ih h; omega
theorem bulk_all {l : List (DataW H)} (hk : Rows.uptoSmall H l = true) : Rows.uptoBulkAll l ≤ 1048576 := of_decide_eq_true hk
theorem bulk_arg {ds gs : List (DataW H)} (hk : Rows.uptoSmall H (ds ++ gs) = true) {i : Nat} {d : DataW H} (h : ds[i]? = some d) : Rows.uptoBulk d ≤ 1048576 := by
  have h2 : (ds ++ gs)[i]? = some d := by rw [List.getElem?_append_left (List.getElem?_eq_some_iff.1 h).1]; exact h
  exact Nat.le_trans (bulk_mem h2) (bulk_all hk)
/-- A slice's length. -/
theorem bulk_sl {t e : TypeId} (ht : P.underlying t = some (.slice e)) {A : Option Addr} {n c : Nat} {d : DataW H} {p : List MemPlace} (h : DataW.Trod enc P w base spare held t (.slice A n c) d p) : n + 1 ≤ Rows.uptoBulk d := by
  obtain ⟨fuel, hf⟩ := h
  rcases DataW.trod_slice ht hf with ⟨h1, h2⟩ | ⟨a, len, cap, elems, rest, _, _, h1, h2, _, _, _, h3, _⟩
  · simp [Value.cells] at h1
    have := bulk_one d
    omega
  · simp [Value.cells] at h1
    obtain ⟨_, rfl, _⟩ := h1
    injection h2 with h2 _
    subst h2
    have := bulk_len (elems.map (·.1))
    simp only [Rows.uptoBulk, List.length_map] at this ⊢
    omega
end
end Go.Proofs.Ytbmflgcahbkdeaa
