/-
  The string of a slice of bytes; strings of lists of bytes, compared.
-/
import Derived.Test.YtbflncfhbmlibaaWire
import Derived.Laws.BytesArg
namespace Go.Proofs.Ytbflncfhbmlibaa
open Go.RowKit

def strB (bs : List UInt8) : ByteArray := ⟨bs.toArray⟩
@[go_sem] theorem strB_toList (bs : List UInt8) : (strB bs).toList = bs := by simp [strB]
theorem strB_inj {a b : List UInt8} (h : strB a = strB b) : a = b := by
  unfold strB at h
  injection h with h
  simpa using h
theorem strOfNums_bytes (bs : List UInt8) : strOfNums (bs.map fun u => (u.toNat : Int)) = strB bs := by
  unfold strOfNums strB
  congr 1
  simp [Function.comp_def]

section
variable {P : Program} {w : World} {A : Option Addr} {n : Nat} {bs : List UInt8}
/-- 'string(b)' -/
theorem run_str (h : SlAt w A n (bs.map byteV)) {src dst e : TypeId} (hs : P.underlying src = some (.slice e)) (he : P.underlying e = some (.int .u8)) (hd : P.underlying dst = some .string) (c : Nat) :
    (convert src dst (.slice A n c)).run P w = .ok (.string (strB bs)) w := by
  have hl : bs.length = n := by simpa using h.1
  cases A with
  | none =>
    have h0 : n = 0 := by
      rcases Nat.eq_zero_or_pos n with h0 | h0
      · exact h0
      · obtain ⟨_, _, e, _⟩ := h.2 0 h0; cases e
    subst h0
    obtain rfl : bs = [] := List.eq_nil_of_length_eq_zero hl
    exact run_convert_bytes_nil w src e hs he 0 c dst hd
  | some a =>
    rcases Nat.eq_zero_or_pos n with h0 | h0
    · subst h0
      obtain rfl : bs = [] := List.eq_nil_of_length_eq_zero hl
      rw [run_convert_bytes_string w src dst e _ 0 c hs he hd, run_bytesToString w a 0 c [] (by simp [loadCells, loadCellsFrom, Sem.run_pure])]
      rfl
    · obtain ⟨b, o, e0, _, _⟩ := h.2 0 h0
      injection e0 with e0
      subst e0
      rw [run_convert_bytes_arg (P := P) w src e hs he b o n c (bs.map fun u => (u.toNat : Int)) (by simpa using hl) (fun i hi => ?_) dst hd, strOfNums_bytes]
      obtain ⟨b', o', e1, _, hc⟩ := h.2 i hi
      injection e1 with e1
      injection e1 with e2 e3
      subst e2 e3
      rw [hc, List.getElem?_map, List.getElem?_eq_getElem (by omega)]
      simp [byteV, List.getD_eq_getElem?_getD, List.getElem?_eq_getElem (show i < bs.length by omega)]
end

end Go.Proofs.Ytbflncfhbmlibaa
