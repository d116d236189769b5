/-
  Layer 15: half bytes as bytes of a real number.
-/
import Derived.Test.YtoofjkhigonppaaDcS
namespace Go.Proofs.Ytoofjkhigonppaa
open Go.RowKit

def pairS : List Int → List UInt8
  | [] => []
  | [a] => [by8 (16 * a + 15)]
  | a :: b :: t => by8 (16 * a + b) :: pairS t
def halvesS (l : List Int) : List UInt8 := 30 :: (pairS l ++ if l.length % 2 = 0 then [255] else [])
theorem pairS_len : ∀ l : List Int, (pairS l).length ≤ l.length
  | [] => by simp [pairS]
  | [a] => by simp [pairS]
  | a :: b :: t => by
    have := pairS_len t
    simp [pairS]
    omega
theorem drop_two {l : List Int} {i : Nat} {a b : Int} (ha : l[i]? = some a) (hb : l[i + 1]? = some b) : l.drop i = a :: b :: l.drop (i + 2) := by
  obtain ⟨h1, h2⟩ := List.getElem?_eq_some_iff.1 ha
  obtain ⟨h3, h4⟩ := List.getElem?_eq_some_iff.1 hb
  rw [List.drop_eq_getElem_cons h1, h2, List.drop_eq_getElem_cons h3, h4]
theorem drop_one {l : List Int} {i : Nat} {a : Int} (ha : l[i]? = some a) (hb : l.length = i + 1) : l.drop i = [a] := by
  obtain ⟨h1, h2⟩ := List.getElem?_eq_some_iff.1 ha
  rw [List.drop_eq_getElem_cons h1, h2, ← hb, List.drop_length]
def HalR (l : List Int) (w : World) (e : Ending) (w' : World) : Prop := ∃ A c, e = .returned (.slice A (halvesS l).length c) ∧ OwB w.heap.size w w' A (halvesS l).length c (halvesS l)
theorem hal_is {l : List Int} {w w' : World} {A : Option Addr} {n c : Nat} {bs : List UInt8} (h : OwB w.heap.size w w' A n c bs) (hb : bs = halvesS l) : HalR l w (.returned (.slice A n c)) w' := by
  have hn := h.len
  subst hb hn
  exact ⟨_, _, rfl, h⟩
set_option maxRecDepth 20000 in
set_option maxHeartbeats 8000000 in
theorem halvesL_any {w : World} {A : Option Addr} {c : Nat} {l : List Int} (h : SlAt w A l.length (l.map (Value.int .i64))) (hi : ∀ x ∈ l, 0 ≤ x ∧ x ≤ 15) (hn : l.length ≤ 1000) :
    Calls Try.prog 18 #[.slice A l.length c] w (HalR l w) := by
  have H := Lib.hid h
  have HI := Lib.hid hi
  have hw0 : OwB w.heap.size w (w.alloc (.cells #[.int .u8 30] 5)) (some ⟨w.heap.size, 0, none⟩) 1 1 [30] :=
    OwB.of_blk (Blk.newAt w _ [.int .u8 30] rfl) rfl (Nat.le_refl _) (bel_alloc bel_refl).below (by omega)
  have HW0 := Lib.hid hw0
  clear h hi hw0
  go_enter Try.func18, Try.ntmps18
  go_wp2_with fail
  go_loopw [3, 4, 5] (fun out i _ wr => ∃ (j : Nat) (A1 : Option Addr) (c1 : Nat) (pre : List UInt8), i = .int .i64 j ∧ j ≤ l.length + 1 ∧ out = .slice A1 (pre.length + 1) c1 ∧ Hid (pairS l = pre ++ pairS (l.drop j)) ∧ pre.length ≤ j ∧ Hid (OwB w.heap.size w wr A1 (pre.length + 1) c1 (30 :: pre))) (fun _ i _ _ => l.length + 1 - (intOf i).toNat)
  case atStart => exact ⟨0, _, _, [], rfl, by omega, rfl, Lib.hid rfl, by simp, HW0⟩
  case round =>
    obtain ⟨j, A1, c1, pre, rfl, hj, rfl, HE, hpl, HO⟩ := hrel
    have hsz := HO.out.bel.size
    by_cases hlt : j < l.length
    · obtain ⟨x, hx⟩ := get_some' hlt
      obtain ⟨b, o, rfl, hb, hc⟩ := H.out.2 j hlt
      rw [List.getElem?_map, hx] at hc
      simp only [Option.map_some] at hc
      have q0 : wr.cell? ⟨b, o + j, none⟩ = some (.int .i64 x) := (HO.out.bel.cell (p := ⟨b, _, none⟩) hb).trans hc
      obtain ⟨x0, x1⟩ := HI.out x (List.mem_of_getElem? hx)
      by_cases hlt2 : j + 1 < l.length
      · obtain ⟨y, hy⟩ := get_some' hlt2
        obtain ⟨b', o', he, -, hc2⟩ := H.out.2 (j + 1) hlt2
        injection he with he
        injection he with he1 he2
        subst he1 he2
        rw [List.getElem?_map, hy] at hc2
        simp only [Option.map_some] at hc2
        have q1 : wr.cell? ⟨b, o + (j + 1), none⟩ = some (.int .i64 y) := (HO.out.bel.cell (p := ⟨b, _, none⟩) hb).trans hc2
        obtain ⟨y0, y1⟩ := HI.out y (List.mem_of_getElem? hy)
        have hd := HE.out
        rw [drop_two hx hy, show pairS (x :: y :: l.drop (j + 2)) = by8 (16 * x + y) :: pairS (l.drop (j + 2)) from rfl] at hd
        have HD := Lib.hid hd
        have HPA := Lib.hid (HO.out.alloc (.cells #[.int .u8 (16 * x + y)] 5))
        have HSA := Lib.hid (slat_u8 wr (16 * x + y) (by8 (16 * x + y)) (by rw [by8_V]; congr 1; omega))
        have hlt2' : (j : Int) + 1 < l.length := by omega
        clear hd hx hy hc hc2
        go_wp2_with (first
          | (at_builtin; refine wpList_append_ow (by rfl) (.tmp 23) (.tmp 32) (by rfl) (by rfl) HPA.out _ 1 _ (by rfl) [by8 (16 * x + y)] HSA.out (by omega) ?_; intro A6 c6 w6 hp6; have HP6 := Lib.hid hp6; clear hp6)
          | fail)
        have hln : (pre ++ [by8 (16 * x + y)]).length + 1 = pre.length + 1 + 1 := by simp
        go_roundw
        case rel => exact ⟨j + 2, A6, c6, pre ++ [by8 (16 * x + y)], by go_num, by omega, by rw [hln], Lib.hid (by rw [HD.out]; simp), by simp; omega, by rw [hln]; exact HP6⟩
        case measure => simp [intOf]; omega
      · have hjl : l.length = j + 1 := by omega
        have hd := HE.out
        rw [drop_one hx hjl, show pairS [x] = [by8 (16 * x + 15)] from rfl] at hd
        have HD := Lib.hid hd
        have HPA := Lib.hid (HO.out.alloc (.cells #[.int .u8 (16 * x + 15)] 5))
        have HSA := Lib.hid (slat_u8 wr (16 * x + 15) (by8 (16 * x + 15)) (by rw [by8_V]; congr 1; omega))
        have hlt2' : ¬ (j : Int) + 1 < l.length := by omega
        have hj2 : l.length < j + 2 := by omega
        clear hd hx hc hjl
        go_wp2_with (first
          | (at_builtin; refine wpList_append_ow (by rfl) (.tmp 23) (.tmp 32) (by rfl) (by rfl) HPA.out _ 1 _ (by rfl) [by8 (16 * x + 15)] HSA.out (by omega) ?_; intro A6 c6 w6 hp6; have HP6 := Lib.hid hp6; clear hp6)
          | fail)
        have hln : (pre ++ [by8 (16 * x + 15)]).length + 1 = pre.length + 1 + 1 := by simp
        go_roundw
        case rel => exact ⟨j + 2, A6, c6, pre ++ [by8 (16 * x + 15)], by go_num, by omega, by rw [hln], Lib.hid (by rw [HD.out, List.drop_eq_nil_of_le (by omega)]; simp [pairS]), by simp; omega, by rw [hln]; exact HP6⟩
        case measure => simp [intOf]; omega
    · have hlt' : ¬ (j : Int) < l.length := by omega
      have he := HE.out
      rw [List.drop_eq_nil_of_le (by omega), show pairS [] = [] from rfl, List.append_nil] at he
      by_cases hev : l.length % 2 = 0
      · have hm : (l.length : Int).tmod 2 = 0 := by rw [Int.tmod_eq_emod_of_nonneg (by omega)]; omega
        have hv : 30 :: pre ++ [255] = halvesS l := by unfold halvesS; rw [if_pos hev, he]; rfl
        have HV := Lib.hid hv
        have HPA := Lib.hid (HO.out.alloc (.cells #[.int .u8 255] 5))
        have HSA := Lib.hid (slat_u8 wr 255 255 rfl)
        clear he hv
        go_wp2_with (first
          | (at_builtin; refine wpList_append_ow (by rfl) (.tmp 38) (.tmp 39) (by rfl) (by rfl) HPA.out _ 1 _ (by rfl) [255] HSA.out (by omega) ?_; intro A6 c6 w6 hp6; have HP6 := Lib.hid hp6; clear hp6)
          | fail)
        go_ret
        exact hal_is HP6.out HV.out
      · have hm : (l.length : Int).tmod 2 = 1 := by rw [Int.tmod_eq_emod_of_nonneg (by omega)]; omega
        have hv : 30 :: pre = halvesS l := by unfold halvesS; rw [if_neg hev, he, List.append_nil]
        have HV := Lib.hid hv
        clear he hv
        go_wp2_with fail
        go_ret
        exact hal_is HO.out HV.out
end Go.Proofs.Ytoofjkhigonppaa
