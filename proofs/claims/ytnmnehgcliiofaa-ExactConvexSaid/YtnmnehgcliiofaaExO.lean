/-
  The squares of a pixel, gone over by an iterator.
-/
import Derived.Test.YtnmnehgcliiofaaExI
namespace Go.Proofs.Ytnmnehgcliiofaa
open Go.RowKit Go.Shelf

def sqRow (x y : Int) (j : Nat) : List (Int × Int) := (List.range 16).map fun (i : Nat) => (64 * x + 4 * (i : Int), 64 * y + 4 * (j : Int))
def sqRows (x y : Int) : List (List (Int × Int)) := (List.range 16).map (sqRow x y)
def sqs (x y : Int) : List (Int × Int) := (sqRows x y).flatten
def sqV (p : Int × Int) : Array Value := #[.agg #[.int .i64 p.1, .int .i64 p.2, .int .i64 (p.1 + 4), .int .i64 (p.2 + 4)]]
theorem sqRow_at {x y : Int} {j i : Nat} (hi : i < 16) : (sqRow x y j)[i]? = some (64 * x + 4 * (i : Int), 64 * y + 4 * (j : Int)) := by
  unfold sqRow
  rw [List.getElem?_map, List.getElem?_range hi]
  rfl
theorem sqRows_at {x y : Int} {j : Nat} (hj : j < 16) : (sqRows x y)[j]? = some (sqRow x y j) := by
  unfold sqRows
  rw [List.getElem?_map, List.getElem?_range hj]
  rfl
theorem exAll_any (w : World) (x y : Int) : Calls Try.prog 68 #[.int .i64 x, .int .i64 y] w fun e w' => e = .returned (.func (.func 86) #[] #[.pointer (some ⟨w.heap.size, 0, none⟩), .pointer (some ⟨w.heap.size + 1, 0, none⟩)]) ∧ (w.alloc (.cells #[.int .i64 x] 3)).alloc (.cells #[.int .i64 y] 3) = w' := by
  go_enter Try.func68, Try.ntmps68
  go_wp2
  go_ret
  exact ⟨rfl, rfl⟩

attribute [local go_sem] Oper.semAt_some

set_option maxRecDepth 20000 in
set_option maxHeartbeats 2000000 in
theorem sqs_gives {u : World} {x y : Int} (n b b' : Nat) (hx : -16384 ≤ x ∧ x ≤ 16384) (hy : -16384 ≤ y ∧ y ≤ 16384) (hb : b < u.heap.size) (hb' : b' < u.heap.size) (hc : u.cell? ⟨b, 0, none⟩ = some (.int .i64 x)) (hc' : u.cell? ⟨b', 0, none⟩ = some (.int .i64 y))
    {Kp : World → World → Prop} (hKp : ∀ {A B : World}, Kp A B → A.heap.size ≤ B.heap.size ∧ B.cell? ⟨b, 0, none⟩ = A.cell? ⟨b, 0, none⟩ ∧ B.cell? ⟨b', 0, none⟩ = A.cell? ⟨b', 0, none⟩) :
    Gives n Try.prog 86 #[.pointer (some ⟨b, 0, none⟩), .pointer (some ⟨b', 0, none⟩)] sqV Kp (fun pre p _ => pre ++ [p] <+: sqs x y) (fun xs => xs = sqs x y) (fun _ => True) u := by
  intro l J Jx W hW hJ hJx hY h0
  have hc1 : W.cell? ⟨b, 0, none⟩ = some (.int .i64 x) := (hW.cell (p := ⟨b, 0, none⟩) hb).trans hc
  have hc2 : W.cell? ⟨b', 0, none⟩ = some (.int .i64 y) := (hW.cell (p := ⟨b', 0, none⟩) hb').trans hc'
  have HJ : Hid (∀ pre A B, J pre A → Below A.heap.size A B → J pre B) := Lib.hid fun pre A B h hb => (AbidesFrom.below hJ h hb)
  have HK : Hid (∀ A B, Kp A B → A.heap.size ≤ B.heap.size ∧ B.cell? ⟨b, 0, none⟩ = A.cell? ⟨b, 0, none⟩ ∧ B.cell? ⟨b', 0, none⟩ = A.cell? ⟨b', 0, none⟩) := Lib.hid fun A B h => hKp h
  have HY := Lib.hid hY
  have H0 := Lib.hid h0
  have HC := Lib.hid (show W.cell? ⟨b, 0, none⟩ = some (.int .i64 x) ∧ W.cell? ⟨b', 0, none⟩ = some (.int .i64 y) from ⟨hc1, hc2⟩)
  clear hc hc' hJ hJx hW hY h0 hKp hc1 hc2
  refine callsIn_of_wp Try.func86 rfl trivial ?_ rfl
  simp only [Try.ntmps86, List.size_toArray, List.length_cons, List.length_nil, Nat.reduceAdd, Nat.reduceSub, Array.replicate_succ, Array.replicate_zero, List.push_toArray, List.append_toArray, List.nil_append, List.cons_append]
  gi_wp2
  gi_loopw [8] (fun i wr => ∃ k : Nat, k ≤ 16 ∧ i = .int .i64 k ∧ Hid (J ((sqRows x y).take k).flatten wr) ∧ Hid (wr.cell? ⟨b, 0, none⟩ = some (.int .i64 x) ∧ wr.cell? ⟨b', 0, none⟩ = some (.int .i64 y))) (fun i _ => 16 - (intOf i).toNat)
  case atStart => exact ⟨0, Nat.zero_le _, rfl, H0, HC⟩
  case round =>
    obtain ⟨k, hk, rfl, HJ1, HC1⟩ := hrel
    by_cases hlt : k < 16
    · have hk16 : (k : Int) < 16 := by omega
      gi_wp2
      gi_loopw [11] (fun i wq => ∃ j : Nat, j ≤ 16 ∧ i = .int .i64 j ∧ Hid (J (((sqRows x y).take k).flatten ++ (sqRow x y k).take j) wq) ∧ Hid (wq.cell? ⟨b, 0, none⟩ = some (.int .i64 x) ∧ wq.cell? ⟨b', 0, none⟩ = some (.int .i64 y))) (fun i _ => 16 - (intOf i).toNat)
      case atStart => exact ⟨0, Nat.zero_le _, rfl, by simpa using HJ1, HC1⟩
      case round =>
        obtain ⟨j, hj, rfl, HJ2, HC2⟩ := hrel
        by_cases hlt2 : j < 16
        · have hj16 : (j : Int) < 16 := by omega
          have hx0 := HC2.out.1
          have hy0 := HC2.out.2
          gi_wp2
          refine wpIn_region_free free_wide (by kernel_rfl) (by kernel_rfl) (by kernel_rfl) ?_
          repeat (go_big_quiet_step (fail))
          refine wpQuiet_nil ?_
          rintro _ ⟨nq, rfl⟩
          obtain ⟨v1, hv1⟩ : ∃ v1, 64 * x + 4 * (j : Int) = v1 := ⟨_, rfl⟩
          obtain ⟨v2, hv2⟩ : ∃ v2, 64 * y + 4 * (k : Int) = v2 := ⟨_, rfl⟩
          have hsq : (sqRow x y k)[j]? = some (v1, v2) := by rw [sqRow_at hlt2, hv1, hv2]
          have HS := Lib.hid hsq
          obtain ⟨fn, tmps, assign, body, hy', hR⟩ := HY.out _ (v1, v2) (wr.drewN nq) (HJ.out _ _ _ HJ2.out (bel_drewN bel_refl).below) (prefix_flat (sqRows_at hlt) HS.out)
          have HR := Lib.hid hR
          dsimp only [sqV] at hy'
          have e1 : x * 64 + 4 * (j : Int) = v1 := by omega
          have e2 : y * 64 + 4 * (k : Int) = v2 := by omega
          have hv1b : -1100000 ≤ v1 ∧ v1 ≤ 1100000 := by omega
          have hv2b : -1100000 ≤ v2 ∧ v2 ≤ 1100000 := by omega
          clear hR hsq hv1 hv2
          gi_wp2
          refine ⟨fun he => (by cases he), HR.out.mono ?_⟩
          rintro e W4 (⟨rfl, hJ4, hk4⟩ | ⟨rfl, hJx4⟩)
          · have HJ4 := Lib.hid hJ4
            have hk5 := HK.out _ _ hk4
            have HC4 : Hid (W4.cell? ⟨b, 0, none⟩ = some (.int .i64 x) ∧ W4.cell? ⟨b', 0, none⟩ = some (.int .i64 y)) := Lib.hid ⟨hk5.2.1.trans hx0, hk5.2.2.trans hy0⟩
            clear hJ4 hk4 hk5
            gi_wp2
            go_roundw
            case rel => exact ⟨j + 1, by omega, by go_num, by rw [take_snoc HS.out, ← List.append_assoc]; exact HJ4, HC4⟩
            case measure => simp [intOf]; omega
          · have HJ4 := Lib.hid hJx4
            clear hJx4
            gi_wp2
            refine bodyPost_ret (results_none rfl _ _ _) rfl ?_
            exact ⟨⟨_, rfl⟩, .inr ⟨_, trivial, HJ4.out⟩⟩
        · obtain rfl : j = 16 := by omega
          have HJ3 : Hid (J ((sqRows x y).take (k + 1)).flatten wr) := Lib.hid (by
            have := HJ2.out
            rw [show (sqRow x y k).take 16 = sqRow x y k from List.take_of_length_le (Nat.le_of_eq (by unfold sqRow; rw [List.length_map, List.length_range]))] at this
            rw [flat_snoc (sqRows_at hlt)]
            exact this)
          clear hj hlt2 HJ2
          gi_wp2
          go_roundw
          case rel => exact ⟨k + 1, by omega, by go_num, HJ3, HC2⟩
          case measure => simp [intOf]; omega
    · obtain rfl : k = 16 := by omega
      have HJ3 : Hid (J (sqs x y) wr) := Lib.hid (by
        have := HJ1.out
        rwa [List.take_of_length_le (Nat.le_of_eq (by unfold sqRows; rw [List.length_map, List.length_range]))] at this)
      clear HJ1
      gi_wp2
      with_reducible refine bodyPost_end (v := .tuple #[]) (by simp [results, Try.results86]) rfl ?_
      exact ⟨⟨_, rfl⟩, .inl ⟨_, rfl, HJ3.out⟩⟩

end Go.Proofs.Ytnmnehgcliiofaa
