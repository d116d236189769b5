/-
  The lines of closed lines, gone over by an iterator.
-/
import Derived.Test.YtnmnehgcliiofaaExH
import Derived.Test.YtnmnehgcliiofaaTailIn
namespace Go.Proofs.Ytnmnehgcliiofaa
open Go.RowKit Go.Shelf

abbrev Sg := Dt × Dt
def segsOf (c : List Dt) : List Sg := (List.range c.length).map fun i => (c.getD i (0, 0), c.getD ((i + 1) % c.length) (0, 0))
def segs (ls : List (List Dt)) : List Sg := (ls.map segsOf).flatten
theorem segsOf_len (c : List Dt) : (segsOf c).length = c.length := by simp [segsOf]
theorem segsOf_at {c : List Dt} {j : Nat} {a d : Dt} (ha : c[j]? = some a) (hd : c[(j + 1) % c.length]? = some d) : (segsOf c)[j]? = some (a, d) := by
  have hj := (List.getElem?_eq_some_iff.1 ha).1
  unfold segsOf
  rw [List.getElem?_map, List.getElem?_range hj]
  simp [ha, hd]
theorem segs_at {ls : List (List Dt)} {k : Nat} {c : List Dt} (h : ls[k]? = some c) : (ls.map segsOf)[k]? = some (segsOf c) := by rw [List.getElem?_map, h]; rfl
def segV (s : Sg) : Array Value := #[.agg #[.int .i64 s.1.1, .int .i64 s.1.2], .agg #[.int .i64 s.2.1, .int .i64 s.2.2]]
theorem next_lt {j n : Nat} (h : j < n) : (j + 1) % n < n := Nat.mod_lt _ (by omega)
theorem next_rem {j n : Nat} : ((j : Int) + 1).tmod (n : Int) = ((j + 1) % n : Nat) := by
  rw [show (j : Int) + 1 = ((j + 1 : Nat) : Int) by push_cast; rfl, ← Int.ofNat_tmod]

theorem prefix_flat {α : Type} {L : List (List α)} {k j : Nat} {l : List α} {x : α} (h : L[k]? = some l) (hx : l[j]? = some x) : ((L.take k).flatten ++ l.take j) ++ [x] <+: L.flatten := by
  rw [List.append_assoc, ← take_snoc hx]
  have h1 : (L.take k).flatten ++ l.take (j + 1) <+: (L.take (k + 1)).flatten := by
    rw [flat_snoc h]
    exact (List.prefix_append_right_inj _).2 (List.take_prefix _ _)
  refine h1.trans ⟨(L.drop (k + 1)).flatten, ?_⟩
  rw [← List.flatten_append, List.take_append_drop]

theorem lines_any (w : World) (A : Option Addr) (n c : Nat) : Calls Try.prog 66 #[.slice A n c] w fun e w' => e = .returned (.func (.func 85) #[] #[.pointer (some ⟨w.heap.size, 0, none⟩)]) ∧ w.alloc (.cells #[.slice A n c] 63) = w' := by
  go_enter Try.func66, Try.ntmps66
  go_wp2
  go_ret
  exact ⟨rfl, rfl⟩

attribute [local go_sem] Oper.semAt_some

set_option maxRecDepth 20000 in
set_option maxHeartbeats 2000000 in
theorem segs_gives {w u : World} {A : Option Addr} {c : Nat} {ls : List (List Dt)} (n b : Nat) (hd : Dl w A ls) (hu : Below w.heap.size w u) (hn : ls.length ≤ 1000) (hcn : cnt ls ≤ 1000) (hb : b < u.heap.size) (hc : u.cell? ⟨b, 0, none⟩ = some (.slice A ls.length c))
    {Kp : World → World → Prop} (hKp : ∀ {A B : World}, Kp A B → Below w.heap.size A B) :
    Gives n Try.prog 85 #[.pointer (some ⟨b, 0, none⟩)] segV Kp (fun pre x _ => pre ++ [x] <+: segs ls) (fun xs => xs = segs ls) (fun _ => True) u := by
  intro l J Jx W hW hJ hJx hY h0
  have hc' : W.cell? ⟨b, 0, none⟩ = some (.slice A ls.length c) := (hW.cell (p := ⟨b, 0, none⟩) hb).trans hc
  have HJ : Hid (∀ pre A B, J pre A → Below A.heap.size A B → J pre B) := Lib.hid fun pre A B h hb => (AbidesFrom.below hJ h hb)
  have HD := Lib.hid hd
  have HW : Hid (Below w.heap.size w W) := Lib.hid (hu.trans (hW.mono hu.size))
  have HY := Lib.hid hY
  have H0 := Lib.hid h0
  have HCN := Lib.hid hcn
  have hu' := hu.size
  clear hd hc hJ hJx hW hY h0 hcn hu
  refine callsIn_of_wp Try.func85 rfl trivial ?_ rfl
  simp only [Try.ntmps85, List.size_toArray, List.length_cons, List.length_nil, Nat.reduceAdd, Nat.reduceSub, Array.replicate_succ, Array.replicate_zero, List.push_toArray, List.append_toArray, List.nil_append, List.cons_append]
  gi_wp2
  clear hc'
  gi_loopw [9] (fun i wr => ∃ k : Nat, k ≤ ls.length ∧ i = .int .i64 k ∧ Hid (J ((ls.map segsOf).take k).flatten wr) ∧ Hid (Below w.heap.size w wr)) (fun i _ => ls.length - (intOf i).toNat)
  case atStart => exact ⟨0, Nat.zero_le _, rfl, H0, HW⟩
  case round =>
    obtain ⟨k, hk, rfl, HJ1, HB⟩ := hrel
    rcases Nat.lt_or_ge k ls.length with hlt | hlt
    · obtain ⟨cl, hcl⟩ := get_some hlt
      obtain ⟨b1, o1, A1, c1, rfl, hb1, hc0, hd1, hs1⟩ := HD.out k cl hcl
      have hc1 : wr.cell? ⟨b1, o1 + k, none⟩ = some (.slice A1 cl.length c1) := (HB.out.cell (p := ⟨b1, _, none⟩) hb1).trans hc0
      have hcc : cl.length ≤ 1000 := Nat.le_trans (cnt_mem hcl) HCN.out
      have HC := Lib.hid hcl
      have HD1 := Lib.hid hd1
      clear hcl hd1 hc0 hs1
      gi_wp2
      gi_loopw [15] (fun i wq => ∃ j : Nat, j ≤ cl.length ∧ i = .int .i64 j ∧ Hid (J (((ls.map segsOf).take k).flatten ++ (segsOf cl).take j) wq) ∧ Hid (Below w.heap.size w wq)) (fun i _ => cl.length - (intOf i).toNat)
      case atStart => exact ⟨0, Nat.zero_le _, rfl, by simpa using HJ1, HB⟩
      case round =>
        obtain ⟨j, hj, rfl, HJ2, HB2⟩ := hrel
        rcases Nat.lt_or_ge j cl.length with hlt2 | hlt2
        · obtain ⟨⟨x, y⟩, hx⟩ := get_some hlt2
          obtain ⟨m, hm⟩ : ∃ m, (j + 1) % cl.length = m := ⟨_, rfl⟩
          have hml : m < cl.length := hm ▸ next_lt hlt2
          have hrem : ((j : Int) + 1).tmod (cl.length : Int) = m := by rw [next_rem, hm]
          obtain ⟨⟨x', y'⟩, hx'⟩ := get_some hml
          have HS : Hid ((segsOf cl)[j]? = some ((x, y), (x', y'))) := Lib.hid (segsOf_at hx (by rw [hm]; exact hx'))
          obtain ⟨b2, o2, rfl, hb2, hx2, hy2⟩ := (HD1.out.keep HB2.out) j _ hx
          obtain ⟨b3, o3, hA3, hb3, hx3, hy3⟩ := (HD1.out.keep HB2.out) m _ hx'
          injection hA3 with hA3
          injection hA3 with h1 h2
          subst h1 h2
          dsimp only at hx2 hy2 hx3 hy3
          have hcl0 : (cl.length : Int) ≠ 0 := by omega
          clear hx hx' hm
          gi_wp2
          have hBX := (bel_alloc (o := .cells #[.int .i64 x, .int .i64 y] 72) (bel_refl (a := wr))).below
          have hbox := Blk.new wr 72 [.int .i64 x, .int .i64 y]
          obtain ⟨bx, hbx⟩ : ∃ bx, wr.heap.size = bx := ⟨_, rfl⟩
          obtain ⟨WX, hWX⟩ : ∃ WX, wr.alloc (.cells #[.int .i64 x, .int .i64 y] 72) = WX := ⟨_, rfl⟩
          have w0 : WX.cell? ⟨bx, 0, none⟩ = some (.int .i64 x) := by rw [← hWX, ← hbx]; exact hbox.cell 0
          have w1 : WX.cell? ⟨bx, 1, none⟩ = some (.int .i64 y) := by rw [← hWX, ← hbx]; exact hbox.cell 1
          have w3 : WX.cell? ⟨b2, o2 + m * 2, none⟩ = some (.int .i64 x') := by rw [← hWX]; exact (hBX.cell (p := ⟨b2, o2 + m * 2, none⟩) hb3).trans hx3
          have w4 : WX.cell? ⟨b2, o2 + m * 2 + 1, none⟩ = some (.int .i64 y') := by rw [← hWX]; exact (hBX.cell (p := ⟨b2, o2 + m * 2 + 1, none⟩) hb3).trans hy3
          have hJX : J (((ls.map segsOf).take k).flatten ++ (segsOf cl).take j) WX := by rw [← hWX]; exact HJ.out _ _ _ HJ2.out hBX
          have hBW : Below w.heap.size w WX := by rw [← hWX]; exact HB2.out.trans (hBX.mono HB2.out.size)
          have hww : w.heap.size ≤ WX.heap.size := hBW.size
          have HJX := Lib.hid hJX
          have HBW := Lib.hid hBW
          rw [hWX, hbx]
          clear hbox hBX hWX hJX hBW hbx hx2 hy2 hx3 hy3 HB2 HJ2
          refine wpIn_region_drew_tail 10 free_wide (by kernel_rfl) (by kernel_rfl) (by kernel_rfl) ?_
          simp only [List.take_succ_cons, List.take_zero, List.drop_succ_cons, List.drop_zero]
          repeat (go_big_quiet_step (fail))
          refine wpQuiet_nil ?_
          rintro _ ⟨nq, rfl⟩
          obtain ⟨fn, tmps, assign, body, hy, hR⟩ := HY.out _ ((x, y), (x', y')) (WX.drewN nq) (HJ.out _ _ _ HJX.out (bel_drewN bel_refl).below) (prefix_flat (segs_at HC.out) HS.out)
          have HR := Lib.hid hR
          dsimp only [segV] at hy
          clear hR
          gi_wp2
          refine ⟨fun he => (by cases he), HR.out.mono ?_⟩
          rintro e W4 (⟨rfl, hJ4, hk4⟩ | ⟨rfl, hJx4⟩)
          · have HJ4 := Lib.hid hJ4
            have HB4 := Lib.hid (HBW.out.trans (((bel_drewN bel_refl).below.mono hww).trans (hKp hk4)))
            clear hJ4 hk4
            gi_wp2
            go_roundw
            case rel => exact ⟨j + 1, by omega, by go_num, by rw [take_snoc HS.out, ← List.append_assoc]; exact HJ4, HB4⟩
            case measure => simp [intOf]; omega
          · have HJ4 := Lib.hid hJx4
            clear hJx4
            gi_wp2
            refine bodyPost_ret (results_none rfl _ _ _) rfl ?_
            exact ⟨⟨_, rfl⟩, .inr ⟨_, trivial, HJ4.out⟩⟩
        · obtain rfl : j = cl.length := by omega
          have HJ3 : Hid (J ((ls.map segsOf).take (k + 1)).flatten wr) := Lib.hid (by
            have := HJ2.out
            rw [List.take_of_length_le (Nat.le_of_eq (segsOf_len cl))] at this
            rw [flat_snoc (segs_at HC.out)]
            exact this)
          clear hj hlt2 HJ2
          gi_wp2
          go_roundw
          case rel => exact ⟨k + 1, by omega, by go_num, HJ3, HB2⟩
          case measure => simp [intOf]; omega
    · obtain rfl : k = ls.length := by omega
      have HJ3 : Hid (J (segs ls) wr) := Lib.hid (by
        have := HJ1.out
        rwa [List.take_of_length_le (by simp)] at this)
      clear HJ1
      gi_wp2
      with_reducible refine bodyPost_end (v := .tuple #[]) (by simp [results, Try.results85]) rfl ?_
      exact ⟨⟨_, rfl⟩, .inl ⟨_, rfl, HJ3.out⟩⟩

end Go.Proofs.Ytnmnehgcliiofaa
