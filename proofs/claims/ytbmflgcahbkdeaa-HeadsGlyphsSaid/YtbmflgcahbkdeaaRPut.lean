/-
  The document's writer, in the midst of a sequence of calls that fit.
-/
import Derived.Test.YtbmflgcahbkdeaaHeadsF
import Derived.Test.YtbmflgcahbkdeaaWireF
namespace Go.Proofs.Ytbmflgcahbkdeaa
open Go.RowKit

structure RPut (B : Nat) (w0 w : World) (g : Nat) (bs : List UInt8) (room : Int) (A : Option Addr) (c : Nat) : Prop where
  wr : Wr 107 w g bs room false A c
  bel : Below B w0 w
  le : B ≤ g
  row : ∀ k, rowOf A = some k → B ≤ k
theorem RPut.size {B : Nat} {w0 w : World} {g : Nat} {bs : List UInt8} {room : Int} {A : Option Addr} {c : Nat} (h : RPut B w0 w g bs room A c) : B ≤ w.heap.size := Nat.le_trans h.le (Nat.le_of_lt h.wr.blk.lt)
theorem RPut.alloc {B : Nat} {w0 w : World} {g : Nat} {bs : List UInt8} {room : Int} {A : Option Addr} {c : Nat} (h : RPut B w0 w g bs room A c) (o : Obj) : RPut B w0 (w.alloc o) g bs room A c :=
  ⟨h.wr.alloc o, (bel_alloc ⟨h.bel, h.size⟩).below, h.le, h.row⟩
theorem RPut.next {B : Nat} {w0 w w' : World} {g : Nat} {bs news : List UInt8} {room : Int} {A A' : Option Addr} {c c' : Nat} (h : RPut B w0 w g bs room A c) (hx : WrN 107 w w' g (putF room (bs, false) news) room A A' c') (hf : (bs.length : Int) + news.length ≤ room) :
    RPut B w0 w' g (bs ++ news) room A' c' := by
  have hx' := hx
  rw [putF_fit hf] at hx'
  refine ⟨hx'.wr, h.bel.trans (hx.turn.below h.size h.le (fun _ e => by cases e)), h.le, fun k hk => ?_⟩
  rcases hx.row with e | e
  · exact h.row k (e ▸ hk)
  · exact Nat.le_trans h.size (e k hk)
theorem RPut.len {B : Nat} {w0 w : World} {g : Nat} {bs : List UInt8} {room : Int} {A : Option Addr} {c : Nat} (h : RPut B w0 w g bs room A c) {n : Nat} (hn : bs.length = n) : w.cell? ⟨g, 0, none⟩ = some (.slice A n c) := by
  subst hn
  exact h.wr.blk.cell 0

theorem u2_R {B : Nat} {w0 w : World} {g : Nat} {bs : List UInt8} {room : Int} {A : Option Addr} {c : Nat} (x : Int) (h : RPut B w0 w g bs room A c) (hr2 : room ≤ 1099511627776) (hf : (bs.length : Int) + 2 ≤ room) :
    Calls Try.prog 65 #[.pointer (some ⟨g, 0, none⟩), .int .i64 2, .int .i64 x] w fun e w' => e = .returned (.tuple #[]) ∧ ∃ A' c', RPut B w0 w' g (bs ++ beB 2 x) room A' c' :=
  (u_W w g (bs, false) room A c 2 x h.wr (by omega) hr2 (by simp only; omega) (by omega) (by omega)).mono fun _ _ ⟨he, A', c', hx⟩ => ⟨he, A', c', h.next hx (by rw [beB_length]; exact hf)⟩
theorem u4_R {B : Nat} {w0 w : World} {g : Nat} {bs : List UInt8} {room : Int} {A : Option Addr} {c : Nat} (x : Int) (h : RPut B w0 w g bs room A c) (hr2 : room ≤ 1099511627776) (hf : (bs.length : Int) + 4 ≤ room) :
    Calls Try.prog 65 #[.pointer (some ⟨g, 0, none⟩), .int .i64 4, .int .i64 x] w fun e w' => e = .returned (.tuple #[]) ∧ ∃ A' c', RPut B w0 w' g (bs ++ beB 4 x) room A' c' :=
  (u_W w g (bs, false) room A c 4 x h.wr (by omega) hr2 (by simp only; omega) (by omega) (by omega)).mono fun _ _ ⟨he, A', c', hx⟩ => ⟨he, A', c', h.next hx (by rw [beB_length]; exact hf)⟩
/-- Data of zeros that were just made. -/
theorem d_R {B : Nat} {w0 w : World} {g : Nat} {bs : List UInt8} {room : Int} {A : Option Addr} {c : Nat} (m : Nat) (n q k : Nat) (h : RPut B w0 w g bs room A c) (hn : w.heap.size = n) (hq : q = m) (hr2 : room ≤ 1099511627776) (hf : (bs.length : Int) + m ≤ room) :
    Calls Try.prog 66 #[.pointer (some ⟨g, 0, none⟩), .slice (some ⟨n, 0, none⟩) q k] (w.alloc (.cells (Array.replicate m (byteV 0)) 5)) fun e w' => e = .returned (.tuple #[]) ∧ ∃ A' c', RPut B w0 w' g (bs ++ List.replicate m 0) room A' c' := by
  subst hq
  have hs := slat_zeros w q n 5 hn
  have h2 := h.alloc (.cells (Array.replicate q (byteV 0)) 5)
  have := rdata_W _ g (bs, false) room A c (List.replicate q 0) (some ⟨n, 0, none⟩) k h2.wr (by omega) hr2 (by simp only; omega) (by rw [List.length_replicate]; exact hs)
  rw [List.length_replicate] at this
  exact this.mono fun _ _ ⟨he, A', c', hx⟩ => ⟨he, A', c', h2.next hx (by rw [List.length_replicate]; exact hf)⟩

end Go.Proofs.Ytbmflgcahbkdeaa
