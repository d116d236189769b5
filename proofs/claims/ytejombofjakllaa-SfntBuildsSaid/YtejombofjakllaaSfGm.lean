/-
  Layer 04: a text, and blobs, that came in.
  Layer 04: are blobs too large to be looked at? A built font with a head.
  Layer 04: what must come of every program.
  Layer 04, plainly: what was built may be parsed; the sum of all its bytes; the order of tables does not count.
  Layer 04, plainly: a font that was built may be parsed; its tables; their sums.
  Layer 04: a table found; are a font's sums right?
  Layer 04: a font that may be parsed, and what parsing it gives.
  Layer 04: a reader that a call has made; tables that a call makes; may a table be behind another one?
  Layer 04: no two tables have a byte in common.
  Layer 04: tables cloned and sorted by where they lie; whether no two tables have a byte in common.
  Layer 04: slices.DeleteFunc at tables: those without bytes are struck out.
  Layer 04: slices.IndexFunc and slices.DeleteFunc at tables: those without bytes.
  Layer 04: tables in memory; those without bytes struck out.
  Layer 04: Build.
  Layer 04: the writer's end, with memory of its own; plain facts for Build.
  Layer 04: a font's directory, written by the program.
  Layer 04: the writer beside boxes: bytes from anywhere, whole fours; powers of two.
  Layer 04: blobs cloned and sorted by their tags.
  Layer 04: texts compared; blobs sorted by their tags.
  Layer 04: the program's check of tables.
  Layer 04: blobs in memory; the tags that were seen, as a map.
  Layer 04: the document's bytes of a table as they count.
  Layer 04: versions; whole fours; slices.Clone of bytes; a table's bytes as they count.
  Layer 04: the program's sum of bytes.
  Layer 04: slices.Chunk's iterator over bytes, four at a time.
  Layer 04: the document's sum of bytes.
  Layer 04: whether a text is a tag: the program's way and the document's.
  Layer 04, plainly: a font of tables.
  Layer 04, plainly: tags, tables in the order of their tags.
  Layer 04, plainly: the sum of bytes.
-/
import Derived.Test.YtejombofjakllaaBytes
import Derived.Sort.Walk0
import Derived.Test.YtejombofjakllaaBs
import Derived.Test.YtejombofjakllaaOw
import Derived.Test.YtejombofjakllaaTn
import Derived.Lib.OthersKept
import Derived.Laws.RangeAny
import Derived.WalkLawsBesides
import Derived.Test.YtejombofjakllaaGiv
import Derived.Sort.LoopGhostIn
import Derived.Sort.CutIn
import Derived.Sort.BigQuietIn
import Derived.Test.YtejombofjakllaaClone
import Derived.Maps.OwnSet
import Derived.Maps.Own
import Derived.StringKeys
import Derived.Test.YtejombofjakllaaSrtB
import Derived.Shelf.SlSortCmp.WholeK
import Derived.Lib.OwnBridge
import Derived.Lib.AppendIntMem
import Derived.Test.YtejombofjakllaaIw
import Derived.Test.YtejombofjakllaaWireC
import Derived.Lib.ConvBytes
import Derived.Test.YtejombofjakllaaSrtT
import Derived.Test.YtejombofjakllaaRdU
import Derived.Deep.RegionLaw
import Derived.Test.YtejombofjakllaaZero
import Derived.Lib.SlBytesConst
import Derived.Test.YtejombofjakllaaFlatB
import Derived.Test.YtejombofjakllaaFrame
namespace Go.Proofs.Ytejombofjakllaa

/-- The byte at a place; 0 behind the end. -/
def byA (bs : List UInt8) (i : Nat) : Int := ((bs.getD i 0).toNat : Nat)
/-- Four bytes from a place on, as one number. -/
def wdA (bs : List UInt8) (i : Nat) : Int := ((byA bs i * 256 + byA bs (i + 1)) * 256 + byA bs (i + 2)) * 256 + byA bs (i + 3)
def sumN (bs : List UInt8) : Nat → Int
  | 0 => 0
  | k + 1 => (sumN bs k + wdA bs (4 * k)) % 4294967296
def sumS (bs : List UInt8) : Int := sumN bs ((bs.length + 3) / 4)
theorem byA_bd (bs : List UInt8) (i : Nat) : 0 ≤ byA bs i ∧ byA bs i ≤ 255 := by
  unfold byA
  have := (bs.getD i 0).toNat_lt
  omega
theorem byA_out {bs : List UInt8} {i : Nat} (h : bs.length ≤ i) : byA bs i = 0 := by
  unfold byA
  rw [List.getD_eq_getElem?_getD, List.getElem?_eq_none h]
  rfl
theorem byA_at {bs : List UInt8} {i : Nat} {u : UInt8} (h : bs[i]? = some u) : byA bs i = (u.toNat : Nat) := by
  unfold byA
  rw [List.getD_eq_getElem?_getD, h]
  rfl
theorem byA_left {a b : List UInt8} {i : Nat} (h : i < a.length) : byA (a ++ b) i = byA a i := by
  unfold byA
  rw [List.getD_eq_getElem?_getD, List.getD_eq_getElem?_getD, List.getElem?_append_left h]
theorem byA_right {a b : List UInt8} {i j : Nat} (h : i = a.length + j) : byA (a ++ b) i = byA b j := by
  unfold byA
  rw [List.getD_eq_getElem?_getD, List.getD_eq_getElem?_getD, List.getElem?_append_right (by omega), show i - a.length = j by omega]
theorem wdA_bd (bs : List UInt8) (i : Nat) : 0 ≤ wdA bs i ∧ wdA bs i ≤ 4294967295 := by
  unfold wdA
  have h0 := byA_bd bs i
  have h1 := byA_bd bs (i + 1)
  have h2 := byA_bd bs (i + 2)
  have h3 := byA_bd bs (i + 3)
  omega
theorem wdA_out {bs : List UInt8} {i : Nat} (h : bs.length ≤ i) : wdA bs i = 0 := by
  unfold wdA
  rw [byA_out h, byA_out (show bs.length ≤ i + 1 by omega), byA_out (show bs.length ≤ i + 2 by omega), byA_out (show bs.length ≤ i + 3 by omega)]
  rfl
theorem wdA_left {a b : List UInt8} {i : Nat} (h : i + 4 ≤ a.length) : wdA (a ++ b) i = wdA a i := by
  unfold wdA
  rw [byA_left (by omega), byA_left (by omega), byA_left (by omega), byA_left (by omega)]
theorem wdA_right {a b : List UInt8} {i j : Nat} (h : i = a.length + j) : wdA (a ++ b) i = wdA b j := by
  unfold wdA
  rw [byA_right h, byA_right (j := j + 1) (by omega), byA_right (j := j + 2) (by omega), byA_right (j := j + 3) (by omega)]
theorem sumN_bd (bs : List UInt8) : ∀ k, 0 ≤ sumN bs k ∧ sumN bs k ≤ 4294967295
  | 0 => by unfold sumN; omega
  | k + 1 => by unfold sumN; omega
theorem sumS_bd (bs : List UInt8) : 0 ≤ sumS bs ∧ sumS bs ≤ 4294967295 := sumN_bd bs _
theorem sumN_past {bs : List UInt8} {k : Nat} (h : bs.length ≤ 4 * k) : ∀ j, sumN bs (k + j) = sumN bs k
  | 0 => rfl
  | j + 1 => by
    have hb := sumN_bd bs k
    show (sumN bs (k + j) + wdA bs (4 * (k + j))) % 4294967296 = _
    rw [sumN_past h j, wdA_out (by omega)]
    omega
theorem sumN_all {bs : List UInt8} {k : Nat} (h : bs.length ≤ 4 * k) : sumN bs k = sumS bs := by
  obtain ⟨j, rfl⟩ : ∃ j, k = (bs.length + 3) / 4 + j := ⟨k - (bs.length + 3) / 4, by omega⟩
  exact sumN_past (by omega) j
theorem sumN_left {a b : List UInt8} : ∀ {k : Nat}, 4 * k ≤ a.length → sumN (a ++ b) k = sumN a k
  | 0, _ => rfl
  | k + 1, h => by
    show (sumN (a ++ b) k + wdA (a ++ b) (4 * k)) % 4294967296 = (sumN a k + wdA a (4 * k)) % 4294967296
    rw [sumN_left (by omega), wdA_left (by omega)]
theorem sumN_right {a b : List UInt8} {m : Nat} (h : a.length = 4 * m) : ∀ k, sumN (a ++ b) (m + k) = (sumS a + sumN b k) % 4294967296
  | 0 => by
    have hb := sumS_bd a
    show sumN (a ++ b) m = (sumS a + 0) % 4294967296
    rw [sumN_left (by omega), sumN_all (by omega)]
    omega
  | k + 1 => by
    show (sumN (a ++ b) (m + k) + wdA (a ++ b) (4 * (m + k))) % 4294967296 = (sumS a + (sumN b k + wdA b (4 * k)) % 4294967296) % 4294967296
    rw [sumN_right h k, wdA_right (j := 4 * k) (by omega)]
    omega
/-- The sum of two parts, the first one whole. -/
theorem sumS_append {a b : List UInt8} (h : a.length % 4 = 0) : sumS (a ++ b) = (sumS a + sumS b) % 4294967296 := by
  obtain ⟨m, hm⟩ : ∃ m, a.length = 4 * m := ⟨a.length / 4, by omega⟩
  have h1 := sumN_right (b := b) hm ((b.length + 3) / 4)
  rw [sumN_all (by rw [List.length_append]; omega)] at h1
  exact h1
theorem sumS_four {a b c d : UInt8} : sumS [a, b, c, d] = (((a.toNat : Int) * 256 + b.toNat) * 256 + c.toNat) * 256 + d.toNat := by
  have ha := a.toNat_lt
  have hb := b.toNat_lt
  have hc := c.toNat_lt
  have hd := d.toNat_lt
  rw [← sumN_all (bs := [a, b, c, d]) (k := 1) (by simp)]
  show (0 + ((((a.toNat : Int) * 256 + b.toNat) * 256 + c.toNat) * 256 + d.toNat)) % 4294967296 = _
  omega
theorem sumS_be4 (x : Int) : sumS (beB 4 x) = x % 4294967296 := by
  rw [beB_4, sumS_four]
  simp [byteAt_nat]
  omega
/-- Four bytes that were none are written: the sum rises by their number. -/
theorem sumS_patch {a c : List UInt8} (x : Int) (ha : a.length % 4 = 0) : sumS (a ++ beB 4 x ++ c) = (sumS (a ++ [0, 0, 0, 0] ++ c) + x) % 4294967296 := by
  have h4 : (beB 4 x).length = 4 := beB_length 4 x
  rw [sumS_append (by rw [List.length_append]; omega), sumS_append ha, sumS_append (a := a ++ [0, 0, 0, 0]) (by rw [List.length_append]; show (a.length + 4) % 4 = 0; omega), sumS_append ha, sumS_be4, sumS_four]
  simp
  omega
end Go.Proofs.Ytejombofjakllaa

namespace Go.Proofs.Ytejombofjakllaa

/-- A blob: its tag and its bytes. -/
abbrev Bl := List UInt8 × List UInt8
def isTagB (s : List UInt8) : Bool := s.all (fun c => decide (32 ≤ c.toNat) && decide (c.toNat ≤ 126)) && s.length == 4
theorem lt_irr (a : List UInt8) : ¬ a < a := List.lt_irrefl a
theorem lt_tr {a b c : List UInt8} (h : a < b) (k : b < c) : a < c := List.lt_trans h k
theorem lt_as {a b : List UInt8} (h : a < b) : ¬ b < a := fun k => lt_irr a (lt_tr h k)
theorem lt_tri (a b : List UInt8) : a < b ∨ a = b ∨ b < a := by
  by_cases h : a < b
  · exact .inl h
  by_cases k : b < a
  · exact .inr (.inr k)
  · exact .inr (.inl (List.le_antisymm (List.not_lt.1 k) (List.not_lt.1 h)))
/-- Tags that rise. -/
def TagUp (l : List Bl) : Prop := l.Pairwise fun a b => a.1 < b.1
/-- One more, at its place. -/
def insT (x : Bl) : List Bl → List Bl
  | [] => [x]
  | y :: t => if y.1 < x.1 then y :: insT x t else x :: y :: t
def srtT (l : List Bl) : List Bl := l.foldl (fun acc x => insT x acc) []
theorem srtT_snoc (l : List Bl) (x : Bl) : srtT (l ++ [x]) = insT x (srtT l) := by unfold srtT; rw [List.foldl_append]; rfl
theorem insT_perm (x : Bl) : ∀ l : List Bl, (insT x l).Perm (x :: l)
  | [] => List.Perm.refl _
  | y :: t => by
    unfold insT
    split
    · exact ((insT_perm x t).cons y).trans (List.Perm.swap x y t)
    · exact List.Perm.refl _
theorem foldl_perm : ∀ (l acc : List Bl), (l.foldl (fun acc x => insT x acc) acc).Perm (acc ++ l)
  | [], acc => by simp
  | x :: t, acc => by
    rw [List.foldl_cons]
    refine (foldl_perm t (insT x acc)).trans ?_
    refine ((insT_perm x acc).append_right t).trans ?_
    show (x :: (acc ++ t)).Perm (acc ++ x :: t)
    exact List.perm_middle.symm
theorem srtT_perm (l : List Bl) : (srtT l).Perm l := by
  have h := foldl_perm l []
  rw [List.nil_append] at h
  exact h
theorem srtT_len (l : List Bl) : (srtT l).length = l.length := (srtT_perm l).length_eq
theorem insT_mem {x z : Bl} {l : List Bl} (h : z ∈ insT x l) : z = x ∨ z ∈ l := by
  have := (insT_perm x l).mem_iff.1 h
  simpa using this
theorem insT_up {x : Bl} : ∀ {l : List Bl}, TagUp l → (∀ y ∈ l, y.1 ≠ x.1) → TagUp (insT x l)
  | [], _, _ => List.pairwise_singleton _ _
  | y :: t, h, hn => by
    unfold TagUp at h
    rw [List.pairwise_cons] at h
    unfold insT
    by_cases hlt : y.1 < x.1
    · rw [if_pos hlt]
      refine List.pairwise_cons.2 ⟨fun z hz => ?_, insT_up h.2 fun z hz => hn z (List.mem_cons_of_mem _ hz)⟩
      rcases insT_mem hz with rfl | hz
      · exact hlt
      · exact h.1 z hz
    · rw [if_neg hlt]
      have hxy : x.1 < y.1 := by
        rcases lt_tri x.1 y.1 with h1 | h1 | h1
        · exact h1
        · exact absurd h1.symm (hn y (List.mem_cons_self ..))
        · exact absurd h1 hlt
      refine List.pairwise_cons.2 ⟨fun z hz => ?_, List.pairwise_cons.2 h⟩
      rcases List.mem_cons.1 hz with rfl | hz
      · exact hxy
      · exact lt_tr hxy (h.1 z hz)
/-- No two tags are one. -/
def TagNd (l : List Bl) : Prop := (l.map Prod.fst).Nodup
theorem nd_perm {a b : List Bl} (h : a.Perm b) : TagNd a ↔ TagNd b := (h.map Prod.fst).nodup_iff
theorem up_nd {l : List Bl} (h : TagUp l) : TagNd l := by
  unfold TagNd List.Nodup
  rw [List.pairwise_map]
  refine h.imp fun {a b} hab => ?_
  intro e
  rw [e] at hab
  exact lt_irr _ hab
theorem fold_up : ∀ {l acc : List Bl}, TagUp acc → TagNd (acc ++ l) → TagUp (l.foldl (fun acc x => insT x acc) acc)
  | [], _, h, _ => h
  | x :: t, acc, h, hn => by
    rw [List.foldl_cons]
    have hp : (insT x acc ++ t).Perm (acc ++ x :: t) := ((insT_perm x acc).append_right t).trans List.perm_middle.symm
    refine fold_up (insT_up h fun y hy e => ?_) ((nd_perm hp).2 hn)
    unfold TagNd at hn
    rw [List.map_append, List.nodup_append] at hn
    exact hn.2.2 y.1 (List.mem_map_of_mem hy) x.1 (by simp) e
theorem srtT_up {l : List Bl} (h : TagNd l) : TagUp (srtT l) := fold_up List.Pairwise.nil (by rw [List.nil_append]; exact h)
/-- A list whose tags rise is told by what it holds. -/
theorem up_eq : ∀ {a b : List Bl}, TagUp a → TagUp b → a.Perm b → a = b
  | [], b, _, _, h => (List.nil_perm.1 h).symm
  | x :: a, [], _, _, h => by have := h.length_eq; simp at this
  | x :: a, y :: b, ha, hb, h => by
    unfold TagUp at ha hb
    rw [List.pairwise_cons] at ha hb
    have hxy : x = y := by
      have h1 : x ∈ y :: b := h.mem_iff.1 (List.mem_cons_self ..)
      have h2 : y ∈ x :: a := h.mem_iff.2 (List.mem_cons_self ..)
      rcases List.mem_cons.1 h1 with h1 | h1
      · exact h1
      rcases List.mem_cons.1 h2 with h2 | h2
      · exact h2.symm
      exact absurd (ha.1 y h2) (lt_as (hb.1 x h1))
    subst hxy
    rw [up_eq ha.2 hb.2 (List.perm_cons x |>.1 h)]
/-- Whatever sorts, sorts so. -/
theorem srt_is {l s : List Bl} (hn : TagNd l) (hp : s.Perm l) (hs : TagUp s) : s = srtT l := up_eq hs (srtT_up hn) (hp.trans (srtT_perm l).symm)
end Go.Proofs.Ytejombofjakllaa

namespace Go.Proofs.Ytejombofjakllaa

def headT : List UInt8 := [104, 101, 97, 100]
def upN (n : Nat) : Nat := (n + 3) / 4 * 4
/-- A table's bytes as they count. -/
def plainS (t : Bl) : List UInt8 := if t.1 = headT ∧ 12 ≤ t.2.length then t.2.take 8 ++ [0, 0, 0, 0] ++ t.2.drop 12 else t.2
theorem plain_len (t : Bl) : (plainS t).length = t.2.length := by
  unfold plainS
  split
  · rename_i h
    simp
    omega
  · rfl
def padS (d : List UInt8) : List UInt8 := d ++ List.replicate (upN d.length - d.length) 0
theorem padS_len (d : List UInt8) : (padS d).length = upN d.length := by
  unfold padS upN
  simp
  omega
/-- How many bytes tables have, each one up to whole four. -/
def totS (l : List Bl) : Nat := (l.map fun t => upN t.2.length).sum
def sizeS4 (l : List Bl) : Nat := 12 + 16 * l.length + totS l
def verB (v : Int) : Bool := decide (v = 65536 ∨ v = 1953658213 ∨ v = 1330926671)
/-- What is wrong with tables: 0: nothing. -/
def chkS (v : Int) (l : List Bl) : Int :=
  if verB v = false ∨ l.length < 1 ∨ 64 < l.length then 1
  else if l.all (fun t => isTagB t.1) = false then 1
  else if ¬ (l.map Prod.fst).Nodup then 5
  else if 1048576 < sizeS4 l then 3 else 0
def pwN (n : Nat) : Nat := 2 ^ Nat.log2 n
/-- One table's entry. -/
def entS (at_ : Nat) (t : Bl) : List UInt8 := t.1 ++ beB 4 (sumS (plainS t)) ++ beB 4 at_ ++ beB 4 t.2.length
def dirS : Nat → List Bl → List UInt8
  | _, [] => []
  | a, t :: r => entS a t ++ dirS (a + upN t.2.length) r
def datS (l : List Bl) : List UInt8 := (l.map fun t => padS (plainS t)).flatten
def hdrS (v : Int) (n : Nat) : List UInt8 := beB 4 v ++ beB 2 n ++ beB 2 (16 * pwN n : Nat) ++ beB 2 (Nat.log2 n) ++ beB 2 (16 * n - 16 * pwN n : Int)
/-- A font's bytes, the sum of all not yet in them. -/
def rawS (v : Int) (l : List Bl) : List UInt8 := hdrS v l.length ++ dirS (12 + 16 * l.length) l ++ datS l
/-- Where the table head with all its bytes lies. -/
def hdA : Nat → List Bl → Option Nat
  | _, [] => none
  | a, t :: r => match hdA (a + upN t.2.length) r with
    | some h => some h
    | none => if t.1 = headT ∧ 12 ≤ t.2.length then some a else none
def fixS (raw : List UInt8) (h : Nat) : List UInt8 := raw.take (h + 8) ++ beB 4 ((2981146554 - sumS raw + 4294967296) % 4294967296) ++ raw.drop (h + 12)
def layS (v : Int) (l : List Bl) : List UInt8 := match hdA (12 + 16 * l.length) l with
  | none => rawS v l
  | some h => fixS (rawS v l) h
def buildS (v : Int) (l : List Bl) : List UInt8 := if chkS v l = 0 then layS v (srtT l) else []
theorem totS_append (a b : List Bl) : totS (a ++ b) = totS a + totS b := by unfold totS; rw [List.map_append, List.sum_append]
theorem totS_cons (t : Bl) (b : List Bl) : totS (t :: b) = upN t.2.length + totS b := rfl
theorem dirS_append : ∀ (a b : List Bl) (k : Nat), dirS k (a ++ b) = dirS k a ++ dirS (k + totS a) b
  | [], _, _ => rfl
  | t :: r, b, k => by
    show entS k t ++ dirS (k + upN t.2.length) (r ++ b) = (entS k t ++ dirS (k + upN t.2.length) r) ++ dirS (k + totS (t :: r)) b
    rw [dirS_append r b, List.append_assoc, totS_cons, Nat.add_assoc]
theorem datS_append (a b : List Bl) : datS (a ++ b) = datS a ++ datS b := by unfold datS; rw [List.map_append, List.flatten_append]
theorem datS_len : ∀ l : List Bl, (datS l).length = totS l
  | [] => rfl
  | t :: r => by
    show (padS (plainS t) ++ datS r).length = _
    rw [List.length_append, padS_len, plain_len, datS_len r, totS_cons]
theorem entS_len {k : Nat} {t : Bl} (h : t.1.length = 4) : (entS k t).length = 16 := by
  unfold entS
  simp [beB_length, h]
theorem dirS_len : ∀ {l : List Bl} (k : Nat), (∀ t ∈ l, t.1.length = 4) → (dirS k l).length = 16 * l.length
  | [], _, _ => rfl
  | t :: r, k, h => by
    show (entS k t ++ dirS (k + upN t.2.length) r).length = _
    rw [List.length_append, entS_len (h t (List.mem_cons_self ..)), dirS_len _ fun x hx => h x (List.mem_cons_of_mem _ hx), List.length_cons]
    omega
theorem hdrS_len (v : Int) (n : Nat) : (hdrS v n).length = 12 := by unfold hdrS; simp [beB_length]
theorem rawS_len {v : Int} {l : List Bl} (h : ∀ t ∈ l, t.1.length = 4) : (rawS v l).length = sizeS4 l := by
  unfold rawS sizeS4
  rw [List.length_append, List.length_append, hdrS_len, dirS_len _ h, datS_len]
theorem upN_mod (n : Nat) : upN n % 4 = 0 := by unfold upN; omega
theorem upN_ge (n : Nat) : n ≤ upN n ∧ upN n ≤ n + 3 := by unfold upN; omega
theorem totS_mod : ∀ l : List Bl, totS l % 4 = 0
  | [] => rfl
  | t :: r => by
    have := upN_mod t.2.length
    have := totS_mod r
    rw [totS_cons]
    omega
/-- Where head lies: what stands ahead of it. -/
theorem hdA_some : ∀ {l : List Bl} {k h : Nat}, hdA k l = some h → ∃ a t b, l = a ++ t :: b ∧ h = k + totS a ∧ t.1 = headT ∧ 12 ≤ t.2.length
  | [], _, _, e => by cases e
  | t :: r, k, h, e => by
    unfold hdA at e
    cases h1 : hdA (k + upN t.2.length) r with
    | some h' =>
      rw [h1] at e
      injection e with e
      subst e
      obtain ⟨a, t', b, hl, hh, h2, h3⟩ := hdA_some h1
      exact ⟨t :: a, t', b, by rw [hl]; rfl, by rw [totS_cons]; omega, h2, h3⟩
    | none =>
      rw [h1] at e
      by_cases h2 : t.1 = headT ∧ 12 ≤ t.2.length
      · simp only [if_pos h2] at e
        injection e with e
        subst e
        exact ⟨[], t, r, rfl, by simp [totS], h2.1, h2.2⟩
      · simp only [if_neg h2] at e
        cases e
theorem hdA_none : ∀ {l : List Bl} {k : Nat}, hdA k l = none → ∀ t ∈ l, ¬ (t.1 = headT ∧ 12 ≤ t.2.length)
  | [], _, _, t, ht => by cases ht
  | x :: r, k, e, t, ht => by
    unfold hdA at e
    cases h1 : hdA (k + upN x.2.length) r with
    | some h' => rw [h1] at e; cases e
    | none =>
      rw [h1] at e
      by_cases h2 : x.1 = headT ∧ 12 ≤ x.2.length
      · simp only [if_pos h2] at e
        cases e
      · rcases List.mem_cons.1 ht with rfl | ht
        · exact h2
        · exact hdA_none h1 t ht
/-- One table more. -/
theorem hdA_snoc : ∀ (l : List Bl) (t : Bl) (k : Nat), hdA k (l ++ [t]) = if t.1 = headT ∧ 12 ≤ t.2.length then some (k + totS l) else hdA k l
  | [], t, k => by
    show (match hdA (k + upN t.2.length) [] with | some h => some h | none => if t.1 = headT ∧ 12 ≤ t.2.length then some k else none) = _
    rfl
  | x :: r, t, k => by
    show (match hdA (k + upN x.2.length) (r ++ [t]) with | some h => some h | none => if x.1 = headT ∧ 12 ≤ x.2.length then some k else none) = _
    rw [hdA_snoc r t]
    by_cases h : t.1 = headT ∧ 12 ≤ t.2.length
    · rw [if_pos h, if_pos h, totS_cons, Nat.add_assoc]
    · rw [if_neg h, if_neg h]
      rfl
end Go.Proofs.Ytejombofjakllaa

namespace Go.Proofs.Ytejombofjakllaa
open Go.RowKit

theorem take_snoc' {α : Type} {l : List α} {k : Nat} {x : α} (h : l[k]? = some x) : l.take (k + 1) = l.take k ++ [x] := by
  rw [List.take_add_one, h]
  rfl
theorem get_some' {α : Type} {l : List α} {k : Nat} (h : k < l.length) : ∃ x, l[k]? = some x := ⟨_, List.getElem?_eq_getElem h⟩
theorem beq4 (n : Nat) : ((n : Int) == 4) = (n == 4) := by
  rw [Bool.eq_iff_iff]
  simp
  omega
theorem strB_size (bs : List UInt8) : (strB bs).size = bs.length := by simp [strB, ByteArray.size]
theorem strB_at {bs : List UInt8} {k : Nat} {u : UInt8} (h : bs[k]? = some u) (hk : k < (strB bs).size) : (strB bs)[k]'hk = u := by
  obtain ⟨h1, h2⟩ := List.getElem?_eq_some_iff.1 h
  subst h2
  rfl
def okB (c : UInt8) : Bool := decide (32 ≤ c.toNat) && decide (c.toNat ≤ 126)
theorem tag_bad {bs : List UInt8} {k : Nat} {u : UInt8} (h : bs[k]? = some u) (hu : okB u = false) : isTagB bs = false := by
  unfold isTagB
  have : bs.all (fun c => decide (32 ≤ c.toNat) && decide (c.toNat ≤ 126)) = false := by
    rw [List.all_eq_false]
    exact ⟨u, List.mem_of_getElem? h, by rw [show (decide (32 ≤ u.toNat) && decide (u.toNat ≤ 126)) = okB u from rfl, hu]; simp⟩
  rw [this, Bool.false_and]
theorem tag_all {bs : List UInt8} (h : (bs.take bs.length).all okB = true) : isTagB bs = (bs.length == 4) := by
  rw [List.take_length] at h
  unfold isTagB
  rw [show bs.all (fun c => decide (32 ≤ c.toNat) && decide (c.toNat ≤ 126)) = true from h, Bool.true_and]
theorem all_next {bs : List UInt8} {k : Nat} {u : UInt8} (h : (bs.take k).all okB = true) (hu : bs[k]? = some u) (ho : okB u = true) : (bs.take (k + 1)).all okB = true := by
  rw [take_snoc' hu, List.all_append, h]
  simp [ho]
set_option maxRecDepth 100000 in
set_option maxHeartbeats 4000000 in
/-- The program's. -/
theorem isTag_any (bs : List UInt8) (_hm : bs.length ≤ 140737488355328) (w : World) : Calls Try.prog 17 #[.string (strB bs)] w fun e w' => e = .returned (.bool (isTagB bs)) ∧ Below w.heap.size w w' := by
  obtain ⟨v, hv⟩ : ∃ v, isTagB bs = v := ⟨_, rfl⟩
  have HV := Lib.hid hv
  rw [hv]
  clear hv
  obtain ⟨s, hs⟩ : ∃ s, strB bs = s := ⟨_, rfl⟩
  have hsz : s.size = bs.length := by rw [← hs]; exact strB_size bs
  have HS := Lib.hid hs
  rw [hs]
  clear hs
  go_enter Try.func17, Try.ntmps17
  go_wp2
  go_loopw [] (fun wr => ∃ pos : Nat, pos ≤ bs.length ∧ wr.heap[w.heap.size]? = some (.stringIter s pos) ∧ Hid (Below w.heap.size w wr) ∧ Hid ((bs.take pos).all okB = true)) (fun wr => s.size - wr.iterPos w.heap.size)
  case atStart =>
    exact ⟨0, Nat.zero_le _, World.iter_heap w s 0, Lib.hid ((Below.refl _ w).alloc (Nat.le_refl _) _), Lib.hid rfl⟩
  case round =>
    obtain ⟨pos, hpl, hit, HB, HA⟩ := hrel
    by_cases hp : pos < s.size
    · have hnx : ∀ ty, (Instr.next (.pointer (some ⟨w.heap.size, 0, none⟩)) true ty).run Try.prog wr = _ := fun ty => Lib.run_next_any_at wr w.heap.size s pos ty hit hp
      obtain ⟨u, hu⟩ := get_some' (l := bs) (k := pos) (by omega)
      have hsu : s[pos]'hp = u := by
        have h1 := HS.out
        subst h1
        exact strB_at hu hp
      have hlow : u.toNat < 128 → Utf8.decode s pos = (u.toNat, 1) := fun h => by
        have := decode_ascii s pos hp (by rw [hsu]; exact h)
        rw [hsu] at this
        exact this
      have hhi : 128 ≤ u.toNat → 128 ≤ (Utf8.decode s pos).1 := fun h => (decode_high s pos hp (by rw [hsu]; exact h)).1
      have hdl := decode_le s pos
      obtain ⟨rn, hrn⟩ : ∃ rn, (Utf8.decode s pos).1 = rn := ⟨_, rfl⟩
      have hbw2 := Lib.below_iterAt HB.out (k := w.heap.size) (Nat.le_refl _) s (pos + (Utf8.decode s pos).2)
      by_cases hok : okB u = true
      · have hu2 : 32 ≤ u.toNat ∧ u.toNat ≤ 126 := by unfold okB at hok; simpa using hok
        have hd := hlow (by omega)
        rw [hd] at hnx hbw2
        dsimp only at hnx hbw2
        have d1 : decide ((u.toNat : Int) < 32) = false := by simp; omega
        have d2 : decide ((126 : Int) < u.toNat) = false := by simp; omega
        have hit2 := Lib.iterAt_heap wr w.heap.size s pos (pos + 1) hit
        have HBW2 := Lib.hid hbw2
        have HA2 := Lib.hid (all_next HA.out hu hok)
        clear hlow hhi hdl hrn hsu hu hd HA
        have hi1 := iterPos_of hit
        have hi2 := iterPos_of hit2
        go_wp2
        go_roundw
        case rel => exact ⟨pos + 1, by omega, hit2, HBW2, HA2⟩
        case measure => rw [hi1, hi2]; omega
      · have hbad := tag_bad hu (by simpa using hok)
        rw [HV.out] at hbad
        subst hbad
        have hcs : (rn < 32) ∨ (¬ rn < 32 ∧ 126 < rn) := by
          rcases Nat.lt_or_ge u.toNat 128 with h | h
          · have := hlow h
            rw [this] at hrn
            have h2 : ¬ (32 ≤ u.toNat ∧ u.toNat ≤ 126) := fun h3 => hok (by unfold okB; simpa using h3)
            dsimp only at hrn
            omega
          · have := hhi h
            omega
        rw [hrn] at hnx hdl
        have HBW2 := Lib.hid hbw2
        clear hlow hhi hrn hsu hu hbw2 hok
        obtain ⟨W2, hW2⟩ : ∃ W2, wr.iterAt w.heap.size s (pos + (Utf8.decode s pos).2) = W2 := ⟨_, rfl⟩
        rw [hW2] at hnx HBW2
        clear hW2
        rcases hcs with d1 | ⟨d1, d2⟩
        · have e1 : decide ((rn : Int) < 32) = true := by simp; omega
          go_wp2
          go_ret
          exact ⟨rfl, HBW2.out⟩
        · have e1 : decide ((rn : Int) < 32) = false := by simp; omega
          have e2 : decide ((126 : Int) < rn) = true := by simp; omega
          go_wp2
          go_ret
          exact ⟨rfl, HBW2.out⟩
    · obtain rfl : pos = bs.length := by omega
      have hnx : ∀ ty, (Instr.next (.pointer (some ⟨w.heap.size, 0, none⟩)) true ty).run Try.prog wr = _ := fun ty => Lib.run_next_end_at wr w.heap.size s bs.length ty hit hp
      have hv2 := tag_all HA.out
      rw [HV.out, ← hsz] at hv2
      have HV2 := Lib.hid hv2
      clear hv2
      go_wp2
      go_ret
      exact ⟨by rw [HV2.out, hsz, beq4]; rfl, HB.out⟩
set_option maxRecDepth 100000 in
set_option maxHeartbeats 4000000 in
/-- The document's. -/
theorem rIsTag_any (bs : List UInt8) (hm : bs.length ≤ 140737488355328) (w : World) : Calls Try.prog 18 #[.string (strB bs)] w fun e w' => e = .returned (.bool (isTagB bs)) ∧ Below w.heap.size w w' := by
  obtain ⟨v, hv⟩ : ∃ v, isTagB bs = v := ⟨_, rfl⟩
  have HV := Lib.hid hv
  rw [hv]
  clear hv
  obtain ⟨s, hs⟩ : ∃ s, strB bs = s := ⟨_, rfl⟩
  have hsz : s.size = bs.length := by rw [← hs]; exact strB_size bs
  have HS := Lib.hid hs
  rw [hs]
  clear hs
  go_enter Try.func18, Try.ntmps18
  go_wp2
  go_loopw [3] (fun i wr => ∃ pos : Nat, pos ≤ bs.length ∧ i = .int .i64 pos ∧ Hid (Below w.heap.size w wr) ∧ Hid ((bs.take pos).all okB = true)) (fun i wr => s.size - (intOf i).toNat)
  case atStart =>
    exact ⟨0, Nat.zero_le _, rfl, Lib.hid (Below.refl _ w), Lib.hid rfl⟩
  case round =>
    obtain ⟨pos, hpl, rfl, HB, HA⟩ := hrel
    by_cases hp : pos < s.size
    · obtain ⟨u, hu⟩ := get_some' (l := bs) (k := pos) (by omega)
      have hsu : s[pos]'hp = u := by
        have h1 := HS.out
        subst h1
        exact strB_at hu hp
      have hpi : decide ((pos : Int) < s.size) = true := by simp; omega
      by_cases hok : okB u = true
      · have hu2 : 32 ≤ u.toNat ∧ u.toNat ≤ 126 := by unfold okB at hok; simpa using hok
        have d1 : decide ((u.toNat : Int) < 32) = false := by simp; omega
        have d2 : decide ((126 : Int) < u.toNat) = false := by simp; omega
        have HA2 := Lib.hid (all_next HA.out hu hok)
        clear hu HA
        go_wp2
        go_roundw
        case rel => exact ⟨pos + 1, by omega, by go_num, HB, HA2⟩
        case measure => simp [intOf]; omega
      · have hbad := tag_bad hu (by simpa using hok)
        rw [HV.out] at hbad
        subst hbad
        have h2 : ¬ (32 ≤ u.toNat ∧ u.toNat ≤ 126) := fun h3 => hok (by unfold okB; simpa using h3)
        clear hu HA
        by_cases h32 : u.toNat < 32
        · have d1 : decide ((u.toNat : Int) < 32) = true := by simp; omega
          go_wp2
          go_ret
          exact ⟨rfl, HB.out⟩
        · have d1 : decide ((u.toNat : Int) < 32) = false := by simp; omega
          have d2 : decide ((126 : Int) < u.toNat) = true := by simp; omega
          go_wp2
          go_ret
          exact ⟨rfl, HB.out⟩
    · obtain rfl : pos = bs.length := by omega
      have hv2 := tag_all HA.out
      rw [HV.out, ← hsz] at hv2
      have HV2 := Lib.hid hv2
      clear hv2
      go_wp2
      go_ret
      exact ⟨by rw [HV2.out, hsz, beq4]; rfl, HB.out⟩
end Go.Proofs.Ytejombofjakllaa

namespace Go.Proofs.Ytejombofjakllaa
open Go.RowKit

theorem sl_byte {w : World} {A : Option Addr} {n : Nat} {bs : List UInt8} {i : Nat} {u : UInt8} (h : SlAt w A n (bs.map byteV)) (hx : bs[i]? = some u) : ∃ b o, A = some ⟨b, o, none⟩ ∧ b < w.heap.size ∧ w.cell? ⟨b, o + i, none⟩ = some (.int .u8 u.toNat) := by
  have hl := (List.getElem?_eq_some_iff.1 hx).1
  have hn := h.1
  rw [List.length_map] at hn
  obtain ⟨b, o, hA, hb, hc⟩ := h.2 i (by omega)
  rw [List.getElem?_map, hx] at hc
  exact ⟨b, o, hA, hb, hc⟩
/-- j bytes from a place on. -/
def parA (bs : List UInt8) (i : Nat) : Nat → Int
  | 0 => 0
  | j + 1 => parA bs i j * 256 + byA bs (i + j)
theorem parA_four (bs : List UInt8) (i : Nat) : parA bs i 4 = wdA bs i := by
  show (((0 * 256 + byA bs (i + 0)) * 256 + byA bs (i + 1)) * 256 + byA bs (i + 2)) * 256 + byA bs (i + 3) = _
  unfold wdA
  rw [Int.zero_mul, Int.zero_add, Nat.add_zero]
theorem parA_bd (bs : List UInt8) (i : Nat) : ∀ j, j ≤ 3 → 0 ≤ parA bs i j ∧ parA bs i j ≤ 16777215
  | 0, _ => by unfold parA; omega
  | 1, _ => by
    have := byA_bd bs (i + 0)
    show 0 ≤ 0 * 256 + byA bs (i + 0) ∧ _
    show _ ∧ 0 * 256 + byA bs (i + 0) ≤ _
    omega
  | 2, _ => by
    have := byA_bd bs (i + 0)
    have := byA_bd bs (i + 1)
    show 0 ≤ (0 * 256 + byA bs (i + 0)) * 256 + byA bs (i + 1) ∧ (0 * 256 + byA bs (i + 0)) * 256 + byA bs (i + 1) ≤ _
    omega
  | 3, _ => by
    have := byA_bd bs (i + 0)
    have := byA_bd bs (i + 1)
    have := byA_bd bs (i + 2)
    show 0 ≤ ((0 * 256 + byA bs (i + 0)) * 256 + byA bs (i + 1)) * 256 + byA bs (i + 2) ∧ ((0 * 256 + byA bs (i + 0)) * 256 + byA bs (i + 1)) * 256 + byA bs (i + 2) ≤ _
    omega
set_option maxRecDepth 20000 in
set_option maxHeartbeats 4000000 in
theorem rSum_any {w : World} {A : Option Addr} {n c : Nat} {bs : List UInt8} (h : SlAt w A n (bs.map byteV)) (hn : bs.length = n) (hm : n ≤ 140737488355328) :
    Calls Try.prog 16 #[.slice A n c] w fun e w' => e = .returned (.int .i64 (sumS bs)) ∧ Below w.heap.size w w' := by
  have H := Lib.hid h
  have HN := Lib.hid hn
  clear h hn
  obtain ⟨m, hmm⟩ : ∃ m, (n + 3) / 4 = m := ⟨_, rfl⟩
  have hm2 : 4 * m ≤ n + 3 ∧ n ≤ 4 * m := by omega
  have HS : Hid (sumN bs m = sumS bs) := Lib.hid (by unfold sumS; rw [HN.out, hmm])
  clear hmm
  obtain ⟨hm3, hm4⟩ := hm2
  go_enter Try.func16, Try.ntmps16
  go_wp2
  go_loopw [3, 4] (fun s i wr => ∃ (k : Nat) (y : Int), k ≤ m ∧ s = .int .i64 y ∧ i = .int .i64 (4 * (k : Int)) ∧ Hid (sumN bs k = y) ∧ Hid (Below w.heap.size w wr)) (fun _ i _ => m - (intOf i).toNat / 4)
  case atStart => exact ⟨0, 0, Nat.zero_le _, rfl, rfl, Lib.hid rfl, Lib.hid (Below.refl _ _)⟩
  case round =>
    obtain ⟨k, y, hk, rfl, rfl, HY, HB⟩ := hrel
    have hyb := sumN_bd bs k
    rw [HY.out] at hyb
    obtain ⟨y0, y1⟩ := hyb
    by_cases hlt : 4 * k < n
    · have d1 : decide (4 * (k : Int) < n) = true := by simp; omega
      go_wp2
      go_loopw [5, 6] (fun x j wi => ∃ (q : Nat) (z : Int), q ≤ 4 ∧ x = .int .i64 z ∧ j = .int .i64 q ∧ Hid (parA bs (4 * k) q = z) ∧ wi = wr) (fun _ j _ => 4 - (intOf j).toNat)
      case atStart => exact ⟨0, 0, by omega, rfl, rfl, Lib.hid rfl, rfl⟩
      case round =>
        obtain ⟨q, z, hq, rfl, rfl, HZ, rfl⟩ := hrel
        by_cases hq4 : q < 4
        · have e1 : decide ((q : Int) < 4) = true := by simp; omega
          have hzb := parA_bd bs (4 * k) q (by omega)
          rw [HZ.out] at hzb
          obtain ⟨z0, z1⟩ := hzb
          by_cases hin : 4 * k + q < n
          · have e2 : decide (4 * (k : Int) + q < n) = true := by simp; omega
            obtain ⟨u, hu⟩ := get_some' (l := bs) (k := 4 * k + q) (by rw [HN.out]; exact hin)
            obtain ⟨b, o, rfl, hb, hc⟩ := sl_byte H.out hu
            have hub := u.toNat_lt
            have hlr := Nat.lt_of_lt_of_le hb HB.out.size
            obtain ⟨ix, hix⟩ : ∃ ix : Nat, 4 * k + q = ix := ⟨_, rfl⟩
            have hixi : 4 * (k : Int) + q = ix := by omega
            have hc2 : wr.cell? ⟨b, o + ix, none⟩ = some (.int .u8 u.toNat) := by rw [← hix, HB.out.cell (p := ⟨b, o + (4 * k + q), none⟩) hb]; exact hc
            have HN2 : Hid (parA bs (4 * k) (q + 1) = z * 256 + u.toNat) := Lib.hid (by
              show parA bs (4 * k) q * 256 + byA bs (4 * k + q) = _
              rw [HZ.out, byA_at hu])
            clear hu hc
            go_wp2
            go_roundw
            case rel => exact ⟨q + 1, _, by omega, rfl, by go_num, HN2, trivial⟩
            case measure => simp [intOf]; omega
          · have e2 : decide (4 * (k : Int) + q < n) = false := by simp; omega
            have HN2 : Hid (parA bs (4 * k) (q + 1) = z * 256) := Lib.hid (by
              show parA bs (4 * k) q * 256 + byA bs (4 * k + q) = _
              rw [HZ.out, byA_out (by rw [HN.out]; omega), Int.add_zero])
            go_wp2
            go_roundw
            case rel => exact ⟨q + 1, _, by omega, rfl, by go_num, HN2, trivial⟩
            case measure => simp [intOf]; omega
        · obtain rfl : q = 4 := by omega
          have hz2 := HZ.out
          rw [parA_four] at hz2
          have hzb := wdA_bd bs (4 * k)
          rw [hz2] at hzb
          obtain ⟨z0, z1⟩ := hzb
          have HN2 : Hid (sumN bs (k + 1) = (y + z) % 4294967296) := Lib.hid (by
            show (sumN bs k + wdA bs (4 * k)) % 4294967296 = _
            rw [HY.out, hz2])
          clear hz2
          go_wp2
          go_roundw
          case rel => exact ⟨k + 1, _, by omega, rfl, by go_num, HN2, HB⟩
          case measure => simp [intOf]; omega
    · have d1 : decide (4 * (k : Int) < n) = false := by simp; omega
      have hkm : sumN bs k = sumS bs := sumN_all (by rw [HN.out]; omega)
      rw [HY.out] at hkm
      have HK := Lib.hid hkm
      clear hkm
      go_wp2
      go_ret
      exact ⟨by rw [← HK.out]; rfl, HB.out⟩
end Go.Proofs.Ytejombofjakllaa

namespace Go.Proofs.Ytejombofjakllaa
open Go.RowKit Go.Shelf

attribute [local go_sem] Oper.semAt_some
section
variable {P : Program} {w : World}
@[go_sem ↓] theorem run_min_two (ts : Array TypeId) (t : TypeId) (x y : Int) : (Builtin.min_ ts t #[.int .i64 x, .int .i64 y]).run P w = .ok (.int .i64 (min x y)) w := by
  rw [run_min_int2, show (if y < x then y else x) = min x y by split <;> omega]
end
def chE (A : Option Addr) (n : Nat) (k : Nat) : Array Value := #[.slice (A.map fun x => x.add (4 * k)) (min 4 (n - 4 * k)) (min 4 (n - 4 * k))]
def ChI (J : List Nat → World → Prop) (N pb pn : Nat) (A : Option Addr) (n c : Nat) (r : Nat) (s4 : Value) (W : World) : Prop :=
  ∃ k : Nat, s4 = .int .i64 (4 * (k : Int)) ∧ 4 * k ≤ n + 3 ∧ n + 4 - 4 * k = r ∧ J (List.range k) W ∧ Blk W pb 25 [.slice A n c] ∧ Blk W pn 3 [.int .i64 4] ∧ N ≤ W.heap.size
set_option maxRecDepth 20000 in
set_option maxHeartbeats 4000000 in
theorem chunk_gives {u : World} {A : Option Addr} {n c pb pn : Nat} (nn : Nat) (hp : Blk u pb 25 [.slice A n c]) (hp2 : Blk u pn 3 [.int .i64 4]) (hc : n ≤ c) (hnm : n ≤ 140737488355328)
    {Kp : World → World → Prop} (hKp : ∀ {A B : World}, Kp A B → A.heap.size ≤ B.heap.size ∧ ∀ i t xs, (i = pb ∨ i = pn) → Blk A i t xs → Blk B i t xs) :
    GivesB nn Try.prog 64 #[.pointer (some ⟨pb, 0, none⟩), .pointer (some ⟨pn, 0, none⟩)] (chE A n) Kp (fun pre k => k = pre.length ∧ 4 * k < n) (fun xs => n ≤ 4 * xs.length) (fun _ => True) u := by
  intro l J Jx W hW hJ hJx hY h0
  have h' := hp.keepB hW
  have h2' := hp2.keepB hW
  have HJ := Lib.hid hJ
  have HY := Lib.hid hY
  have hst : ChI J W.heap.size pb pn A n c (n + 4) (.int .i64 0) W := ⟨0, rfl, by omega, by omega, h0, h', h2', Nat.le_refl _⟩
  have HST := Lib.hid hst
  clear hp hp2 hW hJ hJx hY hst h0 h' h2'
  refine callsIn_of_wp Try.func64 rfl trivial ?_ rfl
  simp only [Try.ntmps64, List.size_toArray, List.length_cons, List.length_nil, Nat.reduceAdd, Nat.reduceSub, Array.replicate_succ, Array.replicate_zero, List.push_toArray, List.append_toArray, List.nil_append, List.cons_append]
  gi_wp2_with fail
  gi_loopg [4] (n + 4) (fun r s4 wr => ChI J W.heap.size pb pn A n c r s4 wr)
  case atStart => exact HST.out
  case round =>
    obtain ⟨k, rfl, hk, hr, hJ1, hb1, hb2, hN⟩ := hrel
    have c0 : wr.cell? ⟨pb, 0, none⟩ = some (.slice A n c) := hb1.cell 0
    have c1 : wr.cell? ⟨pn, 0, none⟩ = some (.int .i64 4) := hb2.cell 0
    have l0 := hb1.lt
    have l1 := hb2.lt
    have HJ1 := Lib.hid hJ1
    have HB1 := Lib.hid hb1
    have HB2 := Lib.hid hb2
    have HR := Lib.hid hr
    clear hJ1 hb1 hb2 hr
    by_cases hlt : 4 * k < n
    · have d1 : decide (4 * (k : Int) < n) = true := by simp; omega
      gi_wp2_with fail
      refine wpIn_region_free free_wide (by kernel_rfl) (by kernel_rfl) (by kernel_rfl) ?_
      repeat (go_big_quiet_step (fail))
      refine wpQuiet_nil ?_
      rintro _ ⟨nq, rfl⟩
      obtain ⟨en, hen⟩ : ∃ en : Nat, min 4 (n - 4 * k) = en := ⟨_, rfl⟩
      have hei : min (4 : Int) ((n - 4 * k : Nat) : Int) = en := by omega
      have he1 : 4 * k + en ≤ n := by omega
      rw [hei]
      have hbd : Below wr.heap.size wr (wr.drewN nq) := (bel_drewN bel_refl).below
      have hJ2 := HJ.out _ _ _ HJ1.out (hbd.mono hN)
      have hk1 := HB1.out.keepB hbd
      have hk2 := HB2.out.keepB hbd
      have hN2 : W.heap.size ≤ (wr.drewN nq).heap.size := Nat.le_trans hN hbd.size
      generalize wr.drewN nq = wq at *
      have c0 : wq.cell? ⟨pb, 0, none⟩ = some (.slice A n c) := hk1.cell 0
      have l0 := hk1.lt
      have HK1 := Lib.hid hk1
      have HK2 := Lib.hid hk2
      have HJ2 := Lib.hid hJ2
      clear hei hbd hk1 hk2 hJ2 c1
      obtain ⟨fn, tmps, assign, body, hy, hR⟩ := HY.out _ k wq hN2 HJ2.out ⟨by rw [List.length_range], hlt⟩
      rw [show chE A n k = #[.slice (A.map fun x => x.add (4 * k)) en en] by unfold chE; rw [hen]] at hy
      rw [show List.range k ++ [k] = List.range (k + 1) from List.range_succ.symm] at hR
      have HRY := Lib.hid hR
      clear hR
      gi_wp2_with fail
      refine ⟨fun he => (by cases he), HRY.out.mono ?_⟩
      rintro e w4 (⟨rfl, hJ4, hk4⟩ | ⟨rfl, hJx4⟩)
      · obtain ⟨z4, q4⟩ := hKp hk4
        have hfin : ChI J W.heap.size pb pn A n c (n + 4 - 4 * (k + 1)) (.int .i64 (4 * ((k + 1 : Nat) : Int))) w4 := ⟨k + 1, rfl, by omega, rfl, hJ4, q4 _ _ _ (.inl rfl) HK1.out, q4 _ _ _ (.inr rfl) HK2.out, by omega⟩
        have HFN := Lib.hid hfin
        have r1 : w4.cell? ⟨pn, 0, none⟩ = some (.int .i64 4) := (q4 _ _ _ (.inr rfl) HK2.out).cell 0
        have l4 := (q4 _ _ _ (.inr rfl) HK2.out).lt
        clear hfin q4 hJ4 hk4
        gi_wp2_with fail
        gi_roundg (n + 4 - 4 * (k + 1))
        case rel => exact HFN.out
        case measure => have := HR.out; omega
      · have HJ4 := Lib.hid hJx4
        clear hJx4 hy
        gi_wp2_with fail
        refine bodyPost_ret (results_none rfl _ _ _) rfl ?_
        exact ⟨⟨_, rfl⟩, .inr ⟨_, trivial, HJ4.out⟩⟩
    · have d1 : decide (4 * (k : Int) < n) = false := by simp; omega
      gi_wp2_with fail
      refine bodyPost_end (v := .tuple #[]) (by simp [results, Try.results64]) rfl ?_
      exact ⟨⟨_, rfl⟩, .inl ⟨_, by rw [List.length_range]; omega, HJ1.out⟩⟩
end Go.Proofs.Ytejombofjakllaa

namespace Go.Proofs.Ytejombofjakllaa
open Go.RowKit Go.Shelf

attribute [local go_sem] Oper.semAt_some
theorem chunk_any {w : World} {A : Option Addr} {n c : Nat} : Calls Try.prog 43 #[.slice A n c, .int .i64 4] w fun e w' =>
    e = .returned (.func (.func 64) #[] #[.pointer (some ⟨w.heap.size, 0, none⟩), .pointer (some ⟨w.heap.size + 1, 0, none⟩)]) ∧ (w.alloc (.cells #[.slice A n c] 25)).alloc (.cells #[.int .i64 4] 3) = w' := by
  go_enter Try.func43, Try.ntmps43
  go_wp2_with fail
  go_ret
  exact ⟨rfl, rfl⟩
/-- Two blocks stay. -/
def KpB (p q : Nat) (A B : World) : Prop := A.heap.size ≤ B.heap.size ∧ ∀ i t xs, (i = p ∨ i = q) → Blk A i t xs → Blk B i t xs
section
variable {p q : Nat} {A B C : World}
theorem KpB.refl (A : World) : KpB p q A A := ⟨Nat.le_refl _, fun _ _ _ _ h => h⟩
theorem KpB.trans (h : KpB p q A B) (k : KpB p q B C) : KpB p q A C := ⟨Nat.le_trans h.1 k.1, fun i t xs hi hb => k.2 i t xs hi (h.2 i t xs hi hb)⟩
theorem KpB.put (W : World) (l : Nat) (o o' : Obj) (h1 : p < l) (h2 : q < l) (_h : W.heap[l]? = some o) : KpB p q W (W.putObj l o') :=
  ⟨by simp, fun i t xs hi hb => (World.putObj_heap_other (by rcases hi with rfl | rfl <;> omega)).trans hb⟩
theorem KpB.set (h : KpB p q A B) {a : Addr} (h1 : a.block ≠ p) (h2 : a.block ≠ q) (v : Value) : KpB p q A (B.setCell a v) :=
  ⟨Nat.le_trans h.1 (by simp), fun i t xs hi hb => (h.2 i t xs hi hb).far (by rcases hi with rfl | rfl <;> (intro e; exact absurd e.symm (by assumption))) v⟩
end
/-- Between two parts. -/
def SmI (bs : List UInt8) (W0 : World) (b : Nat) (pre : List Nat) (W : World) : Prop := Blk W b 3 [.int .i64 (sumN bs pre.length)] ∧ Below b W0 W
theorem smI_stable {bs : List UInt8} {W0 : World} {b N : Nat} (h : b < N) : BStable N (SmI bs W0 b) := fun _ _ _ ⟨h3, h4⟩ hb => ⟨h3.below hb h, h4.trans (hb.mono (by omega))⟩
set_option maxRecDepth 20000 in
set_option maxHeartbeats 4000000 in
theorem Sum_any {w : World} {A : Option Addr} {n c : Nat} {bs : List UInt8} (h : SlAt w A n (bs.map byteV)) (hn : bs.length = n) (hc : n ≤ c) (hm : n ≤ 140737488355328) :
    Calls Try.prog 15 #[.slice A n c] w fun e w' => e = .returned (.int .i64 (sumS bs)) ∧ Below w.heap.size w w' := by
  have H := Lib.hid h
  have HN := Lib.hid hn
  clear h hn
  refine (callsIn_wide (n := 9)).1 (callsIn_of_wp_marks Try.func15 rfl trivial ?_ rfl)
  simp only [Try.ntmps15, List.size_toArray, List.length_cons, List.length_nil, Nat.reduceAdd, Nat.reduceSub, Array.replicate_succ, Array.replicate_zero, List.push_toArray, List.append_toArray, List.nil_append, List.cons_append]
  refine wpIn_wide.2 ?_
  go_wp2_with (first
    | (go_at_call 43; (with_reducible refine chunk_any.mono ?_); rintro e w5 ⟨rfl, hw5⟩; have HW5 := Lib.hid hw5; clear hw5)
    | fail)
  have hb1 : Blk w5 (w.heap.size + 1) 25 [.slice A n c] := by rw [← HW5.out]; exact (Blk.newAt _ 25 [_] (by simp)).alloc _
  have hb2 : Blk w5 (w.heap.size + 1 + 1) 3 [.int .i64 4] := by rw [← HW5.out]; exact Blk.newAt _ 3 [_] (by simp)
  have hb0 : Blk w5 w.heap.size 3 [.int .i64 0] := by rw [← HW5.out]; exact ((Blk.new w 3 [_]).alloc _).alloc _
  have hbw : Below w.heap.size w w5 := by rw [← HW5.out]; exact (bel_alloc (bel_alloc (bel_alloc bel_refl))).below
  have hz5 : w5.heap.size = w.heap.size + 3 := by rw [← HW5.out]; simp
  have HGV := Lib.hid (chunk_gives 8 hb1 hb2 hc hm (Kp := KpB (w.heap.size + 1) (w.heap.size + 1 + 1)) (fun h => h))
  have HB0 := Lib.hid hb0
  have HBW := Lib.hid hbw
  clear hb1 hb2 hb0 hbw HW5
  refine (wpIn_wide (n := 9)).1 ?_
  refine wpIn_range_b (P := Try.prog) (n := 9) (gf := 64) (lb := #[.pointer (some ⟨w.heap.size + 1, 0, none⟩), .pointer (some ⟨w.heap.size + 1 + 1, 0, none⟩)]) rfl (enters_of Try.func64 (by kernel_rfl) rfl)
    HGV.out (fun h h' => KpB.trans h h') (fun W l o o' hl h h1 _ => KpB.put W l o o' (by omega) (by omega) h) (Below.refl _ _) (fun _ => rfl)
    (SmI bs w5 w.heap.size) (fun _ _ _ => False) (smI_stable (by omega)) (fun _ _ _ _ h _ => h) ⟨HB0.out, Below.refl _ _⟩
    ?a1 (fun _ W => W) (fun _ _ => Below.refl _ _) (fun _ _ _ => KpB.refl _) ?assign ?body ?done (fun _ _ _ _ _ _ h _ => h.elim)
  case assign =>
    intro l x W K hK
    simp only [chE, List.zip_toArray, List.zip_cons_cons, List.zip_nil_right, List.foldl_toArray, List.foldl_cons, List.foldl_nil, List.setIfInBounds_toArray, List.set_cons_succ, List.set_cons_zero]
    gi_wp2
    exact hK
  case body =>
    rintro l0 pre k W Wb hl0 hrec hge hsb hcells ⟨hkb, hbw⟩ ⟨hk, hlt⟩
    obtain ⟨y, hy⟩ : ∃ y, sumN bs k = y := ⟨_, rfl⟩
    have hyb := sumN_bd bs k
    rw [hy] at hyb
    obtain ⟨y0, y1⟩ := hyb
    rw [← hk, hy] at hkb
    have c3 : Wb.cell? ⟨w.heap.size, 0, none⟩ = some (.int .i64 y) := hkb.cell 0
    have f3 := hkb.frozen 0
    have l3 := hkb.lt
    have HKB := Lib.hid hkb
    have HWB := Lib.hid hbw
    have HK := Lib.hid hk
    have HY := Lib.hid hy
    obtain ⟨en, hen⟩ : ∃ en : Nat, min 4 (n - 4 * k) = en := ⟨_, rfl⟩
    rw [hen]
    clear hrec hcells hkb hbw hk hy
    gi_wp2
    gi_loopg [5, 10] 4 (fun r s5 s10 wq => ∃ (q z : Nat), q ≤ 4 ∧ 4 - q = r ∧ s5 = .int .i64 z ∧ s10 = .int .i64 q ∧ Hid (parA bs (4 * k) q = z) ∧ wq = Wb)
    case atStart => exact ⟨0, 0, by omega, rfl, rfl, rfl, Lib.hid rfl, rfl⟩
    case round =>
      obtain ⟨q, z, hq, hr, rfl, rfl, HZ, rfl⟩ := hrel
      have HR := Lib.hid hr
      clear hr
      by_cases hq4 : q < 4
      · have e1 : decide ((q : Int) < 4) = true := by simp; omega
        have hzb := parA_bd bs (4 * k) q (by omega)
        rw [HZ.out] at hzb
        obtain ⟨z0, z1⟩ := hzb
        by_cases hin : q < en
        · have e2 : decide ((q : Int) < en) = true := by simp; omega
          obtain ⟨u, hu⟩ := get_some' (l := bs) (k := 4 * k + q) (by rw [HN.out]; omega)
          obtain ⟨b, o, rfl, hb, hc'⟩ := sl_byte H.out hu
          have hub := u.toNat_lt
          have hc2 : wr.cell? ⟨b, o + 4 * k + q, none⟩ = some (.int .u8 u.toNat) := by
            rw [Nat.add_assoc]
            have h1 := (HBW.out.trans (HWB.out.mono (Nat.le_refl _))).cell (p := ⟨b, o + (4 * k + q), none⟩) hb
            rw [h1]
            exact hc'
          have hlr : b < wr.heap.size := by have := HWB.out.size; omega
          have hor := or_next z u.toNat (by omega) (by omega)
          have HN2 : Hid (parA bs (4 * k) (q + 1) = ((z * 256 + u.toNat : Nat) : Int)) := Lib.hid (by
            show parA bs (4 * k) q * 256 + byA bs (4 * k + q) = _
            rw [HZ.out, byA_at hu]
            omega)
          clear hu hc'
          simp only [Option.map_some]
          gi_wp2
          gi_roundg (4 - (q + 1))
          case rel => exact ⟨q + 1, z * 256 + u.toNat, by omega, rfl, by go_num, by go_num, HN2, rfl⟩
          case measure => have := HR.out; omega
        · have e2 : decide ((q : Int) < en) = false := by simp; omega
          have HN2 : Hid (parA bs (4 * k) (q + 1) = ((z * 256 : Nat) : Int)) := Lib.hid (by
            show parA bs (4 * k) q * 256 + byA bs (4 * k + q) = _
            rw [HZ.out, byA_out (by rw [HN.out]; omega)]
            omega)
          gi_wp2
          gi_roundg (4 - (q + 1))
          case rel => exact ⟨q + 1, z * 256, by omega, rfl, by go_num, by go_num, HN2, rfl⟩
          case measure => have := HR.out; omega
      · obtain rfl : q = 4 := by omega
        have hz2 := HZ.out
        rw [parA_four] at hz2
        have hzb := wdA_bd bs (4 * k)
        rw [hz2] at hzb
        obtain ⟨z0, z1⟩ := hzb
        have hst : sumN bs (k + 1) = (y + z) % 4294967296 := by
          show (sumN bs k + wdA bs (4 * k)) % 4294967296 = _
          rw [HY.out, hz2]
        have HST := Lib.hid hst
        clear hz2 hst
        gi_wp2
        refine ⟨KeepsOthers.setCell _ _ _, (KpB.refl _).set (by simp) (by simp; omega) _, ?_, HWB.out.setCell (Nat.le_refl _) _⟩
        rw [List.length_append, ← HK.out]
        show Blk _ w.heap.size 3 [.int .i64 (sumN bs (k + 1))]
        rw [HST.out]
        exact HKB.out.set 0 _
  case' done =>
    intro D xs W hD hS hI hDW
    obtain ⟨hkb, hbw⟩ := hI
    rw [sumN_all (by rw [HN.out]; exact hS)] at hkb
    have c3 : W.cell? ⟨w.heap.size, 0, none⟩ = some (.int .i64 (sumS bs)) := hkb.cell 0
    have l3 := hkb.lt
    have HWB := Lib.hid hbw
    have HD := Lib.hid hDW
    clear hS hkb hbw hDW
    go_wp2_with fail
    have hpb : Below w.heap.size W (W.putObj D (.deferred none)) := belowK_b (w := w) (Nat.le_refl _) _ D _ _ (by omega) HD.out rfl rfl
    refine ⟨by simp, .inl ⟨_, _, rfl, run_takeDeferred HD.out, ?_⟩⟩
    refine ⟨.int .i64 (sumS bs), ?_, rfl, HBW.out.trans (HWB.out.trans hpb)⟩
    simp [results, Try.f15, go_sem]
end Go.Proofs.Ytejombofjakllaa

namespace Go.Proofs.Ytejombofjakllaa
open Go.RowKit Go.Shelf

theorem ver_cases (v : Int) : ((v == 65536) = true ∧ verB v = true) ∨ ((v == 65536) = false ∧ (v == 1953658213) = true ∧ verB v = true) ∨ ((v == 65536) = false ∧ (v == 1953658213) = false ∧ (v == 1330926671) = true ∧ verB v = true) ∨ ((v == 65536) = false ∧ (v == 1953658213) = false ∧ (v == 1330926671) = false ∧ verB v = false) := by
  unfold verB
  simp only [beq_iff_eq, beq_eq_false_iff_ne, decide_eq_true_eq, decide_eq_false_iff_not]
  omega
theorem isVersion_any (v : Int) (w : World) : Calls Try.prog 38 #[.int .i64 v] w fun e w' => e = .returned (.bool (verB v)) ∧ w = w' := by
  rcases ver_cases v with ⟨e0, hv⟩ | ⟨e0, e4, hv⟩ | ⟨e0, e4, e6, hv⟩ | ⟨e0, e4, e6, hv⟩
  all_goals
    rw [hv]
    clear hv
    go_enter Try.func38, Try.ntmps38
    go_wp2_with fail
    go_ret
    exact ⟨rfl, rfl⟩
theorem rVersion_any (v : Int) (w : World) : Calls Try.prog 31 #[.int .i64 v] w fun e w' => e = .returned (.bool (verB v)) ∧ w = w' := by
  rcases ver_cases v with ⟨e0, hv⟩ | ⟨e0, e4, hv⟩ | ⟨e0, e4, e6, hv⟩ | ⟨e0, e4, e6, hv⟩
  all_goals
    rw [hv]
    clear hv
    go_enter Try.func31, Try.ntmps31
    go_wp2_with fail
    go_ret
    exact ⟨rfl, rfl⟩
theorem up_any (n : Nat) (hn : n ≤ 140737488355328) (w : World) : Calls Try.prog 44 #[.int .i64 n] w fun e w' => e = .returned (.int .i64 (upN n : Nat)) ∧ w = w' := by
  have h : (((upN n : Nat)) : Int) = ((n : Int) + 3) / 4 * 4 := by unfold upN; omega
  rw [h]
  clear h
  go_enter Try.func44, Try.ntmps44
  go_wp2_with fail
  go_ret
  exact ⟨by simp; omega, rfl⟩
theorem rup_any (n : Nat) (hn : n ≤ 140737488355328) (w : World) : Calls Try.prog 32 #[.int .i64 n] w fun e w' => e = .returned (.int .i64 (upN n : Nat)) ∧ w = w' := by
  have h : (((upN n : Nat)) : Int) = ((n : Int) + 3) / 4 * 4 := by unfold upN; omega
  rw [h]
  clear h
  go_enter Try.func32, Try.ntmps32
  go_wp2_with fail
  go_ret
  exact ⟨by simp, rfl⟩
/-- What slices.Clone of bytes makes. -/
def ClB (n : Nat) (bs : List UInt8) (w : World) (e : Ending) (w' : World) : Prop := ∃ A' c', e = .returned (.slice A' n c') ∧ n ≤ c' ∧ (0 < n → ∃ g, A' = some ⟨g, 0, none⟩ ∧ w.heap.size ≤ g ∧ Byt w' g bs) ∧ (∀ k, rowOf A' = some k → w.heap.size ≤ k ∧ k < w'.heap.size) ∧ SlAt w' A' n (bs.map byteV) ∧ Below w.heap.size w w'
set_option maxHeartbeats 1000000 in
theorem clone_cl {w : World} {A : Option Addr} {n c : Nat} {bs : List UInt8} (h : SlAt w A n (bs.map byteV)) (hn : n ≤ 140737488355328) : Calls Try.prog 42 #[.slice A n c] w (ClB n bs w) := by
  obtain ⟨i0, hi0, hz0, hz1, hz2⟩ := info_parts u8_info
  rcases A with _ | a
  · have hn0 : n = 0 := by
      rcases Nat.eq_zero_or_pos n with h0 | h0
      · exact h0
      · obtain ⟨b, o, hA, _⟩ := h.2 0 h0
        cases hA
    subst hn0
    have HS := Lib.hid h
    clear h
    go_enter Try.func42, Try.ntmps42
    go_wp2
    go_ret
    exact ⟨none, 0, rfl, Nat.le_refl _, fun h => by omega, (by intro k hk; cases hk), HS.out, bel_refl.below⟩
  · have HS := Lib.hid h
    clear h
    go_enter Try.func42, Try.ntmps42
    have HR := Lib.hid ((HS.out.keep (w' := w.alloc (.cells #[] 5)) (bel_alloc bel_refl).below).reads)
    go_wp2_with (at_builtin; refine wpList_append_any _ (by rfl) (.tmp 5) (.tmp 6) _ (by rfl) w.heap.size 5 i0 _ 1 1 Try.underlying25 hi0 hz0 hz1 hz2 rfl (by omega) _ 0 [] (by rfl) (own_empty w _) _ _ _ _ _ (by rfl) HR.out (bytes_one _) (by unfold maxLen; omega) (by omega) (by simp) ?_; intro v' w' hown hgrow hat)
    have hlt := own_lt hown
    rw [Nat.zero_add, List.nil_append] at hown
    obtain ⟨A', c', rfl, hs, hge, hcap⟩ := of_ownC hown
    rw [ownBlock_slice] at hlt
    go_ret
    refine ⟨A', c', rfl, hcap, fun h0 => ?_, fun k hk => hlt k hk, hs, (bel_alloc bel_refl).below.trans ⟨hgrow.os, hgrow.tape, hgrow.output, hgrow.size, fun k hk => hgrow.block k (by simp; omega) (by simp [Value.ownBlock]; omega)⟩⟩
    obtain ⟨g, hA, h1, h2, h3, h4⟩ := byt_own hown (fun e => by subst e; obtain ⟨_, _, h5, _⟩ := hs.2 0 h0; cases h5)
    exact ⟨g, hA, h1, h2⟩
theorem set4 (bs : List UInt8) (h : 12 ≤ bs.length) : (((bs.set 8 0).set 9 0).set 10 0).set 11 0 = bs.take 8 ++ [0, 0, 0, 0] ++ bs.drop 12 := by
  apply List.ext_getElem?
  intro i
  rcases Nat.lt_or_ge i 8 with h1 | h1
  · rw [List.getElem?_set_ne (by omega), List.getElem?_set_ne (by omega), List.getElem?_set_ne (by omega), List.getElem?_set_ne (by omega), List.getElem?_append_left (by simp; omega), List.getElem?_append_left (by simp; omega), List.getElem?_take, if_pos h1]
  · rcases Nat.lt_or_ge i 12 with h2 | h2
    · rw [List.getElem?_append_left (by simp; omega), List.getElem?_append_right (by simp; omega)]
      rw [show (bs.take 8).length = 8 by simp; omega]
      have hi : i = 8 ∨ i = 9 ∨ i = 10 ∨ i = 11 := by omega
      rcases hi with rfl | rfl | rfl | rfl
      · rw [List.getElem?_set_ne (by omega), List.getElem?_set_ne (by omega), List.getElem?_set_ne (by omega), List.getElem?_set_self (by omega)]; rfl
      · rw [List.getElem?_set_ne (by omega), List.getElem?_set_ne (by omega), List.getElem?_set_self (by simp; omega)]; rfl
      · rw [List.getElem?_set_ne (by omega), List.getElem?_set_self (by simp; omega)]; rfl
      · rw [List.getElem?_set_self (by simp; omega)]; rfl
    · rw [List.getElem?_set_ne (by omega), List.getElem?_set_ne (by omega), List.getElem?_set_ne (by omega), List.getElem?_set_ne (by omega), List.getElem?_append_right (by simp; omega), List.getElem?_drop]
      congr 1
      simp
      omega
theorem run_clear4 {w : World} {g : Nat} {bs : List UInt8} (h : Byt w g bs) (hl : 12 ≤ bs.length) (ty : TypeId) (c : Nat) : ∃ w', (Builtin.clear_ #[25] ty #[.slice (some ⟨g, 8, none⟩) 4 c]).run Try.prog w = .ok (.tuple #[]) w' ∧ Byt w' g (bs.take 8 ++ [0, 0, 0, 0] ++ bs.drop 12) ∧ Below g w w' ∧ w'.heap.size = w.heap.size := by
  have b1 := h.set 8 0 (by omega)
  have b2 := b1.set 9 0 (by simp; omega)
  have b3 := b2.set 10 0 (by simp; omega)
  have b4 := b3.set 11 0 (by simp; omega)
  rw [set4 bs hl] at b4
  refine ⟨_, ?_, b4, ((((Below.refl g w).setCell (p := ⟨g, 8, none⟩) (Nat.le_refl _) _).setCell (p := ⟨g, 9, none⟩) (Nat.le_refl _) _).setCell (p := ⟨g, 10, none⟩) (Nat.le_refl _) _).setCell (p := ⟨g, 11, none⟩) (Nat.le_refl _) _, by simp⟩
  have hx : ∀ k, k < 4 → (w.cell? ⟨g, 8 + k, none⟩).isSome = true := fun k hk => by rw [h.cell (8 + k) (by omega)]; rfl
  exact Lib.run_clear_slice w 25 5 ty (.int .u8 0) Try.underlying25 Try.zeroValue5 rfl rfl g 8 4 c (by omega) hx (fun k _ => h.frozen (8 + k))
set_option maxRecDepth 20000 in
set_option maxHeartbeats 2000000 in
theorem plain_any {w : World} {A : Option Addr} {n c : Nat} (t : List UInt8) {bs : List UInt8} (h : SlAt w A n (bs.map byteV)) (hl : bs.length = n) (hn : n ≤ 140737488355328) : Calls Try.prog 27 #[.string (strB t), .slice A n c] w (ClB n (plainS (t, bs)) w) := by
  have HC := Lib.hid (clone_cl (c := c) h hn)
  clear h
  obtain ⟨s, hs⟩ : ∃ s, strB t = s := ⟨_, rfl⟩
  have hts : s.toList = t := by rw [← hs]; exact strB_toList t
  rw [hs]
  by_cases hh : t = headT ∧ 12 ≤ n
  · have hps : plainS (t, bs) = bs.take 8 ++ [0, 0, 0, 0] ++ bs.drop 12 := by
      unfold plainS
      rw [if_pos ⟨hh.1, by rw [hl]; exact hh.2⟩]
    obtain ⟨h1, h2⟩ := hh
    have e1 : (s.toList == [104, 101, 97, 100]) = true := by rw [hts, h1]; rfl
    have e2 : decide ((12 : Int) ≤ n) = true := by simp; omega
    have HP := Lib.hid hps
    clear hps h1 hts hs
    go_enter Try.func27, Try.ntmps27
    go_wp2_with (first
      | (go_at_call 42; (with_reducible refine HC.out.mono ?_); rintro e w1 ⟨A1, c1, rfl, hc1, hby, hrw, hsl, hb1⟩; obtain ⟨g, rfl, hg, hbt⟩ := hby (by omega); obtain ⟨w2, hcl, hb2, hbw2, hz2⟩ := run_clear4 hbt (by omega) 0 (c1 - 8); have HB2 := Lib.hid hb2; have HB1 := Lib.hid (hb1.trans (hbw2.mono hg)); clear hby hrw hsl hb1 hbt hb2 hbw2)
      | fail)
    go_ret
    have hr : ((List.take 8 bs ++ [0, 0, 0, 0] ++ List.drop 12 bs).length) = n := by simp; omega
    refine ⟨some ⟨g, 0, none⟩, c1, rfl, hc1, fun _ => ⟨g, rfl, hg, by rw [HP.out]; exact HB2.out⟩, fun k hk => ?_, by rw [HP.out, ← hr]; exact HB2.out.sl, HB1.out⟩
    simp [rowOf] at hk
    subst hk
    exact ⟨hg, HB2.out.lt⟩
  · have hps : plainS (t, bs) = bs := by
      unfold plainS
      rw [if_neg (by rw [hl]; exact hh)]
    have hcs : (s.toList == [104, 101, 97, 100]) = false ∨ ((s.toList == [104, 101, 97, 100]) = true ∧ decide ((12 : Int) ≤ n) = false) := by
      rw [hts]
      by_cases h1 : t = headT
      · right
        have h2 : ¬ 12 ≤ n := fun h2 => hh ⟨h1, h2⟩
        exact ⟨by rw [h1]; rfl, by simp; omega⟩
      · left
        exact beq_eq_false_iff_ne.2 h1
    have HP := Lib.hid hps
    clear hps hts hs hh
    rcases hcs with e1 | ⟨e1, e2⟩
    all_goals
      go_enter Try.func27, Try.ntmps27
      go_wp2_with (first
        | (go_at_call 42; (with_reducible refine HC.out.mono ?_); rintro e w1 ⟨A1, c1, rfl, hc1, hrest⟩; have HRE := Lib.hid hrest; clear hrest)
        | fail)
      go_ret
      exact ⟨_, _, rfl, hc1, by rw [HP.out]; exact HRE.out⟩
end Go.Proofs.Ytejombofjakllaa

namespace Go.Proofs.Ytejombofjakllaa
open Go.RowKit Go.Shelf

def zer (bs : List UInt8) : Nat → List UInt8
  | 0 => bs
  | k + 1 => (zer bs k).set (8 + k) 0
theorem zer_len (bs : List UInt8) : ∀ k, (zer bs k).length = bs.length
  | 0 => rfl
  | k + 1 => by unfold zer; rw [List.length_set, zer_len bs k]
set_option maxRecDepth 20000 in
set_option maxHeartbeats 2000000 in
theorem rplain_any {w : World} {A : Option Addr} {n c : Nat} (t : List UInt8) {bs : List UInt8} (h : SlAt w A n (bs.map byteV)) (hl : bs.length = n) (hn : n ≤ 140737488355328) : Calls Try.prog 53 #[.string (strB t), .slice A n c] w (ClB n (plainS (t, bs)) w) := by
  obtain ⟨i0, hi0, hz0, hz1, hz2⟩ := info_parts u8_info
  have HS := Lib.hid h
  have HR := Lib.hid ((h.keep (w' := w.alloc (.cells #[] 5)) (bel_alloc bel_refl).below).reads)
  have hown : ∀ (v : Value) (w1 : World), w1.ownsRow w.heap.size 5 1 v (0 + n) ([] ++ bs.map byteV) → (w.alloc (.cells #[] 5)).grownBy w1 (Value.slice (some ⟨w.heap.size, 0, none⟩) 0 0).ownBlock → ClB n bs w (.returned v) w1 := fun v w1 hown hgrow => by
    rw [Nat.zero_add, List.nil_append] at hown
    have hlt := own_lt hown
    obtain ⟨A', c', rfl, hs, hge, hcap⟩ := of_ownC hown
    rw [ownBlock_slice] at hlt
    refine ⟨A', c', rfl, hcap, fun h0 => ?_, fun k hk => hlt k hk, hs, (bel_alloc bel_refl).below.trans ⟨hgrow.os, hgrow.tape, hgrow.output, hgrow.size, fun k hk => hgrow.block k (by simp; omega) (by simp [Value.ownBlock]; omega)⟩⟩
    obtain ⟨g, hA, h1, h2, h3, h4⟩ := byt_own hown (fun e => by subst e; obtain ⟨_, _, h5, _⟩ := hs.2 0 h0; cases h5)
    exact ⟨g, hA, h1, h2⟩
  have HO := Lib.hid hown
  clear h hown
  obtain ⟨s, hs⟩ : ∃ s, strB t = s := ⟨_, rfl⟩
  have hts : s.toList = t := by rw [← hs]; exact strB_toList t
  rw [hs]
  by_cases hh : t = headT ∧ 12 ≤ n
  · have hps : plainS (t, bs) = zer bs 4 := by
      show (if _ then bs.take 8 ++ [0, 0, 0, 0] ++ bs.drop 12 else bs) = _
      rw [if_pos ⟨hh.1, by rw [hl]; exact hh.2⟩, ← set4 bs (by omega)]
      rfl
    obtain ⟨h1, h2⟩ := hh
    have e1 : (s.toList == [104, 101, 97, 100]) = true := by rw [hts, h1]; rfl
    have e2 : decide ((12 : Int) ≤ n) = true := by simp; omega
    have HP := Lib.hid hps
    clear hps h1 hts hs
    go_enter Try.func53, Try.ntmps53
    go_wp2_with (first
      | (at_builtin; refine wpList_append_any _ (by rfl) (.tmp 7) (.tmp 8) _ (by rfl) w.heap.size 5 i0 _ 1 1 Try.underlying25 hi0 hz0 hz1 hz2 rfl (by omega) _ 0 [] (by rfl) (own_empty w _) _ _ n _ _ (by rfl) HR.out (bytes_one _) (by unfold maxLen; omega) (by omega) (by simp) ?_; intro v' w1 hown hgrow hat; obtain ⟨A1, c1, hv, hc1, hby, hrw, hsl, hb1⟩ := HO.out _ _ hown hgrow; injection hv with hv; subst hv; obtain ⟨g, rfl, hg, hbt⟩ := hby (by omega); have HBT := Lib.hid hbt; have HB1 := Lib.hid hb1; clear hby hrw hsl hb1 hbt hown hgrow hat)
      | fail)
    go_loopw [6] (fun i wr => ∃ k : Nat, k ≤ 4 ∧ i = .int .i64 (8 + (k : Int)) ∧ Hid (Byt wr g (zer bs k)) ∧ Hid (Below w.heap.size w wr)) (fun i _ => 12 - (intOf i).toNat)
    case atStart => exact ⟨0, by omega, rfl, HBT, HB1⟩
    case round =>
      obtain ⟨k, hk, rfl, HBK, HBW⟩ := hrel
      by_cases hlt : k < 4
      · have d1 : decide (8 + (k : Int) < 12) = true := by simp; omega
        have hzl : (zer bs k).length = n := by rw [zer_len]; exact hl
        have c0 := HBK.out.cell (8 + k) (by omega)
        have f0 := HBK.out.frozen (8 + k)
        have l0 := HBK.out.lt
        have hst := HBK.out.set (8 + k) 0 (by omega)
        have HST : Hid (Byt (wr.setCell ⟨g, 8 + k, none⟩ (.int .u8 0)) g (zer bs (k + 1))) := Lib.hid hst
        have d2 : decide (8 + (k : Int) < n) = true := by simp; omega
        clear hst hzl
        obtain ⟨ix, hix⟩ : ∃ ix : Nat, 8 + k = ix := ⟨_, rfl⟩
        have hxi : 8 + (k : Int) = ix := by omega
        rw [hix] at c0 f0 HST
        go_wp2_with fail
        go_roundw
        case rel => exact ⟨k + 1, by omega, by rw [← hxi]; go_num, HST, Lib.hid (HBW.out.setCell hg _)⟩
        case measure => simp [intOf]; omega
      · obtain rfl : k = 4 := by omega
        have d1 : decide (8 + ((4 : Nat) : Int) < 12) = false := by simp
        have hr : (zer bs 4).length = n := by rw [zer_len]; exact hl
        go_wp2_with fail
        go_ret
        refine ⟨some ⟨g, 0, none⟩, c1, rfl, hc1, fun _ => ⟨g, rfl, hg, by rw [HP.out]; exact HBK.out⟩, fun k hk => ?_, by rw [HP.out, ← hr]; exact HBK.out.sl, HBW.out⟩
        simp [rowOf] at hk
        subst hk
        exact ⟨hg, HBK.out.lt⟩
  · have hps : plainS (t, bs) = bs := by
      unfold plainS
      rw [if_neg (by rw [hl]; exact hh)]
    have hcs : (s.toList == [104, 101, 97, 100]) = false ∨ ((s.toList == [104, 101, 97, 100]) = true ∧ decide ((12 : Int) ≤ n) = false) := by
      rw [hts]
      by_cases h1 : t = headT
      · right
        have h2 : ¬ 12 ≤ n := fun h2 => hh ⟨h1, h2⟩
        exact ⟨by rw [h1]; rfl, by simp; omega⟩
      · left
        exact beq_eq_false_iff_ne.2 h1
    have HP := Lib.hid hps
    clear hps hts hs hh
    rcases hcs with e1 | ⟨e1, e2⟩
    all_goals
      go_enter Try.func53, Try.ntmps53
      go_wp2_with (first
        | (at_builtin; refine wpList_append_any _ (by rfl) (.tmp 7) (.tmp 8) _ (by rfl) w.heap.size 5 i0 _ 1 1 Try.underlying25 hi0 hz0 hz1 hz2 rfl (by omega) _ 0 [] (by rfl) (own_empty w _) _ _ n _ _ (by rfl) HR.out (bytes_one _) (by unfold maxLen; omega) (by omega) (by simp) ?_; intro v' w1 hown hgrow hat; obtain ⟨A1, c1, hv, hc1, hrest⟩ := HO.out _ _ hown hgrow; injection hv with hv; subst hv; have HRE := Lib.hid hrest; clear hrest hown hgrow hat)
        | fail)
      go_ret
      exact ⟨_, _, rfl, hc1, by rw [HP.out]; exact HRE.out⟩
end Go.Proofs.Ytejombofjakllaa

namespace Go.Proofs.Ytejombofjakllaa
open Go.RowKit Go.Maps

/-- A blob in memory. -/
structure Bm where
  t : List UInt8
  A : Option Addr
  c : Nat
  d : List UInt8
def bmC (v : Bm) : List Value := [.string (strB v.t), .slice v.A v.d.length v.c]
def bmS (v : Bm) : Bl := (v.t, v.d)
structure BlL (w : World) (A : Option Addr) (n : Nat) (es : List Bm) : Prop where
  rows : RowsAt w A n 2 (es.map bmC)
  data : ∀ v ∈ es, SlAt w v.A v.d.length (v.d.map byteV)
  cap : ∀ v ∈ es, v.d.length ≤ v.c
  small : ∀ v ∈ es, v.d.length ≤ 140737488355328 ∧ v.t.length ≤ 140737488355328
section
variable {w w' : World} {A : Option Addr} {n : Nat} {es : List Bm}
theorem BlL.keep (h : BlL w A n es) (hb : Below w.heap.size w w') : BlL w' A n es := ⟨h.rows.keep hb, fun v hv => (h.data v hv).keep hb, h.cap, h.small⟩
theorem BlL.len (h : BlL w A n es) : es.length = n := by have := h.rows.len; simpa using this
theorem BlL.at_ (h : BlL w A n es) {k : Nat} {v : Bm} (hv : es[k]? = some v) : ∃ b o, A = some ⟨b, o, none⟩ ∧ b < w.heap.size ∧ w.cell? ⟨b, o + k * 2, none⟩ = some (.string (strB v.t)) ∧ w.cell? ⟨b, o + k * 2 + 1, none⟩ = some (.slice v.A v.d.length v.c) := by
  obtain ⟨b, o, hA, hb, hc⟩ := h.rows.at_ (i := k) (r := bmC v) (by rw [List.getElem?_map, hv]; rfl)
  exact ⟨b, o, hA, hb, hc 0 _ rfl, hc 1 _ rfl⟩
end
/-! ### The tags that were seen -/
theorem tag_law : Keyed Try.prog 9 := string_keyed Try.underlying9
def tagLit (t : List UInt8) : Lit := .string (strB t).data.toList
theorem tagLit_inj {a b : List UInt8} (h : tagLit a = tagLit b) : a = b := by
  unfold tagLit strB at h
  injection h with h
theorem tag_key {t : List UInt8} (h : t.length ≤ 140737488355328) : keyOf Try.prog 9 (.string (strB t)) = some (tagLit t) := Go.WideMaps.keyOf_string_mk Try.underlying9 (by rw [strB_size]; unfold maxLen; omega)
def seenD : List (List UInt8) → DataW Unit
  | [] => .map []
  | t :: r => (seenD r).put (tagLit t) (.lit (.bool true))
theorem seen_map : ∀ r, IsMap (seenD r)
  | [] => isMap_empty
  | t :: r => by
    obtain ⟨es, he⟩ := seen_map r
    unfold seenD
    rw [he, DataW.put_eq]
    exact ⟨_, rfl⟩
theorem seen_at (t : List UInt8) : ∀ r, (seenD r).atKey (tagLit t) (.lit (.bool false)) = .lit (.bool (decide (t ∈ r)))
  | [] => by simp [seenD, DataW.atKey]
  | u :: r => by
    unfold seenD
    by_cases h : t = u
    · subst h
      rw [atKey_put_same (seen_map r) (show WideAt.IsKeyLit (tagLit t) from trivial)]
      simp
    · rw [atKey_put_other (fun e => h (tagLit_inj e)), seen_at t r]
      simp [h]
set_option maxRecDepth 20000 in
/-- seen[tag] -/
theorem seen_look {w : World} {b n : Nat} {r : List (List UInt8)} {t : List UInt8} (h : w.ownsMap Try.prog 9 (plainElem (H := Unit) Try.prog 4) b n (seenD r)) (ht : t.length ≤ 140737488355328) :
    (Instr.lookup 70 (.map (some b)) (.string (strB t)) false).run Try.prog w = .ok (.bool (decide (t ∈ r))) w := by
  obtain ⟨v, ps, hrun, hv⟩ := h.lookup tag_law Try.underlying70 (Try.zeroValue4 w) (plainElem_bool Try.underlying4 false) (tag_key ht)
  rw [seen_at] at hv
  have hvb : v = .bool (decide (t ∈ r)) := by
    unfold plainElem at hv
    rw [Try.underlying4] at hv
    cases v <;> simp at hv
    obtain ⟨h1, _⟩ := hv
    rw [h1]
  rw [hrun, hvb]
end Go.Proofs.Ytejombofjakllaa

namespace Go.Proofs.Ytejombofjakllaa
open Go.RowKit Go.Maps

theorem bm_take {es : List Bm} {k : Nat} {v : Bm} (h : es[k]? = some v) : (es.map bmS).take (k + 1) = (es.map bmS).take k ++ [bmS v] := take_snoc' (by rw [List.getElem?_map, h]; rfl)
/-- What is known behind k tables. -/
structure CkI (l : List Bl) (s0 k sz : Nat) (tw lg : Bool) : Prop where
  tags : ∀ t ∈ l.take k, isTagB t.1 = true
  tw : tw = true ↔ ¬ ((l.take k).map Prod.fst).Nodup
  lg0 : lg = false → sz = s0 + totS (l.take k)
  lg1 : lg = true → 1048576 < s0 + totS (l.take k)
  bd : sz ≤ 1048579
theorem ckI_zero {l : List Bl} {s0 : Nat} (h : s0 ≤ 1048579) : CkI l s0 0 s0 false false := ⟨fun t ht => by simp at ht, by simp, fun _ => by simp [totS], fun h => (by cases h), h⟩
theorem ckI_next {l : List Bl} {s0 k sz : Nat} {tw lg : Bool} {t : Bl} (h : CkI l s0 k sz tw lg) (ht : l[k]? = some t) (hg : isTagB t.1 = true) :
    CkI l s0 (k + 1) (if lg = true ∨ (1048576 : Int) - sz < t.2.length then sz else sz + upN t.2.length) (tw || decide (t.1 ∈ (l.take k).map Prod.fst)) (lg || decide ((1048576 : Int) - sz < t.2.length)) := by
  have hs := take_snoc' ht
  have hu := upN_ge t.2.length
  have htot : totS (l.take (k + 1)) = totS (l.take k) + upN t.2.length := by rw [hs, totS_append]; simp [totS]
  refine ⟨fun x hx => ?_, ?_, fun hl => ?_, fun hl => ?_, ?_⟩
  · rw [hs] at hx
    rcases List.mem_append.1 hx with hx | hx
    · exact h.tags x hx
    · simp at hx
      subst hx
      exact hg
  · rw [hs, List.map_append, List.nodup_append]
    have := h.tw
    cases tw
    · simp at this
      simp [this]
    · simp at this
      simp [this]
  · simp only [Bool.or_eq_false_iff, decide_eq_false_iff_not] at hl
    obtain ⟨h1, h2⟩ := hl
    rw [if_neg (by rw [h1]; simp; omega), h.lg0 h1, htot, Nat.add_assoc]
  · simp only [Bool.or_eq_true, decide_eq_true_eq] at hl
    rcases hl with h1 | h1
    · have := h.lg1 h1
      omega
    · cases lg with
      | true => have := h.lg1 rfl; omega
      | false => have := h.lg0 rfl; omega
  · split
    · exact h.bd
    · rename_i h1
      simp only [not_or] at h1
      omega
theorem ckI_end {v : Int} {l : List Bl} {sz : Nat} {tw lg : Bool} (h : CkI l (12 + 16 * l.length) l.length sz tw lg) (hv : verB v = true) (h1 : ¬ (l.length < 1 ∨ 64 < l.length)) :
    (tw = true → chkS v l = 5) ∧ (tw = false → lg = true ∨ 1048576 < sz → chkS v l = 3) ∧ (tw = false → ¬ (lg = true ∨ 1048576 < sz) → chkS v l = 0 ∧ sz = sizeS4 l) := by
  obtain ⟨a1, a2, a3, a4, a5⟩ := h
  rw [List.take_length] at a1 a2 a3 a4
  have hb : l.all (fun t => isTagB t.1) = true := List.all_eq_true.2 a1
  have key : chkS v l = if ¬ (l.map Prod.fst).Nodup then 5 else if 1048576 < sizeS4 l then 3 else 0 := by
    unfold chkS
    rw [if_neg (by rintro (h | h); · rw [hv] at h; cases h
                   · exact h1 h), if_neg (by rw [hb]; simp)]
  refine ⟨fun h => ?_, fun h h2 => ?_, fun h h2 => ?_⟩
  · rw [key, if_pos (a2.1 h)]
  · have hn : (l.map Prod.fst).Nodup := by
      rcases Classical.em (l.map Prod.fst).Nodup with hx | hx
      · exact hx
      · rw [a2.2 hx] at h; cases h
    rw [key, if_neg (by simp [hn]), if_pos]
    unfold sizeS4
    cases lg with
    | true => exact a4 rfl
    | false =>
      have := a3 rfl
      simp at h2
      omega
  · have hn : (l.map Prod.fst).Nodup := by
      rcases Classical.em (l.map Prod.fst).Nodup with hx | hx
      · exact hx
      · rw [a2.2 hx] at h; cases h
    cases lg with
    | true => exact absurd (Or.inl rfl) h2
    | false =>
      have h3 := a3 rfl
      have h4 : ¬ 1048576 < sz := fun h => h2 (.inr h)
      refine ⟨?_, h3⟩
      rw [key, if_neg (by simp [hn]), if_neg]
      unfold sizeS4
      omega
def CkR (v : Int) (l : List Bl) (w : World) (e : Ending) (w' : World) : Prop := e = .returned (.tuple #[.int .i64 (if chkS v l = 0 then (sizeS4 l : Nat) else (0 : Nat) : Nat), .int .i64 (chkS v l)]) ∧ Below w.heap.size w w'
theorem ck_bad {v : Int} {l : List Bl} {w w' : World} {x : Int} (h : chkS v l = x) (hx : x ≠ 0) (hb : Below w.heap.size w w') : CkR v l w (.returned (.tuple #[.int .i64 0, .int .i64 x])) w' := by
  unfold CkR
  rw [h, if_neg hx]
  exact ⟨rfl, hb⟩
theorem ck_ok {v : Int} {l : List Bl} {w w' : World} {sz : Nat} (h : chkS v l = 0) (hx : sz = sizeS4 l) (hb : Below w.heap.size w w') : CkR v l w (.returned (.tuple #[.int .i64 sz, .int .i64 0])) w' := by
  unfold CkR
  rw [h, if_pos rfl, hx]
  exact ⟨rfl, hb⟩
set_option maxRecDepth 100000 in
set_option maxHeartbeats 4000000 in
theorem check_any {w : World} {A : Option Addr} {n c : Nat} {es : List Bm} (v : Int) (h : BlL w A n es) (hm : n ≤ 140737488355328) :
    Calls Try.prog 19 #[.int .i64 v, .slice A n c] w (CkR v (es.map bmS) w) := by
  have hl := h.len
  obtain ⟨l, hll⟩ : ∃ l, es.map bmS = l := ⟨_, rfl⟩
  have hln : l.length = n := by rw [← hll, List.length_map]; exact hl
  rw [hll]
  by_cases hbad : verB v = false ∨ n < 1 ∨ 64 < n
  · have hc : chkS v l = 1 := by unfold chkS; rw [if_pos (by rw [hln]; exact hbad)]
    have HR := Lib.hid fun w' (hb : Below w.heap.size w w') => ck_bad hc (by decide) hb
    have hcs : verB v = false ∨ (verB v = true ∧ decide ((n : Int) < 1) = true) ∨ (verB v = true ∧ decide ((n : Int) < 1) = false ∧ decide ((64 : Int) < n) = true) := by
      cases hvb : verB v
      · exact .inl rfl
      · rw [hvb] at hbad
        simp at hbad ⊢
        omega
    have hvv := isVersion_any v
    clear h hl hll hln hc hbad
    generalize CkR v l w = R at *
    rcases hcs with d0 | ⟨d0, d1⟩ | ⟨d0, d1, d2⟩
    all_goals
      rw [d0] at hvv
      have HV := Lib.hid hvv
      clear hvv d0
      go_enter Try.func19, Try.ntmps19
      go_wp2_with (first
        | (go_at_call 38; (with_reducible refine (HV.out _).mono ?_); rintro e w1 ⟨rfl, rfl⟩)
        | fail)
      exact HR.out _ (Below.refl _ _)
  have hvb : verB v = true := by cases hvb : verB v; exact absurd (.inl hvb) hbad; rfl
  have hvv := isVersion_any v
  rw [hvb] at hvv
  have HV := Lib.hid hvv
  have hn1 : 1 ≤ n ∧ n ≤ 64 := by omega
  obtain ⟨n1, n2⟩ := hn1
  have d1 : decide ((n : Int) < 1) = false := by simp; omega
  have d2 : decide ((64 : Int) < n) = false := by simp; omega
  have HBAD := Lib.hid fun (x : Int) w' (hc : chkS v l = x) (hx : x ≠ 0) (hb : Below w.heap.size w w') => ck_bad hc hx hb
  have HOK := Lib.hid fun (sz : Nat) w' (hc : chkS v l = 0) (hx : sz = sizeS4 l) (hb : Below w.heap.size w w') => ck_ok hc hx hb
  have HVB := Lib.hid hvb
  have HLN := Lib.hid hln
  have HLL := Lib.hid hll
  have H := Lib.hid h
  generalize CkR v l w = R at *
  have hmm := @run_makeMap Try.prog
  clear h hl hvv hvb hln hbad hll
  go_enter Try.func19, Try.ntmps19
  go_wp2_with (first
    | (go_at_call 38; (with_reducible refine (HV.out _).mono ?_); rintro e w1 ⟨rfl, rfl⟩)
    | fail)
  clear d1 d2 HV hmm
  go_loopw [6, 8, 9, 32] (fun s6 s8 s9 s32 wr => ∃ (k sz : Nat) (tw lg : Bool), k ≤ n ∧ s6 = .int .i64 sz ∧ s8 = .bool tw ∧ s9 = .bool lg ∧ s32 = .int .i64 k ∧ Hid (CkI l (12 + 16 * n) k sz tw lg) ∧ Hid (wr.ownsMap Try.prog 9 (plainElem (H := Unit) Try.prog 4) w.heap.size k (seenD ((l.take k).map Prod.fst).reverse)) ∧ Hid (Below w.heap.size w wr)) (fun _ _ _ i _ => n - (intOf i).toNat)
  case atStart => exact ⟨0, 12 + 16 * n, false, false, Nat.zero_le _, by go_num, rfl, rfl, rfl, Lib.hid (ckI_zero (by omega)), Lib.hid (World.ownsMap_made _ _ _ _), Lib.hid (bel_alloc bel_refl).below⟩
  case round =>
    obtain ⟨k, sz, tw, lg, hk, rfl, rfl, rfl, rfl, HC, HMP, HB⟩ := hrel
    by_cases hlt : k < n
    · have hkn : (k : Int) < n := by omega
      obtain ⟨⟨vt, vA, vc, vd⟩, hv⟩ := get_some' (l := es) (k := k) (by rw [H.out.len]; exact hlt)
      obtain ⟨b, o, rfl, hb, hc0, hc1⟩ := H.out.at_ hv
      dsimp only at hc0 hc1
      obtain ⟨hs1, hs2⟩ := H.out.small _ (List.mem_of_getElem? hv)
      dsimp only at hs1 hs2
      have hlk : l[k]? = some (vt, vd) := by rw [← HLL.out, List.getElem?_map, hv]; rfl
      have r0 : wr.cell? ⟨b, o + k * 2, none⟩ = some (.string (strB vt)) := (HB.out.cell (p := ⟨b, o + k * 2, none⟩) hb).trans hc0
      have r1 : wr.cell? ⟨b, o + k * 2 + 1, none⟩ = some (.slice vA vd.length vc) := (HB.out.cell (p := ⟨b, o + k * 2 + 1, none⟩) hb).trans hc1
      have hbl := Nat.lt_of_lt_of_le hb HB.out.size
      obtain ⟨u1, hu1⟩ : ∃ u1, wr.alloc (.cells #[.string (strB vt), .slice vA vd.length vc] 36) = u1 := ⟨_, rfl⟩
      have hbu : Below wr.heap.size wr u1 := by rw [← hu1]; exact (bel_alloc bel_refl).below
      have hbx : Blk u1 wr.heap.size 36 [.string (strB vt), .slice vA vd.length vc] := by rw [← hu1]; exact Blk.new wr _ [_, _]
      have hmu : u1.ownsMap Try.prog 9 (plainElem (H := Unit) Try.prog 4) w.heap.size k (seenD ((l.take k).map Prod.fst).reverse) := by rw [← hu1]; exact HMP.out.alloc _
      have hml := HMP.out.lt
      have HT := Lib.hid (isTag_any vt hs2 u1)
      have HBX := Lib.hid fun (u : World) (hu : Below u1.heap.size u1 u) => hbx.keepB hu
      have HMU := Lib.hid fun (u : World) (hu : Below u1.heap.size u1 u) => hmu.kept (w' := u) (row := none) ⟨hu.os, hu.tape, hu.output, hu.size, fun k hk _ => hu.block k hk⟩ (by simp)
      have HBU := Lib.hid fun (u : World) (hu : Below u1.heap.size u1 u) => HB.out.trans ((hbu.trans (hu.mono hbu.size)).mono HB.out.size)
      have hz1 : u1.heap.size = wr.heap.size + 1 := by rw [← hu1]; simp
      clear hc0 hc1 hbu hbx hmu
      go_upto_region 9 with fail
      clear r0 r1 hu1
      by_cases htag : isTagB vt = true
      case neg =>
        have htag' : isTagB vt = false := by simpa using htag
        have hck : chkS v l = 1 := by
          unfold chkS
          rw [if_neg (by rw [HVB.out, HLN.out]; simp; omega), if_pos]
          rw [List.all_eq_false]
          exact ⟨(vt, vd), List.mem_of_getElem? hlk, by simp [htag']⟩
        rw [htag'] at HT
        have hx := HBX.out u1 (Below.refl _ _)
        have r0 : u1.cell? ⟨wr.heap.size, 0, none⟩ = some (.string (strB vt)) := hx.cell 0
        have lx := hx.lt
        have HR := Lib.hid fun (u : World) (hu : Below u1.heap.size u1 u) => HBAD.out 1 u hck (by decide) (HBU.out u hu)
        clear hck hx HBAD HOK HBX HMU HBU HC HMP HB
        go_wp2_with (first
          | (go_at_call 17; (with_reducible refine HT.out.mono ?_); rintro e w1 ⟨rfl, hb1⟩; have HB1 := Lib.hid hb1; clear hb1)
          | fail)
        exact HR.out _ HB1.out
      case pos =>
      rw [htag] at HT
      have hnx := ckI_next HC.out hlk htag
      dsimp only at hnx
      have hx := HBX.out u1 (Below.refl _ _)
      have r0 : u1.cell? ⟨wr.heap.size, 0, none⟩ = some (.string (strB vt)) := hx.cell 0
      have lx := hx.lt
      have hbd := HC.out.bd
      obtain ⟨dn, hdn⟩ : ∃ dn, vd.length = dn := ⟨_, rfl⟩
      rw [hdn] at hnx hs1 HBX
      obtain ⟨cc, hcc⟩ : ∃ cc, decide (vt ∈ (l.take k).map Prod.fst) = cc := ⟨_, rfl⟩
      rw [hcc] at hnx
      have hlook : ∀ u, Below u1.heap.size u1 u → (Instr.lookup 70 (.map (some w.heap.size)) (.string (strB vt)) false).run Try.prog u = .ok (.bool cc) u := fun u hu => by
        rw [seen_look (HMU.out u hu) hs2, ← hcc]
        simp
      have HLK := Lib.hid hlook
      have HNX := Lib.hid hnx
      have hsd : seenD ((l.take (k + 1)).map Prod.fst).reverse = (seenD ((l.take k).map Prod.fst).reverse).put (tagLit vt) (.lit (.bool true)) := by
        rw [take_snoc' hlk, List.map_append, List.reverse_append]
        rfl
      have HSD := Lib.hid hsd
      have hkey := tag_key hs2
      clear hlook hnx hsd hx hdn hcc hlk hv
      go_upto_region 11 with (first
          | (go_at_call 17; (with_reducible refine HT.out.mono ?_); rintro e w1 ⟨rfl, hb1⟩; have HB1 := Lib.hid hb1; clear hb1)
          | fail)
      have hx1 := HBX.out w1 HB1.out
      have hlk1 := HLK.out w1 HB1.out
      have HM1 := Lib.hid (HMU.out w1 HB1.out)
      have hb1w := HBU.out w1 HB1.out
      have c0 : w1.cell? ⟨wr.heap.size, 0, none⟩ = some (.string (strB vt)) := hx1.cell 0
      have lx1 := hx1.lt
      have hg2 : ∀ w2 : World, w2.ownsMap Try.prog 9 (plainElem (H := Unit) Try.prog 4) w.heap.size (k + 1) ((seenD ((l.take k).map Prod.fst).reverse).put (tagLit vt) (.lit (.bool true))) → w1.grownBy w2 (some w.heap.size) →
          Blk w2 wr.heap.size 36 [.string (strB vt), .slice vA dn vc] ∧ Below w.heap.size w w2 ∧ w2.ownsMap Try.prog 9 (plainElem (H := Unit) Try.prog 4) w.heap.size (k + 1) (seenD ((l.take (k + 1)).map Prod.fst).reverse) := fun w2 ho hg =>
        ⟨(hg.block _ lx1 (by simp; omega)).trans hx1, hb1w.trans ⟨hg.os, hg.tape, hg.output, hg.size, fun j hj => hg.block j (by have := hb1w.size; omega) (by simp; omega)⟩, by rw [HSD.out]; exact ho⟩
      have HG2 := Lib.hid hg2
      have hun := upN_ge dn
      clear hx1 hb1w hg2 HBX HLK HMU HBU HSD HT r0 lx HB1
      cases lg with
      | true =>
        cases tw with
        | true =>
          go_wp2_with (first
          | (at_mapUpdate; refine wpList_mapUpdate_own _ rfl _ _ _ 70 rfl 9 4 tag_law Try.underlying70 (plainElem (H := Unit) Try.prog 4) w.heap.size k _ rfl HM1.out (by unfold maxLen; omega) _ _ _ rfl rfl hkey _ [] (plainElem_bool Try.underlying4 true) ?_; intro w2 hown2 hgrow2; obtain ⟨x2, b2, o2⟩ := HG2.out _ hown2 hgrow2; have q0 : w2.cell? ⟨wr.heap.size, 0, none⟩ = some (.string (strB vt)) := x2.cell 0; have q1 : w2.cell? ⟨wr.heap.size, 1, none⟩ = some (.slice vA dn vc) := x2.cell 1; have ql := x2.lt; have HB2 := Lib.hid b2; have HM2 := Lib.hid o2; clear hown2 hgrow2 x2 b2 o2)
          | (go_at_call 44; (with_reducible refine (up_any dn hs1 _).mono ?_); rintro e w3 ⟨rfl, rfl⟩)
          | fail)
          go_roundw
          case rel => exact ⟨k + 1, sz, true, true, by omega, rfl, rfl, rfl, by go_num, Lib.hid (by have h := HNX.out; simpa using h), HM2, HB2⟩
          case measure => simp [intOf]; omega
        | false =>
          go_wp2_with (first
          | (at_mapUpdate; refine wpList_mapUpdate_own _ rfl _ _ _ 70 rfl 9 4 tag_law Try.underlying70 (plainElem (H := Unit) Try.prog 4) w.heap.size k _ rfl HM1.out (by unfold maxLen; omega) _ _ _ rfl rfl hkey _ [] (plainElem_bool Try.underlying4 true) ?_; intro w2 hown2 hgrow2; obtain ⟨x2, b2, o2⟩ := HG2.out _ hown2 hgrow2; have q0 : w2.cell? ⟨wr.heap.size, 0, none⟩ = some (.string (strB vt)) := x2.cell 0; have q1 : w2.cell? ⟨wr.heap.size, 1, none⟩ = some (.slice vA dn vc) := x2.cell 1; have ql := x2.lt; have HB2 := Lib.hid b2; have HM2 := Lib.hid o2; clear hown2 hgrow2 x2 b2 o2)
          | (go_at_call 44; (with_reducible refine (up_any dn hs1 _).mono ?_); rintro e w3 ⟨rfl, rfl⟩)
          | fail)
          go_roundw
          case rel => exact ⟨k + 1, sz, cc, true, by omega, rfl, rfl, rfl, by go_num, Lib.hid (by have h := HNX.out; simpa using h), HM2, HB2⟩
          case measure => simp [intOf]; omega
      | false =>
        by_cases hlong : (1048576 : Int) - sz < dn
        · have d1 : decide ((1048576 : Int) - sz < dn) = true := by simp; omega
          have hnx := HNX.out
          rw [d1, if_pos (.inr hlong)] at hnx
          have HN2 := Lib.hid hnx
          clear hnx HNX
          cases tw with
          | true =>
            go_wp2_with (first
          | (at_mapUpdate; refine wpList_mapUpdate_own _ rfl _ _ _ 70 rfl 9 4 tag_law Try.underlying70 (plainElem (H := Unit) Try.prog 4) w.heap.size k _ rfl HM1.out (by unfold maxLen; omega) _ _ _ rfl rfl hkey _ [] (plainElem_bool Try.underlying4 true) ?_; intro w2 hown2 hgrow2; obtain ⟨x2, b2, o2⟩ := HG2.out _ hown2 hgrow2; have q0 : w2.cell? ⟨wr.heap.size, 0, none⟩ = some (.string (strB vt)) := x2.cell 0; have q1 : w2.cell? ⟨wr.heap.size, 1, none⟩ = some (.slice vA dn vc) := x2.cell 1; have ql := x2.lt; have HB2 := Lib.hid b2; have HM2 := Lib.hid o2; clear hown2 hgrow2 x2 b2 o2)
          | (go_at_call 44; (with_reducible refine (up_any dn hs1 _).mono ?_); rintro e w3 ⟨rfl, rfl⟩)
          | fail)
            go_roundw
            case rel => exact ⟨k + 1, sz, true, true, by omega, rfl, rfl, rfl, by go_num, Lib.hid (by have h := HN2.out; simpa using h), HM2, HB2⟩
            case measure => simp [intOf]; omega
          | false =>
            go_wp2_with (first
          | (at_mapUpdate; refine wpList_mapUpdate_own _ rfl _ _ _ 70 rfl 9 4 tag_law Try.underlying70 (plainElem (H := Unit) Try.prog 4) w.heap.size k _ rfl HM1.out (by unfold maxLen; omega) _ _ _ rfl rfl hkey _ [] (plainElem_bool Try.underlying4 true) ?_; intro w2 hown2 hgrow2; obtain ⟨x2, b2, o2⟩ := HG2.out _ hown2 hgrow2; have q0 : w2.cell? ⟨wr.heap.size, 0, none⟩ = some (.string (strB vt)) := x2.cell 0; have q1 : w2.cell? ⟨wr.heap.size, 1, none⟩ = some (.slice vA dn vc) := x2.cell 1; have ql := x2.lt; have HB2 := Lib.hid b2; have HM2 := Lib.hid o2; clear hown2 hgrow2 x2 b2 o2)
          | (go_at_call 44; (with_reducible refine (up_any dn hs1 _).mono ?_); rintro e w3 ⟨rfl, rfl⟩)
          | fail)
            go_roundw
            case rel => exact ⟨k + 1, sz, cc, true, by omega, rfl, rfl, rfl, by go_num, Lib.hid (by have h := HN2.out; simpa using h), HM2, HB2⟩
            case measure => simp [intOf]; omega
        · have d1 : decide ((1048576 : Int) - sz < dn) = false := by simp; omega
          have hnx := HNX.out
          rw [d1, if_neg (by simp; omega)] at hnx
          have HN2 := Lib.hid hnx
          clear hnx HNX
          cases tw with
          | true =>
            go_wp2_with (first
          | (at_mapUpdate; refine wpList_mapUpdate_own _ rfl _ _ _ 70 rfl 9 4 tag_law Try.underlying70 (plainElem (H := Unit) Try.prog 4) w.heap.size k _ rfl HM1.out (by unfold maxLen; omega) _ _ _ rfl rfl hkey _ [] (plainElem_bool Try.underlying4 true) ?_; intro w2 hown2 hgrow2; obtain ⟨x2, b2, o2⟩ := HG2.out _ hown2 hgrow2; have q0 : w2.cell? ⟨wr.heap.size, 0, none⟩ = some (.string (strB vt)) := x2.cell 0; have q1 : w2.cell? ⟨wr.heap.size, 1, none⟩ = some (.slice vA dn vc) := x2.cell 1; have ql := x2.lt; have HB2 := Lib.hid b2; have HM2 := Lib.hid o2; clear hown2 hgrow2 x2 b2 o2)
          | (go_at_call 44; (with_reducible refine (up_any dn hs1 _).mono ?_); rintro e w3 ⟨rfl, rfl⟩)
          | fail)
            go_roundw
            case rel => exact ⟨k + 1, sz + upN dn, true, false, by omega, by go_num, rfl, rfl, by go_num, Lib.hid (by have h := HN2.out; simpa using h), HM2, HB2⟩
            case measure => simp [intOf]; omega
          | false =>
            go_wp2_with (first
          | (at_mapUpdate; refine wpList_mapUpdate_own _ rfl _ _ _ 70 rfl 9 4 tag_law Try.underlying70 (plainElem (H := Unit) Try.prog 4) w.heap.size k _ rfl HM1.out (by unfold maxLen; omega) _ _ _ rfl rfl hkey _ [] (plainElem_bool Try.underlying4 true) ?_; intro w2 hown2 hgrow2; obtain ⟨x2, b2, o2⟩ := HG2.out _ hown2 hgrow2; have q0 : w2.cell? ⟨wr.heap.size, 0, none⟩ = some (.string (strB vt)) := x2.cell 0; have q1 : w2.cell? ⟨wr.heap.size, 1, none⟩ = some (.slice vA dn vc) := x2.cell 1; have ql := x2.lt; have HB2 := Lib.hid b2; have HM2 := Lib.hid o2; clear hown2 hgrow2 x2 b2 o2)
          | (go_at_call 44; (with_reducible refine (up_any dn hs1 _).mono ?_); rintro e w3 ⟨rfl, rfl⟩)
          | fail)
            go_roundw
            case rel => exact ⟨k + 1, sz + upN dn, cc, false, by omega, by go_num, rfl, rfl, by go_num, Lib.hid (by have h := HN2.out; simpa using h), HM2, HB2⟩
            case measure => simp [intOf]; omega
    · obtain rfl : k = n := by omega
      have hc := HC.out
      rw [← HLN.out] at hc
      have hbd := hc.bd
      obtain ⟨e1, e2, e3⟩ := ckI_end hc HVB.out (by rw [HLN.out]; omega)
      have HE := Lib.hid (And.intro e1 (And.intro e2 e3))
      clear e1 e2 e3 hc
      cases tw with
      | true =>
        go_wp2_with fail
        exact HBAD.out 5 _ (HE.out.1 (by simp)) (by decide) HB.out
      | false =>
        cases lg with
        | true =>
          go_wp2_with fail
          exact HBAD.out 3 _ (HE.out.2.1 (by simp) (.inl (by simp))) (by decide) HB.out
        | false =>
          by_cases hsz : 1048576 < sz
          · have d1 : decide ((1048576 : Int) < sz) = true := by simp; omega
            go_wp2_with fail
            exact HBAD.out 3 _ (HE.out.2.1 (by simp) (.inr hsz)) (by decide) HB.out
          · have d1 : decide ((1048576 : Int) < sz) = false := by simp; omega
            obtain ⟨h1, h2⟩ := HE.out.2.2 rfl (by rintro (h | h); cases h; exact hsz h)
            have HO := Lib.hid (HOK.out sz wr h1 h2 HB.out)
            clear h1 h2
            go_wp2_with fail
            exact HO.out
end Go.Proofs.Ytejombofjakllaa

namespace Go.Proofs.Ytejombofjakllaa
open Go.RowKit

def cmpL (x y : List UInt8) : Int := if x < y then -1 else if y < x then 1 else 0
theorem cmpL_neg {x y : List UInt8} : cmpL x y < 0 ↔ x < y := by
  unfold cmpL
  by_cases h1 : x < y
  · rw [if_pos h1]; simp [h1]
  · rw [if_neg h1]
    by_cases h2 : y < x
    · rw [if_pos h2]; simp [h1]
    · rw [if_neg h2]; simp [h1]
set_option maxRecDepth 20000 in
theorem cmpS_any (x y : List UInt8) (w : World) : Calls Try.prog 23 #[.string (strB x), .string (strB y)] w fun e w' => e = .returned (.int .i64 (cmpL x y)) ∧ w = w' := by
  have hN : ∀ (z : List UInt8) (w : World), Calls Try.prog 47 #[.string (strB z)] w fun e w' => e = .returned (.bool false) ∧ w = w' := by
    intro z w
    go_enter Try.func47, Try.ntmps47
    go_wp2_with fail
    go_ret
    exact ⟨by simp, rfl⟩
  have key : (Op.bytesLess x y = true ∧ cmpL x y = -1) ∨ (Op.bytesLess x y = false ∧ (x == y) = false ∧ cmpL x y = 1) ∨ (Op.bytesLess x y = false ∧ (x == y) = true ∧ cmpL x y = 0) := by
    rw [bytesLess_eq]
    unfold cmpL
    rcases lt_tri x y with h1 | h1 | h1
    · exact .inl ⟨by simpa using h1, if_pos h1⟩
    · subst h1
      exact .inr (.inr ⟨by simp, by simp, by rw [if_neg (lt_irr x), if_neg (lt_irr x)]⟩)
    · refine .inr (.inl ⟨by simpa using lt_as h1, ?_, by rw [if_neg (lt_as h1), if_pos h1]⟩)
      rw [beq_eq_false_iff_ne]
      intro e
      rw [e] at h1
      exact lt_irr _ h1
  have hx := hN x w
  have hy := hN y w
  obtain ⟨s, hs⟩ : ∃ s, strB x = s := ⟨_, rfl⟩
  obtain ⟨t, ht⟩ : ∃ t, strB y = t := ⟨_, rfl⟩
  have hsl : s.toList = x := by rw [← hs]; exact strB_toList x
  have htl : t.toList = y := by rw [← ht]; exact strB_toList y
  rw [hs] at hx
  rw [ht] at hy
  rw [hs, ht]
  rw [← hsl, ← htl] at key
  have HX := Lib.hid hx
  have HY := Lib.hid hy
  clear hs ht hN hx hy
  have hcl : cmpL x y = cmpL s.toList t.toList := by rw [hsl, htl]
  rw [hcl]
  clear hcl hsl htl
  rcases key with ⟨h1, hv⟩ | ⟨h1, h2, hv⟩ | ⟨h1, h2, hv⟩
  all_goals
    rw [hv]
    clear hv
    go_enter Try.func23, Try.ntmps23
    go_wp2_with (first | (go_at_call 47; (with_reducible refine (HX.out).mono ?_); rintro e w1 ⟨rfl, rfl⟩) | (go_at_call 47; (with_reducible refine (HY.out).mono ?_); rintro e w1 ⟨rfl, rfl⟩) | fail)
    go_ret
    exact ⟨rfl, rfl⟩
end Go.Proofs.Ytejombofjakllaa

namespace Go.Proofs.Ytejombofjakllaa
open Go.RowKit Go.Shelf

instance : Inhabited Bm := ⟨⟨[], none, 0, []⟩⟩
def cmpT (x y : Bm) : Int := cmpL x.t y.t
theorem bm_lt (x y : Bm) : ltOf cmpT x y = decide (x.t < y.t) := by
  unfold ltOf cmpT
  rw [Bool.eq_iff_iff]
  simp [cmpL_neg]
theorem bm_swo : Sort.SWO (ltOf cmpT) where
  irrefl x := by rw [bm_lt]; simp
  trans x y z h1 h2 := by
    rw [bm_lt] at *
    simp only [decide_eq_true_eq] at *
    exact lt_tr h1 h2
  ntrans x y z h1 h2 := by
    rw [bm_lt] at *
    simp only [decide_eq_false_iff_not] at *
    intro h3
    rcases lt_tri x.t y.t with h | h | h
    · exact h1 h
    · rw [h] at h3; exact h2 h3
    · exact h2 (lt_tr h h3)
set_option maxRecDepth 20000 in
theorem closB_any (x y : Bm) (W : World) : Calls Try.prog 22 #[.agg #[.string (strB x.t), .slice x.A x.d.length x.c], .agg #[.string (strB y.t), .slice y.A y.d.length y.c]] W fun e w' => e = .returned (.int .i64 (cmpT x y)) ∧ ∃ q os', w' = Sort.grow (W.drewN q) os' := by
  have hcon := fun W' => cmpS_any x.t y.t W'
  unfold cmpT
  generalize cmpL x.t y.t = r at hcon ⊢
  have HC := Lib.hid hcon
  clear hcon
  go_enter Try.func22, Try.ntmps22
  go_wp2_with (first | (go_at_call 23; (with_reducible refine (HC.out _).mono ?_); rintro e w' ⟨rfl, rfl⟩) | fail)
  go_ret
  exact ⟨rfl, 0, _, by rw [Sort.alloc_eq_grow, Sort.alloc_eq_grow, Sort.grow_grow]; rfl⟩
theorem bmC_len (x : Bm) : (bmC x).length = 2 := rfl
theorem bmC_lens (es : List Bm) : ∀ r ∈ es.map bmC, r.length = 2 := fun r hr => by obtain ⟨s, _, rfl⟩ := List.mem_map.1 hr; rfl
theorem bmC_one (x : Bm) : ∀ u ∈ bmC x, u.oneCell' = true := fun u hu => by
  simp only [bmC, List.mem_cons, List.mem_nil_iff, or_false] at hu
  rcases hu with rfl | rfl <;> rfl
theorem bmC_ones (es : List Bm) : ∀ u ∈ (es.map bmC).flatten, u.oneCell' = true := fun u hu => by
  obtain ⟨r, hr, hu⟩ := List.mem_flatten.1 hu
  obtain ⟨s, _, rfl⟩ := List.mem_map.1 hr
  exact bmC_one s u hu
/-- The cells of a row of its own, as the sort asks them. -/
theorem holds_of_blk {w : World} {g : Nat} {t : TypeId} {es : List Bm} {ex : List Value} (h : Blk w g t ((es.map bmC).flatten ++ ex)) : Sort.HoldsK bmC 2 w g 0 es.toArray := by
  intro j hj
  rw [Sort.size_flatK] at hj
  simp only [List.size_toArray] at hj
  rw [Sort.get_flatK _ _ _ _ (by simpa using hj), Nat.zero_add]
  refine ⟨?_, h.frozen j⟩
  have hi : j / 2 < es.length := by omega
  have hfl := flatten_at 2 (es.map bmC) (j / 2) (j % 2) (bmC es[j / 2]) (bmC_lens es) (by rw [List.getElem?_map, List.getElem?_eq_getElem hi]; rfl) (by omega)
  have hfl2 : (es.map bmC).flatten[j]? = (bmC es[j / 2])[j % 2]? := by
    rw [← hfl]
    congr 1
    omega
  have hlen : (es.map bmC).flatten.length = es.length * 2 := by rw [flatten_len 2 _ (bmC_lens es), List.length_map]
  rw [h.cell j, List.getElem?_append_left (by omega), hfl2]
  have h2 : j % 2 < (bmC es[j / 2]).length := by rw [bmC_len]; omega
  rw [List.getElem?_eq_getElem h2]
  simp [hi, h2]
theorem rows_of_holds {w : World} {g : Nat} {d : Array Bm} (hg : g < w.heap.size) (h : Sort.HoldsK bmC 2 w g 0 d) : RowsAt w (some ⟨g, 0, none⟩) d.size 2 (d.toList.map bmC) := by
  refine ⟨by simp, fun i r hr => ?_⟩
  rw [List.getElem?_map] at hr
  obtain ⟨x, hx, rfl⟩ := Option.map_eq_some_iff.1 hr
  have hi : i < d.size := by have := (List.getElem?_eq_some_iff.1 hx).1; simpa using this
  have hxe : d[i]! = x := by
    obtain ⟨h1, h2⟩ := List.getElem?_eq_some_iff.1 hx
    rw [getElem!_pos d i hi]
    simpa using h2
  refine ⟨rfl, g, 0, rfl, hg, fun j v hv => ?_⟩
  have hj : j < 2 := by have := (List.getElem?_eq_some_iff.1 hv).1; rwa [bmC_len] at this
  have hc := (h.cell hi hj).1
  rw [hxe] at hc
  rw [hc]
  congr 1
  rw [List.getElem?_eq_getElem (by rw [bmC_len]; exact hj)] at hv
  injection hv with hv
  rw [getElem!_pos (bmC x) j (by rw [bmC_len]; exact hj)]
  exact hv
theorem bm_info : (Try.prog.info? 36).map (fun i => (i.zero.map (fun z => z.cells.size), i.size, i.bytes)) = some (some 2, 2, 40) := by kernel_rfl
theorem bm_parts : ∃ i z, Try.prog.info? 36 = some i ∧ i.zero = some z ∧ i.size = 2 ∧ i.bytes = 40 ∧ z.cells.size = 2 := by
  have h := bm_info
  cases hi : Try.prog.info? 36 with
  | none => rw [hi] at h; cases h
  | some i =>
    rw [hi] at h
    simp only [Option.map_some, Option.some.injEq, Prod.mk.injEq] at h
    obtain ⟨h1, h2, h3⟩ := h
    cases hz : i.zero with
    | none => rw [hz] at h1; cases h1
    | some z =>
      rw [hz] at h1
      exact ⟨i, z, rfl, hz, h2, h3, by simpa using h1⟩
@[go_sem] theorem eqlBm_nil (A : Option Addr) (l c : Nat) (w : World) : (binOp .eql 22 (.slice A l c) (.slice none 0 0)).run Try.prog w = .ok (.bool A.isNone) w := Lib.run_eql_slice_nil w _ _ A l c 0 0 Try.underlying22
theorem own_empty2 (w : World) (e : TypeId) (s : Nat) : (w.alloc (.cells #[] e)).ownsRow w.heap.size e s (.slice (some ⟨w.heap.size, 0, none⟩) 0 0) 0 [] :=
  ⟨by simp, .inr ⟨w.heap.size, 0, #[], rfl, Nat.le_refl _, heap_alloc_new w _, Nat.le_refl _, Nat.zero_le _, by simp, by simp⟩⟩
set_option maxRecDepth 20000 in
set_option maxHeartbeats 1000000 in
theorem cloneBm_any {w : World} {A : Option Addr} {n c : Nat} {es : List Bm} (h : BlL w A n es) (h1 : 1 ≤ n) (hm : n ≤ 1000) :
    Calls Try.prog 20 #[.slice A n c] w fun e w' => ∃ g c', e = .returned (.slice (some ⟨g, 0, none⟩) n c') ∧ w.heap.size ≤ g ∧ g < w'.heap.size ∧ n ≤ c' ∧ Sort.HoldsK bmC 2 w' g 0 es.toArray ∧ Below w.heap.size w w' := by
  obtain ⟨i0, zz, hi0, hz0, hz1, hz2, hz3⟩ := bm_parts
  obtain ⟨v0, hv0⟩ := get_some' (l := es) (k := 0) (by rw [h.len]; omega)
  obtain ⟨b, o, rfl, hb, _, _⟩ := h.at_ hv0
  have HR := Lib.hid ((h.rows.keep (w' := w.alloc (.cells #[] 36)) (bel_alloc bel_refl).below).reads)
  have HN := Lib.hid h.len
  clear h hv0
  go_enter Try.func20, Try.ntmps20
  go_wp2_with (at_builtin; refine wpList_append_any _ (by rfl) (.tmp 5) (.tmp 6) _ (by rfl) w.heap.size 36 i0 zz 2 40 Try.underlying22 hi0 hz0 hz1 hz2 hz3 (by omega) _ 0 [] (by rfl) (own_empty2 w _ 2) _ _ n _ _ (by rfl) HR.out (bmC_ones es) (by unfold maxLen; omega) (by omega) (by simp) ?_; intro v' w1 hown hgrow hat)
  rw [Nat.zero_add, List.nil_append] at hown
  obtain ⟨hl, ⟨rfl, h0⟩ | ⟨g, cap, cur, rfl, hg, hh, hn, _, _, hcur⟩⟩ := hown
  · subst h0; omega
  go_ret
  refine ⟨g, cap, rfl, hg, (Array.getElem?_eq_some_iff.1 hh).1, hn, holds_of_blk (t := 36) (ex := cur.toList.drop (n * 2)) ?_, (bel_alloc bel_refl).below.trans ⟨hgrow.os, hgrow.tape, hgrow.output, hgrow.size, fun k hk => hgrow.block k (by simp; omega) (by simp [Value.ownBlock]; omega)⟩⟩
  rw [← hcur, List.take_append_drop]
  exact hh
/-- What slices.SortFunc leaves of blobs whose tags are not one. -/
theorem sortBm_any {w : World} {g c n : Nat} {es : List Bm} (hg : g < w.heap.size) (hn : es.length = n) (hm : n ≤ 1000) (h : Sort.HoldsK bmC 2 w g 0 es.toArray) (B : Nat) (hB : B ≤ g) :
    Calls Try.prog 21 #[.slice (some ⟨g, 0, none⟩) n c, .func (.func 22) #[] #[]] w fun e w' =>
      e = .returned (.tuple #[]) ∧ ∃ ds : List Bm, ds.Perm es ∧ (TagNd (es.map bmS) → TagUp (ds.map bmS)) ∧ RowsAt w' (some ⟨g, 0, none⟩) n 2 (ds.map bmC) ∧ Below B w w' ∧ w.heap.size ≤ w'.heap.size := by
  have eg : ∀ args w, (callFunc 22 args).run Try.prog w = .ok (.enter 22 args) w := enters_of Try.func22 (by kernel_rfl) rfl
  have hcon := AnyQ.slices_SortFunc srtB 2 Try.isAgg36 Try.sizeOf36 bmC bmC_len bmC_one cmpT bm_swo 22 #[] g 0 c es.toArray w eg (fun _ _ _ _ x y => closB_any x y _) h hg (by simp; omega)
  change Calls Try.prog 21 _ _ _ at hcon
  rw [show es.toArray.size = n by simp; exact hn] at hcon
  refine hcon.mono fun e w' ⟨he, d', m, os, hp, hs, hw⟩ => ?_
  have hd : d'.size = n := by rw [hp.1]; simp; exact hn
  have hperm : d'.toList.Perm es := by
    have := hp.2.2
    rw [← hn] at this
    have h1 : d'.size = es.length := by rw [hd, hn]
    have h2 : (d'.extract 0 es.length).toList = d'.toList := by rw [← h1, Array.extract_size]
    have h3 : (es.toArray.extract 0 es.length).toList = es := by simp
    rw [h2, h3] at this
    exact this
  have hH : Sort.HoldsK bmC 2 w' g 0 d' := by rw [hw]; exact holdsK_sortWorldK_c bmC 2 w g 0 es.toArray d' m os h hg (by rw [hd]; simp; exact hn.symm)
  have hb : Below B w w' := by
    rw [hw]
    unfold sortWorldK
    have h1 := Lib.below_putRow (enc := id) (d := Sort.flatK bmC 2 d') (q := m) (Below.refl B w) hB
    exact h1.trans (Lib.below_grow B _ (Nat.le_trans (by omega) h1.size) 0 os)
  refine ⟨he, d'.toList, hperm, fun hnd => ?_, ?_, hb, hb.size⟩
  · have hnd2 : TagNd (d'.toList.map bmS) := (nd_perm (hperm.map bmS)).2 hnd
    unfold TagUp
    rw [List.pairwise_iff_getElem]
    intro i j hi hj hij
    simp only [List.length_map, Array.length_toList] at hi hj
    have hlt := hs i j (Nat.zero_le _) hij (by omega)
    rw [bm_lt, getElem!_pos d' j hj, getElem!_pos d' i hi] at hlt
    simp only [decide_eq_false_iff_not] at hlt
    rw [List.getElem_map, List.getElem_map]
    show (d'.toList[i]).t < (d'.toList[j]).t
    simp only [Array.getElem_toList]
    rcases lt_tri d'[i].t d'[j].t with h1 | h1 | h1
    · exact h1
    · exfalso
      unfold TagNd List.Nodup at hnd2
      rw [List.pairwise_map, List.pairwise_map, List.pairwise_iff_getElem] at hnd2
      have := hnd2 i j (by simpa using hi) (by simpa using hj) hij
      simp only [Array.getElem_toList] at this
      exact this h1
    · exact absurd h1 hlt
  · have hr := rows_of_holds (by have := hb.size; omega) hH
    rw [hd] at hr
    exact hr
end Go.Proofs.Ytejombofjakllaa

namespace Go.Proofs.Ytejombofjakllaa
open Go.RowKit Go.Shelf

section
variable {B : Nat} {w0 w w' : World} {g : Nat} {N : List UInt8} {room : Int} {bx : List (Nat × Obj)}
theorem IW.lt (h : IW B w0 w g N room bx) : g < w.heap.size := by obtain ⟨_, _, _, h1, _⟩ := h; exact h1.blk.lt
theorem IW.drop (h : IW B w0 w g N room bx) : IW B w0 w g N room [] := by
  obtain ⟨s, A, c, h1, h2, h3, h4, h5, h6, h7⟩ := h
  exact ⟨s, A, c, h1, h2, h3, h4, h5, h6, fun p hp => by cases hp⟩
theorem data_J (h : IW B w0 w g N room bx) (hr : 0 ≤ room) (hr2 : room ≤ 1099511627776) (A0 : Option Addr) (m c0 : Nat) (bs : List UInt8) (hm : bs.length = m) (hs : SlAt w A0 m (bs.map byteV)) (hg : 0 < m → rowOf A0 ≠ some g) :
    Calls Try.prog 26 #[.pointer (some ⟨g, 0, none⟩), .slice A0 m c0] w fun e w' => e = .returned (.pointer (some ⟨g, 0, none⟩)) ∧ IW B w0 w' g (N ++ bs) room bx := by
  obtain ⟨s, A, c, h1, h2, h3, h4, h5, h6, h7⟩ := h
  subst hm
  exact (data_W0 w g s room A c bs A0 c0 h1 hr hr2 h6 hs hg).mono fun _ _ ⟨he, A', c', hx⟩ => ⟨he, IW.call s A c h1 h2 h3 h4 h5 h7 hx⟩
theorem putF_full {s : List UInt8 × Bool} (h : s.2 = true) (M : List UInt8) : putF room s M = s := by
  obtain ⟨a, b⟩ := s
  simp only at h
  subst h
  simp [putF, fullF]
theorem pad_J (h : IW B w0 w g N room bx) (hr : 0 ≤ room) (hr2 : room ≤ 1099511627776) :
    Calls Try.prog 28 #[.pointer (some ⟨g, 0, none⟩), .int .i64 4] w fun e w' => e = .returned (.pointer (some ⟨g, 0, none⟩)) ∧ IW B w0 w' g (N ++ List.replicate (upN N.length - N.length) 0) room bx := by
  obtain ⟨s, A, c, h1, h2, h3, h4, h5, h6, h7⟩ := h
  refine (pad_W w g s room A c 4 h1 hr hr2 h6 (by decide) (by decide)).mono fun _ _ ⟨he, A', c', hx⟩ => ⟨he, ?_⟩
  have hp : padF room s 4 = putF room s (List.replicate (upN N.length - N.length) 0) := by
    rcases h2 with ⟨rfl, hN⟩ | ⟨hf, _⟩
    · unfold padF
      by_cases h0 : (N.length : Int) % 4 = 0
      · rw [if_pos (.inr h0), show upN N.length - N.length = 0 by unfold upN; omega, List.replicate_zero, putF_fit (by simpa using hN), List.append_nil]
      · rw [if_neg (by intro hh; rcases hh with hh | hh; omega; exact h0 hh)]
        congr 2
        simp only
        unfold upN
        omega
    · rw [putF_full hf]
      unfold padF
      split
      · rfl
      · rw [putF_full hf]
  rw [hp] at hx
  exact IW.call s A c h1 h2 h3 h4 h5 h7 hx
end
theorem bytesW_below (w : World) (e : TypeId) (s : ByteArray) : Below w.heap.size w (Lib.bytesWorld w e s) :=
  ⟨rfl, rfl, rfl, by rw [Lib.bytesWorld_size]; omega, fun k hk => Lib.bytesWorld_at_old w e s k hk⟩
theorem bytesW_sl (w : World) (e : TypeId) (bs : List UInt8) : SlAt (Lib.bytesWorld w e (strB bs)) (some ⟨w.heap.size, 0, none⟩) bs.length (bs.map byteV) := by
  refine ⟨by simp, fun k hk => ⟨w.heap.size, 0, rfl, by rw [Lib.bytesWorld_size]; omega, ?_⟩⟩
  rw [Nat.zero_add, Lib.bytesWorld_cell w e (strB bs) k (by rw [strB_size]; exact hk), List.getElem?_map, List.getElem?_eq_getElem hk]
  simp [byteV, strB, List.getD, hk]
theorem pw_is {n g : Nat} (h0 : 1 ≤ n) (h1 : 2 ^ g ≤ n) (h2 : ¬ 2 ^ g * 2 ≤ n) : g = Nat.log2 n ∧ 2 ^ g = pwN n := by
  have h3 : Nat.log2 n = g := (Nat.log2_eq_iff (by omega)).2 ⟨h1, by rw [Nat.pow_succ]; omega⟩
  exact ⟨h3.symm, by unfold pwN; rw [h3]⟩
end Go.Proofs.Ytejombofjakllaa

namespace Go.Proofs.Ytejombofjakllaa
open Go.RowKit Go.Shelf

theorem slat_keptB {w w' : World} {A : Option Addr} {n : Nat} {vs : List Value} (h : SlAt w A n vs) (hb : Below w.heap.size w w') : SlAt w' A n vs := h.keep hb
def hdI : Option Nat → Int
  | none => -1
  | some h => h
set_option maxRecDepth 100000 in
set_option maxHeartbeats 4000000 in
theorem directory_any {w0 w : World} {gW : Nat} {N : List UInt8} {room : Int} {A : Option Addr} {n c : Nat} {es : List Bm} {l : List Bl} (v : Int) (hI : IW w0.heap.size w0 w gW N room []) (hr : 0 ≤ room) (hr2 : room ≤ 1099511627776)
    (h : BlL w0 A n es) (hll : es.map bmS = l) (n1 : 1 ≤ n) (n2 : n ≤ 64) (hsz : sizeS4 l ≤ 1048576) :
    Calls Try.prog 25 #[.pointer (some ⟨gW, 0, none⟩), .int .i64 v, .slice A n c] w fun e w' => e = .returned (.int .i64 (hdI (hdA (12 + 16 * n) l))) ∧ IW w0.heap.size w0 w' gW (N ++ hdrS v n ++ dirS (12 + 16 * n) l) room [] := by
  have hl := h.len
  have hln : l.length = n := by rw [← hll, List.length_map]; exact hl
  have H := Lib.hid h
  have HI := Lib.hid hI
  have HLN := Lib.hid hln
  have HLL := Lib.hid hll
  have hsz2 : 12 + 16 * n + totS l ≤ 1048576 := by unfold sizeS4 at hsz; omega
  have HSZ := Lib.hid hsz2
  clear h hI hl hln hll hsz hsz2
  go_enter Try.func25, Try.ntmps25
  go_wp2_with fail
  go_loopw [7, 8] (fun s7 s8 wr => ∃ p q : Nat, s7 = .int .i64 p ∧ s8 = .int .i64 q ∧ 1 ≤ p ∧ p ≤ n ∧ q ≤ p ∧ Hid (2 ^ q = p) ∧ w = wr) (fun s7 _ _ => n + 1 - (intOf s7).toNat)
  case atStart => exact ⟨1, 0, rfl, rfl, Nat.le_refl _, n1, by omega, Lib.hid rfl, rfl⟩
  case round =>
    obtain ⟨p, q, rfl, rfl, hp1, hpn, hqp, HQ, rfl⟩ := hrel
    by_cases hlt : p * 2 ≤ n
    · have d1 : decide ((p : Int) * 2 ≤ n) = true := by simp; omega
      go_wp2_with fail
      go_roundw
      case rel => exact ⟨p * 2, q + 1, by go_num, by go_num, by omega, by omega, by omega, Lib.hid (by rw [Nat.pow_succ, HQ.out]), trivial⟩
      case measure => simp [intOf]; omega
    · have d1 : decide ((p : Int) * 2 ≤ n) = false := by simp; omega
      obtain ⟨hq1, hq2⟩ := pw_is n1 (by rw [HQ.out]; exact hpn) (by rw [HQ.out]; exact hlt)
      rw [HQ.out] at hq2
      have HHD : Hid (N ++ beB 4 v ++ beB 2 (n : Int) ++ beB 2 (16 * (p : Int)) ++ beB 2 (q : Int) ++ beB 2 (16 * (n : Int) - 16 * (p : Int)) = N ++ hdrS v n) := Lib.hid (by
        unfold hdrS
        rw [← hq1, ← hq2]
        simp)
      clear hq1 hq2 HQ
      go_upto_region 5 with (first
        | (go_at_call 30; (with_reducible refine (u32_I HI.out hr hr2 _).mono ?_); rintro e w1 ⟨rfl, hI⟩; have HI1 := Lib.hid hI; clear hI)
        | (go_at_call 48; (with_reducible refine (u16_I HI1.out hr hr2 _).mono ?_); rintro e w2 ⟨rfl, hI⟩; have HI2 := Lib.hid hI; clear hI)
        | (go_at_call 48; (with_reducible refine (u16_I HI2.out hr hr2 _).mono ?_); rintro e w3 ⟨rfl, hI⟩; have HI3 := Lib.hid hI; clear hI)
        | (go_at_call 48; (with_reducible refine (u16_I HI3.out hr hr2 _).mono ?_); rintro e w4 ⟨rfl, hI⟩; have HI4 := Lib.hid hI; clear hI)
        | (go_at_call 48; (with_reducible refine (u16_I HI4.out hr hr2 _).mono ?_); rintro e w5 ⟨rfl, hI⟩; have HI5 := Lib.hid hI; clear hI)
        | fail)
      have hI5 := HI5.out
      rw [HHD.out] at hI5
      obtain ⟨M, hM⟩ : ∃ M, N ++ hdrS v n = M := ⟨_, rfl⟩
      rw [hM] at hI5
      have HM := Lib.hid hM
      have HJ := Lib.hid hI5
      clear HI1 HI2 HI3 HI4 HI5 hI5 HHD d1 hM HI
      go_upto_region 7 with fail
      go_loopw [9, 10, 46] (fun s9 s10 s46 wr => ∃ k : Nat, k ≤ n ∧ s9 = .int .i64 (12 + 16 * (n : Int) + (totS (l.take k) : Nat)) ∧ s10 = .int .i64 (hdI (hdA (12 + 16 * n) (l.take k))) ∧ s46 = .int .i64 k ∧ Hid (IW w0.heap.size w0 wr gW (M ++ dirS (12 + 16 * n) (l.take k)) room [])) (fun _ _ i _ => n - (intOf i).toNat)
      case atStart => exact ⟨0, Nat.zero_le _, by simp [totS], rfl, rfl, Lib.hid (by rw [List.take_zero]; show IW _ _ _ _ (M ++ []) _ _; rw [List.append_nil]; exact HJ.out)⟩
      case round =>
        obtain ⟨k, hk, rfl, rfl, rfl, HK⟩ := hrel
        by_cases hkn : k < n
        · have d1 : decide ((k : Int) < n) = true := by simp; omega
          obtain ⟨⟨vt, vA, vc, vd⟩, hv⟩ := get_some' (l := es) (k := k) (by rw [H.out.len]; exact hkn)
          obtain ⟨b, o, rfl, hb, hc0, hc1⟩ := H.out.at_ hv
          have hmem := List.mem_of_getElem? hv
          have hdat := H.out.data _ hmem
          have hcap := H.out.cap _ hmem
          obtain ⟨hs1, hs2⟩ := H.out.small _ hmem
          dsimp only at hc0 hc1 hdat hcap hs1 hs2
          have hlk : l[k]? = some (vt, vd) := by rw [← HLL.out, List.getElem?_map, hv]; rfl
          have hbw := HK.out.below
          have r0 : wr.cell? ⟨b, o + k * 2, none⟩ = some (.string (strB vt)) := (hbw.cell (p := ⟨b, o + k * 2, none⟩) hb).trans hc0
          have r1 : wr.cell? ⟨b, o + k * 2 + 1, none⟩ = some (.slice vA vd.length vc) := (hbw.cell (p := ⟨b, o + k * 2 + 1, none⟩) hb).trans hc1
          have hbl := Nat.lt_of_lt_of_le hb hbw.size
          have htk := take_snoc' hlk
          have hd1 : dirS (12 + 16 * n) (l.take (k + 1)) = dirS (12 + 16 * n) (l.take k) ++ entS (12 + 16 * n + totS (l.take k)) (vt, vd) := by
            rw [htk, dirS_append]
            show _ ++ (entS _ _ ++ []) = _
            rw [List.append_nil]
          have hh1 : hdA (12 + 16 * n) (l.take (k + 1)) = if vt = headT ∧ 12 ≤ vd.length then some (12 + 16 * n + totS (l.take k)) else hdA (12 + 16 * n) (l.take k) := by rw [htk, hdA_snoc]
          have ht1 : totS (l.take (k + 1)) = totS (l.take k) + upN vd.length := by rw [htk, totS_append]; simp [totS]
          have htl : totS (l.take (k + 1)) ≤ totS l := by
            have h9 := totS_append (l.take (k + 1)) (l.drop (k + 1))
            rw [List.take_append_drop] at h9
            omega
          have hszz := HSZ.out
          obtain ⟨T, hT⟩ : ∃ T, totS (l.take k) = T := ⟨_, rfl⟩
          rw [hT] at hd1 hh1 ht1 ⊢
          obtain ⟨Hd, hHd⟩ : ∃ Hd, hdA (12 + 16 * n) (l.take k) = Hd := ⟨_, rfl⟩
          rw [hHd] at hh1 ⊢
          have hTb : 12 + 16 * n + T + upN vd.length ≤ 1048576 := by omega
          have hun := upN_ge vd.length
          have HD1 := Lib.hid hd1
          have HH1 := Lib.hid hh1
          have HT1 := Lib.hid ht1
          obtain ⟨xb, hxb⟩ : ∃ xb, wr.heap.size = xb := ⟨_, rfl⟩
          have hnew := HK.out.new (.cells #[.string (strB vt), .slice vA vd.length vc] 36)
          have HN := Lib.hid hnew
          clear hc0 hc1 hv hmem htk hd1 hh1 ht1 htl hszz hT hHd hbw hnew
          go_upto_region 9 with fail
          obtain ⟨u1, hu1⟩ : ∃ u1, wr.alloc (.cells #[.string (strB vt), .slice vA vd.length vc] 36) = u1 := ⟨_, rfl⟩
          rw [hu1, hxb] at HN
          rw [hu1]
          clear r0 r1 hu1
          have hS1 : ∀ u : World, Blk u xb 36 [.string (strB vt), .slice vA vd.length vc] → u.cell? ⟨xb, 0, none⟩ = some (.string (strB vt)) := fun u hu => hu.cell 0
          have hS2 : ∀ u : World, Blk u xb 36 [.string (strB vt), .slice vA vd.length vc] → u.cell? ⟨xb, 1, none⟩ = some (.slice vA vd.length vc) := fun u hu => hu.cell 1
          have hS3 : ∀ u : World, Blk u xb 36 [.string (strB vt), .slice vA vd.length vc] → xb < u.heap.size := fun u hu => hu.lt
          have HB0 : Hid (Blk u1 xb 36 [.string (strB vt), .slice vA vd.length vc]) := Lib.hid (HN.out.box (List.mem_cons_self ..))
          have HBD := Lib.hid HB0.out.drew
          have hcv : ∀ u : World, (convert 9 25 (.string (strB vt))).run Try.prog u = .ok (.slice (some ⟨u.heap.size, 0, none⟩) (strB vt).size (grownCap u (strB vt).size 0 5)) (Lib.bytesWorld u 5 (strB vt)) := fun u => Lib.run_convert_string_bytes u _ _ _ (strB vt) Try.underlying9 Try.underlying25 Try.underlying5
          have HIC : Hid (IW w0.heap.size w0 (Lib.bytesWorld u1.drew 5 (strB vt)) gW (M ++ dirS (12 + 16 * n) (l.take k)) room [(xb, .cells #[.string (strB vt), .slice vA vd.length vc] 36)]) := Lib.hid ((HN.out.keep (w' := u1.drew) (bel_drew bel_refl).below).keep (bytesW_below _ _ _))
          have HBC : Hid (Blk (Lib.bytesWorld u1.drew 5 (strB vt)) xb 36 [.string (strB vt), .slice vA vd.length vc]) := Lib.hid (HBD.out.keepB (bytesW_below _ _ _))
          have HSC : Hid (SlAt (Lib.bytesWorld u1.drew 5 (strB vt)) (some ⟨u1.heap.size, 0, none⟩) (strB vt).size (vt.map byteV)) := Lib.hid (by rw [strB_size]; exact bytesW_sl u1.drew 5 vt)
          have hne : rowOf (some (⟨u1.heap.size, 0, none⟩ : Addr)) ≠ some gW := by
            have := HN.out.lt
            intro e
            simp [rowOf] at e
            omega
          have HDT := Lib.hid fun (u : World) (hu : Below w0.heap.size w0 u) => slat_keptB hdat hu
          have hB0 := HN.out.size
          go_region_held (fun u => Blk u xb 36 [.string (strB vt), .slice vA vd.length vc]) (first | (with_reducible exact HBD.out) | (with_reducible exact HBC.out) | (with_reducible exact HA1.out) | (with_reducible exact HA2.out) | (with_reducible exact HA3.out) | (with_reducible exact HA4.out) | (with_reducible exact HA5.out) | (with_reducible exact HA6.out)) (first
            | (go_at_call 26; (with_reducible refine (data_J HIC.out hr hr2 _ _ _ vt (strB_size vt).symm HSC.out (fun _ => hne)).mono ?_); rintro e w5 ⟨rfl, hI⟩; have HI1 := Lib.hid hI; have HA1 : Hid (Blk w5 xb 36 [.string (strB vt), .slice vA vd.length vc]) := Lib.hid (hI.box (List.mem_cons_self ..)); clear hI)
            | (go_at_call 27; (with_reducible refine (plain_any vt (HDT.out _ HI1.out.below) rfl hs1).mono ?_); rintro e w6 ⟨A6, c6, rfl, hc6, _, _, hs6, hb6⟩; have HI2 := Lib.hid (HI1.out.keep hb6); have HA2 := Lib.hid (HA1.out.keepB hb6); have HS6 := Lib.hid hs6; clear hb6 hs6)
            | (go_at_call 15; (with_reducible refine (Sum_any HS6.out (plain_len (vt, vd)) hc6 hs1).mono ?_); rintro e w7 ⟨rfl, hb7⟩; have HI3 := Lib.hid (HI2.out.keep hb7); have HA3 := Lib.hid (HA2.out.keepB hb7); clear hb7)
            | (go_at_call 30; (with_reducible refine (u32_I HI3.out hr hr2 _).mono ?_); rintro e w8 ⟨rfl, hI⟩; have HI4 := Lib.hid hI; have HA4 : Hid (Blk w8 xb 36 [.string (strB vt), .slice vA vd.length vc]) := Lib.hid (hI.box (List.mem_cons_self ..)); clear hI)
            | (go_at_call 30; (with_reducible refine (u32_I HI4.out hr hr2 _).mono ?_); rintro e w9 ⟨rfl, hI⟩; have HI5 := Lib.hid hI; have HA5 : Hid (Blk w9 xb 36 [.string (strB vt), .slice vA vd.length vc]) := Lib.hid (hI.box (List.mem_cons_self ..)); clear hI)
            | (go_at_call 30; (with_reducible refine (u32_I HI5.out hr hr2 _).mono ?_); rintro e w10 ⟨rfl, hI⟩; have HI6 := Lib.hid hI; have HA6 : Hid (Blk w10 xb 36 [.string (strB vt), .slice vA vd.length vc]) := Lib.hid (hI.box (List.mem_cons_self ..)); clear hI))
          all_goals
            have hI6 := HI6.out.drop
            have hen : ((((M ++ dirS (12 + 16 * n) (l.take k)) ++ vt) ++ beB 4 (sumS (plainS (vt, vd)))) ++ beB 4 (12 + 16 * (n : Int) + (T : Int))) ++ beB 4 (vd.length : Int) = M ++ dirS (12 + 16 * n) (l.take (k + 1)) := by
              rw [HD1.out]
              unfold entS
              have hc : ((12 + 16 * n + T : Nat) : Int) = 12 + 16 * (n : Int) + (T : Int) := by omega
              rw [hc]
              simp
            rw [hen] at hI6
            have HIF := Lib.hid hI6
            have x0 := hS1 _ HA6.out
            have x1 := hS2 _ HA6.out
            have x2 := hS3 _ HA6.out
            clear hI6 hen HI1 HI2 HI3 HI4 HI5 HI6 HA1 HA2 HA3 HA4 HA5 HA6 HS6 HIC HBC HSC HBD HB0 HN HDT hS1 hS2 hS3 hcv HD1 hdat
            by_cases hhd : vt = headT ∧ 12 ≤ vd.length
            · have e1 : (vt == [104, 101, 97, 100]) = true := by rw [hhd.1]; rfl
              have e2 : decide ((12 : Int) ≤ vd.length) = true := by have := hhd.2; simp; omega
              have hh2 := HH1.out
              rw [if_pos hhd] at hh2
              have HH2 := Lib.hid hh2
              clear hh2 hhd
              go_wp2_with (first
                | (go_at_call 44; (with_reducible refine (up_any vd.length hs1 _).mono ?_); rintro e w11 ⟨rfl, rfl⟩)
                | fail)
              go_roundw
              case rel => exact ⟨k + 1, by omega, by rw [HT1.out]; go_num, by rw [HH2.out]; simp [hdI], by go_num, HIF⟩
              case measure => simp [intOf]; omega
            · have hcs : (vt == [104, 101, 97, 100]) = false ∨ ((vt == [104, 101, 97, 100]) = true ∧ decide ((12 : Int) ≤ vd.length) = false) := by
                by_cases h1 : vt = headT
                · right
                  have h2 : ¬ 12 ≤ vd.length := fun h2 => hhd ⟨h1, h2⟩
                  exact ⟨by rw [h1]; rfl, by simp; omega⟩
                · left
                  exact beq_eq_false_iff_ne.2 h1
              have hh2 := HH1.out
              rw [if_neg hhd] at hh2
              have HH2 := Lib.hid hh2
              clear hh2 hhd
              rcases hcs with e1 | ⟨e1, e2⟩
              all_goals
                go_wp2_with (first
                  | (go_at_call 44; (with_reducible refine (up_any vd.length hs1 _).mono ?_); rintro e w11 ⟨rfl, rfl⟩)
                  | fail)
                go_roundw
                case rel => exact ⟨k + 1, by omega, by rw [HT1.out]; go_num, by rw [HH2.out], by go_num, HIF⟩
                case measure => simp [intOf]; omega
        · obtain rfl : k = n := by omega
          have hK := HK.out
          rw [List.take_of_length_le (by rw [HLN.out]; exact Nat.le_refl _), ← HM.out] at hK
          have HKF := Lib.hid hK
          have ht : l.take k = l := List.take_of_length_le (by rw [HLN.out]; exact Nat.le_refl _)
          rw [ht]
          clear hK
          have d2 : decide ((k : Int) < k) = false := by simp
          go_wp2_with fail
          go_ret
          exact ⟨rfl, HKF.out⟩
end Go.Proofs.Ytejombofjakllaa

namespace Go.Proofs.Ytejombofjakllaa
open Go.RowKit Go.Shelf

/-- What Done makes. -/
def DnB (N : List UInt8) (w : World) (e : Ending) (w' : World) : Prop := ∃ A' c', e = .returned (.tuple #[.slice A' N.length c', .int .i64 0]) ∧ N.length ≤ c' ∧ (0 < N.length → ∃ g, A' = some ⟨g, 0, none⟩ ∧ w.heap.size ≤ g ∧ Byt w' g N) ∧ (∀ k, rowOf A' = some k → w.heap.size ≤ k ∧ k < w'.heap.size) ∧ SlAt w' A' N.length (N.map byteV) ∧ Below w.heap.size w w'
set_option maxHeartbeats 1000000 in
theorem done_B {B : Nat} {w0 w : World} {g : Nat} {N : List UInt8} {room : Int} {bx : List (Nat × Obj)} (h : IW B w0 w g N room bx) (hN : (N.length : Int) ≤ room) (hn : N.length ≤ 140737488355328) :
    Calls Try.prog 29 #[.pointer (some ⟨g, 0, none⟩)] w (DnB N w) := by
  obtain ⟨s, A, c, h1, h2, h3, h4, h5, h6, h7⟩ := h
  rcases h2 with ⟨rfl, _⟩ | ⟨_, h⟩
  · dsimp only at h1
    have k0 : w.cell? ⟨g, 0, none⟩ = some (.slice A N.length c) := by rw [h1.blk.cell 0]; rfl
    have k2 : w.cell? ⟨g, 2, none⟩ = some (.bool false) := by rw [h1.blk.cell 2]; rfl
    have HS := Lib.hid h1.sl
    clear h1 h3 h4 h5 h6 h7
    go_enter Try.func29, Try.ntmps29
    go_wp2_with (first
      | (go_at_call 42; (with_reducible refine (clone_cl HS.out hn).mono ?_); rintro e w1 ⟨A', c', rfl, hcap, hrest⟩; have HR := Lib.hid hrest; clear hrest)
      | fail)
    go_ret2
    exact ⟨A', c', rfl, hcap, HR.out⟩
  · omega
theorem done_m {B m : Nat} {w0 w : World} {g : Nat} {N : List UInt8} {room : Int} {bx : List (Nat × Obj)} (h : IW B w0 w g N room bx) (hm : N.length = m) (hN : (m : Int) ≤ room) (hn : m ≤ 140737488355328) :
    Calls Try.prog 29 #[.pointer (some ⟨g, 0, none⟩)] w fun e w' => ∃ A' c', e = .returned (.tuple #[.slice A' m c', .int .i64 0]) ∧ SlAt w' A' m (N.map byteV) ∧ Below w.heap.size w w' := by
  subst hm
  exact (done_B h hN hn).mono fun e w' ⟨A', c', he, _, _, _, hs, hb⟩ => ⟨A', c', he, hs, hb⟩
theorem totS_perm {a b : List Bl} (h : a.Perm b) : totS a = totS b := by
  unfold totS
  exact (h.map _).sum_nat
theorem sizeS4_perm {a b : List Bl} (h : a.Perm b) : sizeS4 a = sizeS4 b := by
  unfold sizeS4
  rw [totS_perm h, h.length_eq]
/-- What is known of tables that may be. -/
theorem chk_ok {v : Int} {l : List Bl} (h : chkS v l = 0) : verB v = true ∧ 1 ≤ l.length ∧ l.length ≤ 64 ∧ (∀ t ∈ l, isTagB t.1 = true) ∧ TagNd l ∧ sizeS4 l ≤ 1048576 := by
  unfold chkS at h
  by_cases h1 : verB v = false ∨ l.length < 1 ∨ 64 < l.length
  · rw [if_pos h1] at h; cases h
  rw [if_neg h1] at h
  by_cases h2 : l.all (fun t => isTagB t.1) = false
  · rw [if_pos h2] at h; cases h
  rw [if_neg h2] at h
  by_cases h3 : ¬ (l.map Prod.fst).Nodup
  · rw [if_pos h3] at h; cases h
  rw [if_neg h3] at h
  by_cases h4 : 1048576 < sizeS4 l
  · rw [if_pos h4] at h; cases h
  refine ⟨?_, by omega, by omega, ?_, Classical.not_not.1 h3, by omega⟩
  · cases hv : verB v
    · exact absurd (.inl hv) h1
    · rfl
  · exact List.all_eq_true.1 (by simpa using h2)
theorem tag_len {t : List UInt8} (h : isTagB t = true) : t.length = 4 := by
  unfold isTagB at h
  simp at h
  exact h.2
theorem hdA_fit {v : Int} {l : List Bl} {h : Nat} (ht : ∀ t ∈ l, t.1.length = 4) (hh : hdA (12 + 16 * l.length) l = some h) : h + 12 ≤ (rawS v l).length ∧ h % 4 = 0 ∧ 12 ≤ h := by
  obtain ⟨a, t, b, hl, he, _, h2⟩ := hdA_some hh
  rw [rawS_len ht]
  have h3 : totS l = totS a + (upN t.2.length + totS b) := by rw [hl, totS_append, totS_cons]
  have h4 := upN_ge t.2.length
  have h5 := totS_mod a
  unfold sizeS4
  omega
theorem upN_add {a b : Nat} (h : a % 4 = 0) : upN (a + b) - (a + b) = upN b - b := by unfold upN; omega
theorem datS_snoc {l : List Bl} {k : Nat} {t : Bl} (h : l[k]? = some t) : datS (l.take (k + 1)) = datS (l.take k) ++ plainS t ++ List.replicate (upN (plainS t).length - (plainS t).length) 0 := by
  rw [take_snoc' h, datS_append]
  unfold datS padS
  simp
end Go.Proofs.Ytejombofjakllaa

namespace Go.Proofs.Ytejombofjakllaa
open Go.RowKit Go.Shelf

def layO (raw : List UInt8) : Option Nat → List UInt8
  | none => raw
  | some h => fixS raw h
theorem lay_is {v : Int} {S : List Bl} {n : Nat} {oh : Option Nat} (hn : S.length = n) (ho : hdA (12 + 16 * n) S = oh) : layS v S = layO (rawS v S) oh := by
  subst hn ho
  unfold layS
  cases hdA (12 + 16 * S.length) S <;> rfl
/-- What Build hands back. -/
def BdR (N : List UInt8) (x : Int) (w : World) (e : Ending) (w' : World) : Prop := ∃ A' c', e = .returned (.tuple #[.slice A' N.length c', .int .i64 x]) ∧ Bs w' A' N c' ∧ (∀ k, rowOf A' = some k → w.heap.size ≤ k) ∧ Below w.heap.size w w'
theorem bd_bad {v : Int} {l : List Bl} {x : Int} {w w' : World} (h : chkS v l = x) (hx : x ≠ 0) (hb : Below w.heap.size w w') : BdR (buildS v l) (chkS v l) w (.returned (.tuple #[.slice none 0 0, .int .i64 x])) w' := by
  have hn : buildS v l = [] := by unfold buildS; rw [if_neg (by rw [h]; exact hx)]
  rw [hn, h]
  exact ⟨none, 0, rfl, Bs.nil w', fun k e => (by cases e), hb⟩
theorem bd_ok {v : Int} {l : List Bl} {N : List UInt8} {w w' : World} {A : Option Addr} {c : Nat} (h : chkS v l = 0) (hN : layS v (srtT l) = N) (hs : Bs w' A N c) (hr : ∀ k, rowOf A = some k → w.heap.size ≤ k) (hb : Below w.heap.size w w') : BdR (buildS v l) (chkS v l) w (.returned (.tuple #[.slice A N.length c, .int .i64 0])) w' := by
  have hn : buildS v l = N := by unfold buildS; rw [if_pos h]; exact hN
  rw [hn, h]
  exact ⟨A, c, rfl, hs, hr, hb⟩
set_option maxRecDepth 100000 in
set_option maxHeartbeats 8000000 in
theorem Build_any {w : World} {A : Option Addr} {n c : Nat} {es : List Bm} (v : Int) (h : BlL w A n es) (hm : n ≤ 140737488355328) :
    Calls Try.prog 10 #[.int .i64 v, .slice A n c] w (BdR (buildS v (es.map bmS)) (chkS v (es.map bmS)) w) := by
  have hl := h.len
  obtain ⟨l, hll⟩ : ∃ l, es.map bmS = l := ⟨_, rfl⟩
  have hln : l.length = n := by rw [← hll, List.length_map]; exact hl
  have hck := check_any (c := c) v h hm
  rw [hll] at hck ⊢
  by_cases h0 : chkS v l = 0
  case neg =>
    obtain ⟨x, hx⟩ : ∃ x, chkS v l = x := ⟨_, rfl⟩
    have HB := Lib.hid fun (w' : World) (hb : Below w.heap.size w w') => bd_bad hx (by rw [← hx]; exact h0) hb
    have hx0 : (x != 0) = true := by simp; rw [← hx]; exact h0
    have HC : Hid (Calls Try.prog 19 #[.int .i64 v, .slice A n c] w fun e w' => e = .returned (.tuple #[.int .i64 0, .int .i64 x]) ∧ Below w.heap.size w w') := Lib.hid (hck.mono fun e w' h => by
      unfold CkR at h
      rw [if_neg h0, hx] at h
      exact h)
    clear hck h hl hll hln h0 hx
    generalize BdR (buildS v l) (chkS v l) w = R at *
    go_enter Try.func10, Try.ntmps10
    go_wp2_with (first
      | (go_at_call 19; (with_reducible refine HC.out.mono ?_); rintro e w1 ⟨rfl, hb1⟩; have HB1 := Lib.hid hb1; clear hb1)
      | fail)
    exact HB.out _ HB1.out
  case pos =>
  obtain ⟨k1, k2, k3, k4, k5, k6⟩ := chk_ok h0
  rw [hln] at k2 k3
  have HC : Hid (Calls Try.prog 19 #[.int .i64 v, .slice A n c] w fun e w' => e = .returned (.tuple #[.int .i64 (sizeS4 l : Nat), .int .i64 0]) ∧ Below w.heap.size w w') := Lib.hid (hck.mono fun e w' h => by
    unfold CkR at h
    rw [h0, if_pos rfl] at h
    exact h)
  obtain ⟨sz, hsz⟩ : ∃ sz, sizeS4 l = sz := ⟨_, rfl⟩
  rw [hsz] at HC k6
  have hlen : ∀ t ∈ srtT l, t.1.length = 4 := fun t ht => tag_len (k4 t ((srtT_perm l).mem_iff.1 ht))
  have hsz2 : sizeS4 (srtT l) = sz := by rw [sizeS4_perm (srtT_perm l)]; exact hsz
  have hsl : (srtT l).length = n := by rw [srtT_len]; exact hln
  have HBD := Lib.hid fun (N : List UInt8) (w' : World) (A : Option Addr) (c : Nat) (hN : layS v (srtT l) = N) (hs : Bs w' A N c) (hr : ∀ k, rowOf A = some k → w.heap.size ≤ k) (hb : Below w.heap.size w w') => bd_ok h0 hN hs hr hb
  have HND : Hid (TagNd (es.map bmS)) := Lib.hid (by rw [hll]; exact k5)
  have HLL := Lib.hid hll
  have HESL := Lib.hid hl
  have HLEN := Lib.hid hlen
  have HSZ := Lib.hid hsz2
  have HSL := Lib.hid hsl
  have H := Lib.hid h
  have hsrt : ∀ ds : List Bm, ds.Perm es → (TagNd (es.map bmS) → TagUp (ds.map bmS)) → ds.map bmS = srtT l := fun ds hp hu => by rw [← hll]; exact srt_is HND.out (hp.map bmS) (hu HND.out)
  have HSRT := Lib.hid hsrt
  obtain ⟨S, hS⟩ : ∃ S, srtT l = S := ⟨_, rfl⟩
  rw [hS] at HLEN HSZ HSL HBD HSRT
  clear hck h hl hll hln h0 k1 k4 k5 hsz hlen hsz2 hsl hsrt hS
  generalize BdR (buildS v l) (chkS v l) w = R at *
  have hsz0 : (0 : Int) ≤ (sz : Int) := by omega
  have hszr : (sz : Int) ≤ 1099511627776 := by omega
  have hnil : ∀ {u : World}, ∀ p ∈ ([] : List (Nat × Obj)), u.heap[p.1]? = some p.2 := fun p hp => by cases hp
  have hszf : sizeS4 S ≤ 1048576 := by rw [HSZ.out]; exact k6
  go_enter Try.func10, Try.ntmps10
  go_upto_region 8 with (first
    | (go_at_call 19; (with_reducible refine HC.out.mono ?_); rintro e w1 ⟨rfl, hb1⟩; have HB1 := Lib.hid hb1; have H1 := Lib.hid (H.out.keep hb1); clear hb1)
    | (go_at_call 20; (with_reducible refine (cloneBm_any H1.out k2 (by omega)).mono ?_); rintro e w2 ⟨g, c2, rfl, hg2, hgl, hc2, hH, hb2⟩; have HB2 := Lib.hid (HB1.out.trans (hb2.mono HB1.out.size)); have hgw : w.heap.size ≤ g := Nat.le_trans HB1.out.size hg2; have HH := Lib.hid hH; clear hb2 hH hg2)
    | (go_at_call 21; (with_reducible refine (sortBm_any hgl HESL.out (by omega) HH.out w.heap.size hgw).mono ?_); rintro e w3 ⟨rfl, ds, hperm, hup, hrows, hb3, hz3⟩; have HB3 := Lib.hid (HB2.out.trans hb3); have HE := Lib.hid (HSRT.out ds hperm hup); have HBL : Hid (BlL w3 (some ⟨g, 0, none⟩) n ds) := Lib.hid ⟨hrows, fun v hv => (H.out.data v (hperm.mem_iff.1 hv)).keep HB3.out, fun v hv => H.out.cap v (hperm.mem_iff.1 hv), fun v hv => H.out.small v (hperm.mem_iff.1 hv)⟩; clear hperm hup hrows hb3)
    | (go_at_call 24; (with_reducible refine (to_I w3 w3 (sz : Int) hsz0 aft_refl [] hnil).mono ?_); rintro e w4 ⟨gW, rfl, hI4⟩; have HI4 := Lib.hid hI4; clear hI4)
    | (go_at_call 25; (with_reducible refine (directory_any v HI4.out hsz0 hszr HBL.out HE.out k2 k3 hszf).mono ?_); rintro e w5 ⟨rfl, hI5⟩; have HI5 := Lib.hid hI5; clear hI5)
    | fail)
  obtain ⟨M, hM⟩ : ∃ M, hdrS v n ++ dirS (12 + 16 * n) S = M := ⟨_, rfl⟩
  have hMl : M.length = 12 + 16 * n := by rw [← hM, List.length_append, hdrS_len, dirS_len _ HLEN.out, HSL.out]
  have hI5 := HI5.out
  rw [List.nil_append, hM] at hI5
  have HI := Lib.hid hI5
  have HM := Lib.hid hM
  obtain ⟨oh, hoh⟩ : ∃ oh, hdA (12 + 16 * n) S = oh := ⟨_, rfl⟩
  rw [hoh]
  have HOH := Lib.hid hoh
  clear hI5 hM hoh HI4 HI5 HH HND HSRT HLL HESL H1 H HC hnil
  go_upto_region 9 with fail
  go_loopw [36] (fun i wr => ∃ k : Nat, k ≤ n ∧ i = .int .i64 k ∧ Hid (IW w3.heap.size w3 wr gW (M ++ datS (S.take k)) (sz : Int) [])) (fun i _ => n - (intOf i).toNat)
  case atStart => exact ⟨0, Nat.zero_le _, rfl, Lib.hid (by rw [List.take_zero]; show IW _ _ _ _ (M ++ []) _ _; rw [List.append_nil]; exact HI.out)⟩
  case round =>
    obtain ⟨k, hk, rfl, HK⟩ := hrel
    by_cases hkn : k < n
    · have d1 : decide ((k : Int) < n) = true := by simp; omega
      obtain ⟨⟨vt, vA, vc, vd⟩, hv⟩ := get_some' (l := ds) (k := k) (by rw [HBL.out.len]; exact hkn)
      obtain ⟨b, o, hA, hb, hc0, hc1⟩ := HBL.out.at_ hv
      injection hA with hA
      injection hA with e1 e2
      subst e1 e2
      have hmem := List.mem_of_getElem? hv
      have hdat := HBL.out.data _ hmem
      obtain ⟨hs1, hs2⟩ := HBL.out.small _ hmem
      dsimp only at hc0 hc1 hdat hs1 hs2
      have hlk : S[k]? = some (vt, vd) := by rw [← HE.out, List.getElem?_map, hv]; rfl
      have hbw := HK.out.below
      have r0 : wr.cell? ⟨g, 0 + k * 2, none⟩ = some (.string (strB vt)) := (hbw.cell (p := ⟨g, 0 + k * 2, none⟩) hb).trans hc0
      have r1 : wr.cell? ⟨g, 0 + k * 2 + 1, none⟩ = some (.slice vA vd.length vc) := (hbw.cell (p := ⟨g, 0 + k * 2 + 1, none⟩) hb).trans hc1
      simp only [Nat.zero_add] at r0 r1
      have hbl := Nat.lt_of_lt_of_le hb hbw.size
      have hnew := HK.out.new (.cells #[.string (strB vt), .slice vA vd.length vc] 36)
      obtain ⟨xb, hxb⟩ : ∃ xb, wr.heap.size = xb := ⟨_, rfl⟩
      have hpl := plain_len (vt, vd)
      dsimp only at hpl
      have hds := datS_snoc hlk
      have hfin : (M ++ datS (S.take k) ++ plainS (vt, vd)) ++ List.replicate (upN (M ++ datS (S.take k) ++ plainS (vt, vd)).length - (M ++ datS (S.take k) ++ plainS (vt, vd)).length) 0 = M ++ datS (S.take (k + 1)) := by
        rw [hds]
        have h1 : (M ++ datS (S.take k)).length % 4 = 0 := by
          rw [List.length_append, hMl, datS_len]
          have := totS_mod (S.take k)
          omega
        rw [List.length_append (bs := plainS (vt, vd)), upN_add h1]
        simp
      have HFN := Lib.hid hfin
      have HDT := Lib.hid fun (u : World) (hu : Below w3.heap.size w3 u) => slat_keptB hdat hu
      clear hc0 hc1 hv hmem hbw hfin hds hdat
      go_upto_region 11 with fail
      obtain ⟨u1, hu1⟩ : ∃ u1, wr.alloc (.cells #[.string (strB vt), .slice vA vd.length vc] 36) = u1 := ⟨_, rfl⟩
      rw [hu1, hxb] at hnew
      rw [hu1]
      have HN := Lib.hid hnew
      have hB0 : Blk u1 xb 36 [.string (strB vt), .slice vA vd.length vc] := hnew.box (List.mem_cons_self ..)
      have x0 : u1.cell? ⟨xb, 0, none⟩ = some (.string (strB vt)) := hB0.cell 0
      have x1 : u1.cell? ⟨xb, 1, none⟩ = some (.slice vA vd.length vc) := hB0.cell 1
      have xl := hB0.lt
      have hgl1 := HN.out.lt
      clear r0 r1 hu1 hnew hB0
      go_wp2_with (first
        | (go_at_call 27; (with_reducible refine (plain_any vt (HDT.out _ HN.out.below) rfl hs1).mono ?_); rintro e w6 ⟨A6, c6, rfl, hc6, _, hr6, hs6, hb6⟩; have HI6 := Lib.hid (HN.out.keep hb6); have HS6 := Lib.hid hs6; have hne : 0 < vd.length → rowOf A6 ≠ some gW := (fun _ e => by have := (hr6 _ e).1; omega); clear hb6 hs6 hr6)
        | (go_at_call 26; (with_reducible refine (data_J HI6.out hsz0 hszr _ _ _ (plainS (vt, vd)) hpl HS6.out hne).mono ?_); rintro e w7 ⟨rfl, hI⟩; have HI7 := Lib.hid hI; clear hI)
        | (go_at_call 28; (with_reducible refine (pad_J HI7.out hsz0 hszr).mono ?_); rintro e w8 ⟨rfl, hI⟩; rw [HFN.out] at hI; have HI8 := Lib.hid hI.drop; clear hI)
        | fail)
      go_roundw
      case rel => exact ⟨k + 1, by omega, by go_num, HI8⟩
      case measure => simp [intOf]; omega
    · obtain rfl : k = n := by omega
      have hraw : M ++ datS (S.take k) = rawS v S := by
        rw [List.take_of_length_le (by rw [HSL.out]; exact Nat.le_refl _), ← HM.out]
        unfold rawS
        rw [HSL.out]
      have hrl : (rawS v S).length = sz := by rw [rawS_len HLEN.out, HSZ.out]
      have hlay := lay_is (v := v) HSL.out HOH.out
      have hfit : ∀ hh, oh = some hh → hh + 12 ≤ sz ∧ hh % 4 = 0 ∧ 12 ≤ hh := fun hh he => by
        have := hdA_fit (v := v) HLEN.out (h := hh) (by rw [HSL.out, HOH.out]; exact he)
        rw [hrl] at this
        exact this
      have hK := HK.out
      rw [hraw] at hK
      obtain ⟨N, hN⟩ : ∃ N, rawS v S = N := ⟨_, rfl⟩
      rw [hN] at hK hrl hlay
      have HKN := Lib.hid hK
      have hB3 := hK.below
      have hNs : (N.length : Int) ≤ sz := by omega
      have hNb : N.length ≤ 140737488355328 := by omega
      have HBW := Lib.hid (HB3.out.trans (hB3.mono HB3.out.size))
      have hz3 := HBW.out.size
      have hsz12 : 12 ≤ sz := by rw [← HSZ.out]; unfold sizeS4; omega
      have hN0 : 0 < N.length := by omega
      have HRL := Lib.hid hrl
      have d1 : decide ((k : Int) < k) = false := by simp
      clear hraw hK hB3 hN HI HM HOH HE HBL hrl
      cases oh with
      | none =>
        have HL := Lib.hid hlay
        clear hlay hfit
        have e1 : hdI none = -1 := rfl
        rw [e1]
        go_wp2_with (first
          | (go_at_call 29; (with_reducible refine (done_B HKN.out hNs hNb).mono ?_); rintro e w9 ⟨A9, c9, rfl, hc9, _, hr9, hs9, hb9⟩; have HS9 : Hid (Bs w9 A9 N c9) := Lib.hid ⟨hs9, hc9, hNb, fun k hk => (hr9 k hk).2⟩; have HR9 := Lib.hid fun k hk => Nat.le_trans hz3 (hr9 k hk).1; have HB9 := Lib.hid (HBW.out.trans (hb9.mono hz3)); clear hs9 hr9 hb9)
          | fail)
        exact HBD.out N w9 A9 c9 HL.out HS9.out HR9.out HB9.out
      | some hh =>
        have e1 : hdI (some hh) = (hh : Int) := rfl
        rw [e1]
        obtain ⟨f1, f2, f3⟩ := hfit hh rfl
        have HL := Lib.hid hlay
        clear hlay hfit
        have d3 : decide ((hh : Int) < 0) = false := by simp
        go_upto_region 16 with (first
          | (go_at_call 29; (with_reducible refine (done_B HKN.out hNs hNb).mono ?_); rintro e w9 ⟨A9, c9, rfl, hc9, hby, hr9, hs9, hb9⟩; obtain ⟨g9, rfl, hg9, hbt9⟩ := hby hN0; have HBT := Lib.hid hbt9; have HS9 := Lib.hid hs9; have hgw9 := Nat.le_trans hz3 hg9; have HB9 := Lib.hid (HBW.out.trans (hb9.mono hz3)); clear hs9 hr9 hb9 hby hbt9)
          | fail)
        have f4 : hh + 12 ≤ N.length := by rw [HRL.out]; exact f1
        have hnil : ∀ p ∈ ([] : List (Nat × Obj)), w9.heap[p.1]? = some p.2 := fun p hp => by cases hp
        have h40 : (0 : Int) ≤ 4 := by decide
        have h4r : (4 : Int) ≤ 1099511627776 := by decide
        have hsb := sumS_bd N
        obtain ⟨sm, hsm⟩ : ∃ sm, sumS N = sm := ⟨_, rfl⟩
        rw [hsm] at hsb
        obtain ⟨sm0, sm1⟩ := hsb
        obtain ⟨xs, hxs⟩ : ∃ xs, beB 4 ((2981146554 - sm) % 4294967296) = xs := ⟨_, rfl⟩
        have hxl : xs.length = 4 := by rw [← hxs]; exact beB_length 4 _
        have hfx : fixS N hh = N.take (hh + 8) ++ xs ++ N.drop (hh + 12) := by
          unfold fixS
          rw [hsm, ← hxs, show (2981146554 - sm + 4294967296) % 4294967296 = (2981146554 - sm) % 4294967296 by omega]
        have HXS := Lib.hid hxs
        have HFX := Lib.hid hfx
        have HSM := Lib.hid hsm
        have h44 : ((4 : Nat) : Int) ≤ 4 := by decide
        have h4b : 4 ≤ 140737488355328 := by decide
        have HXL := Lib.hid hxl
        clear hsm hfx hxs hxl
        go_upto_region 17 with (first
          | (go_at_call 24; (with_reducible refine (to_I w9 w9 4 h40 aft_refl [] hnil).mono ?_); rintro e w10 ⟨gX, rfl, hI⟩; have HI10 := Lib.hid hI; clear hI)
          | (go_at_call 15; (with_reducible refine (Sum_any (slat_keptB HS9.out HI10.out.below) rfl hc9 hNb).mono ?_); rw [HSM.out]; rintro e w11 ⟨rfl, hb11⟩; have HI11 := Lib.hid (HI10.out.keep hb11); clear hb11)
          | (go_at_call 30; (with_reducible refine (u32_I HI11.out h40 h4r _).mono ?_); rintro e w12 ⟨rfl, hI⟩; rw [List.nil_append, HXS.out] at hI; have HI12 := Lib.hid hI; clear hI)
          | (go_at_call 29; (with_reducible refine (done_m HI12.out HXL.out h44 h4b).mono ?_); rintro e w13 ⟨A13, c13, rfl, hs13, hb13⟩; have HS13 := Lib.hid hs13; have HB13 := Lib.hid (HI12.out.below.trans (hb13.mono HI12.out.size)); clear hs13 hb13)
          | fail)
        obtain ⟨ex, hex⟩ := HBT.out.keepB HB13.out
        have HEX := Lib.hid hex
        have hxl := HXL.out
        have hcn : (xs.map byteV).length = min 4 (N.length - (hh + 8)) := by rw [List.length_map, hxl]; omega
        have hcs : ∀ j, j < (xs.map byteV).length → ∃ b o, A13 = some ⟨b, o, none⟩ ∧ w13.cell? ⟨b, o + j, none⟩ = (xs.map byteV)[j]? := fun j hj => by
          obtain ⟨b, o, h1, _, h2⟩ := HS13.out.2 j (by rw [List.length_map, hxl] at hj; exact hj)
          exact ⟨b, o, h1, h2⟩
        have hcf : hh + 8 + (xs.map byteV).length ≤ (N.map byteV ++ ex).length := by rw [List.length_map, hxl, List.length_append, List.length_map]; omega
        have hfl : (fixS N hh).length = N.length := by rw [HFX.out]; simp [hxl]; omega
        have hspl : splice (N.map byteV ++ ex) (hh + 8) (xs.map byteV) = (fixS N hh).map byteV ++ ex := by
          unfold splice
          rw [HFX.out, List.length_map, hxl, List.take_append_of_le_length (by rw [List.length_map]; omega), List.drop_append_of_le_length (by rw [List.length_map]; omega), ← List.map_take, ← List.map_drop]
          simp
        have HF := Lib.hid fun (w' : World) (hb : Below w.heap.size w w') (hby : Byt w' g9 (fixS N hh)) => (show R (.returned (.tuple #[.slice (some ⟨g9, 0, none⟩) N.length c9, .int .i64 0])) w' from by
          have hf := HBD.out (fixS N hh) w' (some ⟨g9, 0, none⟩) c9 HL.out ⟨hby.sl, by rw [hfl]; exact hc9, by rw [hfl]; exact hNb, fun k hk => by simp [rowOf] at hk; subst hk; exact hby.lt⟩ (fun k hk => by simp [rowOf] at hk; subst hk; exact hgw9) hb
          rw [hfl] at hf
          exact hf)
        have hb13 := HB9.out.trans (HB13.out.mono HB9.out.size)
        have hsz13 := hb13.size
        have HB := Lib.hid hb13
        have hone := bytes_one xs
        have HSPL := Lib.hid hspl
        clear hxl hfl hspl hex hb13
        obtain ⟨w14, hrun, hb14, ht14⟩ := run_copy_blk (w := w13) (A := some ⟨g9, hh + 8, none⟩) (As := A13) (dl := N.length - (hh + 8)) (dc := c9 - (hh + 8)) (sl := 4) (sc := c13) 3 HEX.out (hh + 8) (xs.map byteV) hcn (fun _ => rfl) hcs hcf hone
        rw [HSPL.out] at hb14
        have HBY : Hid (Byt w14 g9 (fixS N hh)) := Lib.hid ⟨ex, hb14⟩
        have HB14 := Lib.hid (HB.out.trans (ht14.below hsz13 hgw9 (fun k e => (by cases e))))
        clear hb14 ht14 hcn hcs hcf hone
        go_wp2_with fail
        exact HF.out _ HB14.out HBY.out
end Go.Proofs.Ytejombofjakllaa

namespace Go.Proofs.Ytejombofjakllaa
open Go.RowKit Go.Shelf

/-- A table in memory. -/
structure Tm where
  t : List UInt8
  o : Int
  z : Int
  s : Int
instance : Inhabited Tm := ⟨⟨[], 0, 0, 0⟩⟩
def tmC (v : Tm) : List Value := [.string (strB v.t), .int .i64 v.o, .int .i64 v.z, .int .i64 v.s]
theorem tmC_len (x : Tm) : (tmC x).length = 4 := rfl
theorem tmC_lens (es : List Tm) : ∀ r ∈ es.map tmC, r.length = 4 := fun r hr => by obtain ⟨s, _, rfl⟩ := List.mem_map.1 hr; rfl
theorem tmC_one (x : Tm) : ∀ u ∈ tmC x, u.oneCell' = true := fun u hu => by
  simp only [tmC, List.mem_cons, List.mem_nil_iff, or_false] at hu
  rcases hu with rfl | rfl | rfl | rfl <;> rfl
theorem tmC_ones (es : List Tm) : ∀ u ∈ (es.map tmC).flatten, u.oneCell' = true := fun u hu => by
  obtain ⟨r, hr, hu⟩ := List.mem_flatten.1 hu
  obtain ⟨s, _, rfl⟩ := List.mem_map.1 hr
  exact tmC_one s u hu
/-- A row of tables of the call's own: its cells, none of them frozen. -/
def TmH (w : World) (g : Nat) (l : List Tm) : Prop := ∀ i x, l[i]? = some x → ∀ j v, (tmC x)[j]? = some v → w.cell? ⟨g, i * 4 + j, none⟩ = some v ∧ w.frozen? ⟨g, i * 4 + j, none⟩ = false
section
variable {w w' : World} {g : Nat} {l : List Tm}
theorem TmH.four (h : TmH w g l) {i : Nat} {x : Tm} (hx : l[i]? = some x) : w.cell? ⟨g, i * 4, none⟩ = some (.string (strB x.t)) ∧ w.cell? ⟨g, i * 4 + 1, none⟩ = some (.int .i64 x.o) ∧ w.cell? ⟨g, i * 4 + 2, none⟩ = some (.int .i64 x.z) ∧ w.cell? ⟨g, i * 4 + 3, none⟩ = some (.int .i64 x.s) :=
  ⟨(h i x hx 0 _ rfl).1, (h i x hx 1 _ rfl).1, (h i x hx 2 _ rfl).1, (h i x hx 3 _ rfl).1⟩
theorem TmH.ice (h : TmH w g l) {i : Nat} {x : Tm} (hx : l[i]? = some x) : w.frozen? ⟨g, i * 4, none⟩ = false ∧ w.frozen? ⟨g, i * 4 + 1, none⟩ = false ∧ w.frozen? ⟨g, i * 4 + 2, none⟩ = false ∧ w.frozen? ⟨g, i * 4 + 3, none⟩ = false :=
  ⟨(h i x hx 0 _ rfl).2, (h i x hx 1 _ rfl).2, (h i x hx 2 _ rfl).2, (h i x hx 3 _ rfl).2⟩
theorem TmH.same (h : TmH w g l) (hb : w'.heap[g]? = w.heap[g]?) : TmH w' g l := fun i x hx j v hv => by
  obtain ⟨h1, h2⟩ := h i x hx j v hv
  exact ⟨(World.cell?_of_block hb).trans h1, by rw [← h2]; unfold World.frozen?; rw [hb]⟩
theorem TmH.keep (h : TmH w g l) (hg : g < w.heap.size) (hb : Below w.heap.size w w') : TmH w' g l := h.same (hb.block g hg)
theorem TmH.take (h : TmH w g l) (k : Nat) : TmH w g (l.take k) := fun i x hx j v hv => by
  rw [List.getElem?_take] at hx
  split at hx
  · exact h i x hx j v hv
  · cases hx
theorem TmH.of_blk {t : TypeId} {ex : List Value} (h : Blk w g t ((l.map tmC).flatten ++ ex)) : TmH w g l := fun i x hx j v hv => by
  have hj : j < 4 := by have := (List.getElem?_eq_some_iff.1 hv).1; rwa [tmC_len] at this
  have hi := (List.getElem?_eq_some_iff.1 hx).1
  refine ⟨?_, h.frozen _⟩
  have hfl := flatten_at 4 (l.map tmC) i j (tmC x) (tmC_lens l) (by rw [List.getElem?_map, hx]; rfl) hj
  have hlen : (l.map tmC).flatten.length = l.length * 4 := by rw [flatten_len 4 _ (tmC_lens l), List.length_map]
  rw [h.cell (i * 4 + j), List.getElem?_append_left (by omega), hfl, hv]
theorem TmH.rows (h : TmH w g l) (hg : g < w.heap.size) : RowsAt w (some ⟨g, 0, none⟩) l.length 4 (l.map tmC) := by
  refine ⟨by simp, fun i r hr => ?_⟩
  rw [List.getElem?_map] at hr
  obtain ⟨x, hx, rfl⟩ := Option.map_eq_some_iff.1 hr
  exact ⟨rfl, g, 0, rfl, hg, fun j v hv => by rw [Nat.zero_add]; exact (h i x hx j v hv).1⟩
theorem TmH.sort (h : TmH w g l) : Sort.HoldsK tmC 4 w g 0 l.toArray := by
  intro j hj
  rw [Sort.size_flatK] at hj
  simp only [List.size_toArray] at hj
  rw [Sort.get_flatK _ _ _ _ (by simpa using hj), Nat.zero_add]
  have hi : j / 4 < l.length := by omega
  have h2 : j % 4 < (tmC l[j / 4]).length := by rw [tmC_len]; omega
  have hh := h (j / 4) l[j / 4] (List.getElem?_eq_getElem hi) (j % 4) (tmC l[j / 4])[j % 4] (List.getElem?_eq_getElem h2)
  rw [show j / 4 * 4 + j % 4 = j by omega] at hh
  refine ⟨?_, hh.2⟩
  rw [hh.1]
  simp [hi, h2]
theorem TmH.unsort {d : Array Tm} (h : Sort.HoldsK tmC 4 w g 0 d) : TmH w g d.toList := fun i x hx j v hv => by
  have hi : i < d.size := by have := (List.getElem?_eq_some_iff.1 hx).1; simpa using this
  have hj : j < 4 := by have := (List.getElem?_eq_some_iff.1 hv).1; rwa [tmC_len] at this
  have hxe : d[i]! = x := by
    obtain ⟨h1, h2⟩ := List.getElem?_eq_some_iff.1 hx
    rw [getElem!_pos d i hi]
    simpa using h2
  obtain ⟨h1, h2⟩ := h.cell hi hj
  rw [Nat.zero_add] at h1 h2
  refine ⟨?_, h2⟩
  rw [h1, hxe]
  congr 1
  rw [List.getElem?_eq_getElem (by rw [tmC_len]; exact hj)] at hv
  injection hv with hv
  rw [getElem!_pos (tmC x) j (by rw [tmC_len]; exact hj)]
  exact hv
end
/-- .. and the block known whole. -/
def TmB (w : World) (g : Nat) (l : List Tm) : Prop := ∃ (t : TypeId) (ex : List Value), Blk w g t ((l.map tmC).flatten ++ ex)
theorem flat_set (l : List Tm) (ex : List Value) (i : Nat) (x : Tm) (h : i < l.length) :
    (((((l.map tmC).flatten ++ ex).set (i * 4) (.string (strB x.t))).set (i * 4 + 1) (.int .i64 x.o)).set (i * 4 + 2) (.int .i64 x.z)).set (i * 4 + 3) (.int .i64 x.s) = ((l.set i x).map tmC).flatten ++ ex := by
  obtain ⟨p, y, q, rfl, hp⟩ : ∃ p y q, l = p ++ y :: q ∧ p.length = i := by
    refine ⟨l.take i, l[i], l.drop (i + 1), ?_, by simp; omega⟩
    rw [← List.drop_eq_getElem_cons h, List.take_append_drop]
  have hP : (p.map tmC).flatten.length = i * 4 := by rw [flatten_len 4 _ (tmC_lens p), List.length_map, hp]
  have hset : (p ++ y :: q).set i x = p ++ x :: q := by
    rw [List.set_append_right _ _ (by omega), show i - p.length = 0 by omega]
    rfl
  rw [hset]
  simp only [List.map_append, List.map_cons, List.flatten_append, List.flatten_cons, List.append_assoc]
  generalize (p.map tmC).flatten = P at *
  generalize (q.map tmC).flatten ++ ex = Q at *
  rw [List.set_append_right _ _ (by omega), show i * 4 - P.length = 0 by omega, List.set_append_right _ _ (by omega), show i * 4 + 1 - P.length = 1 by omega, List.set_append_right _ _ (by omega), show i * 4 + 2 - P.length = 2 by omega, List.set_append_right _ _ (by omega), show i * 4 + 3 - P.length = 3 by omega]
  rfl
section
variable {w w' : World} {g : Nat} {l : List Tm}
theorem TmB.tmh (h : TmB w g l) : TmH w g l := by
  obtain ⟨t, ex, h⟩ := h
  exact .of_blk h
theorem TmB.lt (h : TmB w g l) : g < w.heap.size := by
  obtain ⟨t, ex, h⟩ := h
  exact h.lt
theorem TmB.keep (h : TmB w g l) (hb : Below w.heap.size w w') : TmB w' g l := by
  obtain ⟨t, ex, h⟩ := h
  exact ⟨t, ex, h.keepB hb⟩
theorem TmB.put (h : TmB w g l) {i : Nat} (hi : i < l.length) (x : Tm) : TmB ((((w.setCell ⟨g, i * 4, none⟩ (.string (strB x.t))).setCell ⟨g, i * 4 + 1, none⟩ (.int .i64 x.o)).setCell ⟨g, i * 4 + 2, none⟩ (.int .i64 x.z)).setCell ⟨g, i * 4 + 3, none⟩ (.int .i64 x.s)) g (l.set i x) := by
  obtain ⟨t, ex, h⟩ := h
  refine ⟨t, ex, ?_⟩
  rw [← flat_set l ex i x hi]
  exact (((h.set (i * 4) _).set (i * 4 + 1) _).set (i * 4 + 2) _).set (i * 4 + 3) _
end
end Go.Proofs.Ytejombofjakllaa

namespace Go.Proofs.Ytejombofjakllaa
open Go.RowKit Go.Shelf

theorem closA_any (x : Tm) (w : World) : Calls Try.prog 60 #[.agg #[.string (strB x.t), .int .i64 x.o, .int .i64 x.z, .int .i64 x.s]] w fun e w' => e = .returned (.bool (x.z == 0)) ∧ Below w.heap.size w w' := by
  go_enter Try.func60, Try.ntmps60
  go_wp2_with fail
  go_ret
  exact ⟨rfl, (bel_alloc bel_refl).below⟩
/-- Where the first table without bytes is; -1: there is none. -/
def IdxI (l : List Tm) (r : Int) : Prop := (r = -1 ∧ ∀ x ∈ l, x.z ≠ 0) ∨ ∃ i : Nat, r = i ∧ i < l.length ∧ (∀ x, l[i]? = some x → x.z = 0) ∧ ∀ x ∈ l.take i, x.z ≠ 0
def IdR (l : List Tm) (w : World) (e : Ending) (w' : World) : Prop := (∃ r : Int, e = .returned (.int .i64 r) ∧ IdxI l r) ∧ Below w.heap.size w w'
theorem id_no {l : List Tm} {w w' : World} (h : ∀ x ∈ l, x.z ≠ 0) (hb : Below w.heap.size w w') : IdR l w (.returned (.int .i64 (-1))) w' := ⟨⟨-1, rfl, .inl ⟨rfl, h⟩⟩, hb⟩
theorem id_at {l : List Tm} {i : Nat} {x : Tm} {w w' : World} (hx : l[i]? = some x) (h0 : x.z = 0) (h : ∀ x ∈ l.take i, x.z ≠ 0) (hb : Below w.heap.size w w') : IdR l w (.returned (.int .i64 i)) w' :=
  ⟨⟨i, rfl, .inr ⟨i, rfl, (List.getElem?_eq_some_iff.1 hx).1, fun y hy => by rw [hx] at hy; injection hy with hy; subst hy; exact h0, h⟩⟩, hb⟩
set_option maxRecDepth 20000 in
set_option maxHeartbeats 2000000 in
theorem indexF_any {w : World} {g n c : Nat} {l : List Tm} (h : TmH w g l) (hg : g < w.heap.size) (hn : l.length = n) (hm : n ≤ 1000) :
    Calls Try.prog 77 #[.slice (some ⟨g, 0, none⟩) n c, .func (.func 60) #[] #[]] w (IdR l w) := by
  have H := Lib.hid h
  have HN := Lib.hid hn
  clear h hn
  go_enter Try.func77, Try.ntmps77
  go_wp2_with fail
  go_loopw [8] (fun i wr => ∃ k : Nat, k ≤ n ∧ i = .int .i64 k ∧ Hid (∀ x ∈ l.take k, x.z ≠ 0) ∧ Hid (Below w.heap.size w wr)) (fun i _ => n - (intOf i).toNat)
  case atStart => exact ⟨0, Nat.zero_le _, rfl, Lib.hid (by simp), Lib.hid (Below.refl _ _)⟩
  case round =>
    obtain ⟨k, hk, rfl, HZ, HB⟩ := hrel
    by_cases hlt : k < n
    · have hkn : (k : Int) < n := by omega
      obtain ⟨x, hx⟩ := get_some' (l := l) (k := k) (by rw [HN.out]; exact hlt)
      obtain ⟨a0, a1, a2, a3⟩ := ((H.out.keep hg HB.out).four hx)
      have hgr := Nat.lt_of_lt_of_le hg HB.out.size
      have HC := Lib.hid (closA_any x wr)
      by_cases hz : x.z = 0
      · have e1 : (x.z == 0) = true := by simpa using hz
        rw [e1] at HC
        have HR := Lib.hid fun w' (hb : Below w.heap.size w w') => id_at hx hz HZ.out hb
        clear hx hz e1
        generalize IdR l w = R at *
        go_wp2_with (first
          | (go_at_call 60; (with_reducible refine HC.out.mono ?_); rintro e w1 ⟨rfl, hb1⟩; have HB1 := Lib.hid (HB.out.trans (hb1.mono HB.out.size)); clear hb1)
          | fail)
        exact HR.out _ HB1.out
      · have e1 : (x.z == 0) = false := by simpa using hz
        rw [e1] at HC
        have HZ2 : Hid (∀ y ∈ l.take (k + 1), y.z ≠ 0) := Lib.hid (by
          rw [take_snoc' hx]
          intro y hy
          rcases List.mem_append.1 hy with hy | hy
          · exact HZ.out y hy
          · simp at hy; subst hy; exact hz)
        clear hx hz e1
        go_wp2_with (first
          | (go_at_call 60; (with_reducible refine HC.out.mono ?_); rintro e w1 ⟨rfl, hb1⟩; have HB1 := Lib.hid (HB.out.trans (hb1.mono HB.out.size)); clear hb1)
          | fail)
        go_roundw
        case rel => exact ⟨k + 1, by omega, by go_num, HZ2, HB1⟩
        case measure => simp [intOf]; omega
    · obtain rfl : k = n := by omega
      have HR := Lib.hid fun w' (hb : Below w.heap.size w w') => id_no (l := l) (fun x hx => HZ.out x (by rw [List.take_of_length_le (by rw [HN.out]; exact Nat.le_refl _)]; exact hx)) hb
      generalize IdR l w = R at *
      go_wp2_with fail
      exact HR.out _ HB.out
end Go.Proofs.Ytejombofjakllaa

namespace Go.Proofs.Ytejombofjakllaa
open Go.RowKit Go.Shelf

theorem blk_cells {b : Nat} {t : TypeId} : ∀ (vs : List Value) {w : World} {pre old post : List Value} {o : Nat}, o = pre.length → old.length = vs.length → Blk w b t (pre ++ old ++ post) → Blk (w.setCells b o vs) b t (pre ++ vs ++ post)
  | [], w, pre, old, post, o, ho, hl, h => by
    obtain rfl : old = [] := List.eq_nil_of_length_eq_zero hl
    exact h
  | v :: vs, w, pre, [], post, o, ho, hl, h => by cases hl
  | v :: vs, w, pre, y :: old, post, o, ho, hl, h => by
    subst ho
    have h1 := h.set pre.length v
    have e : (pre ++ y :: old ++ post).set pre.length v = (pre ++ [v]) ++ old ++ post := by
      rw [List.append_assoc, List.set_append_right _ _ (Nat.le_refl _), Nat.sub_self]
      simp
    rw [e] at h1
    have h2 := blk_cells vs (pre := pre ++ [v]) (o := pre.length + 1) (by simp) (by simpa using hl) h1
    simpa [World.setCells] using h2
theorem below_cells {B b : Nat} (hb : B ≤ b) : ∀ (vs : List Value) (o : Nat) {a w : World}, Below B a w → Below B a (w.setCells b o vs)
  | [], _, _, _, h => h
  | v :: vs, o, _a, _w, h => below_cells hb vs (o + 1) (h.setCell hb v)
def tm0 : Tm := ⟨[], 0, 0, 0⟩
theorem zero_tm (n : Nat) (z : Value) (hz : z.cells = (tmC tm0).toArray) : (Builtin.zeroCells z.cells n).toList = ((List.replicate n tm0).map tmC).flatten := by
  rw [hz]
  apply List.ext_getElem?
  intro i
  have hL : ((List.replicate n tm0).map tmC).flatten.length = n * 4 := by rw [flatten_len 4 _ (tmC_lens _)]; simp
  by_cases hi : i < n * 4
  · have h1 := flatten_at 4 ((List.replicate n tm0).map tmC) (i / 4) (i % 4) (tmC tm0) (tmC_lens _) (by rw [List.getElem?_map, List.getElem?_replicate, if_pos (by omega)]; rfl) (by omega)
    rw [show i / 4 * 4 + i % 4 = i by omega] at h1
    rw [h1]
    have hj : i % 4 = 0 ∨ i % 4 = 1 ∨ i % 4 = 2 ∨ i % 4 = 3 := by omega
    have h4 : (tmC tm0).toArray.size = 4 := rfl
    simp only [Builtin.zeroCells, h4]
    have hi2 : i < 4 * n := by omega
    rcases hj with e | e | e | e <;> simp [hi, e, tmC]
  · have h9 : (Builtin.zeroCells (tmC tm0).toArray n).toList.length = 4 * n := by simp [Builtin.zeroCells, tmC, Nat.mul_comm]
    rw [List.getElem?_eq_none (by omega), List.getElem?_eq_none (by omega)]
theorem tm_zero : ∃ z, (∀ w, (zeroValue 42).run Try.prog w = .ok z w) ∧ z.cells = (tmC tm0).toArray := ⟨_, Try.zeroValue42, rfl⟩
theorem TmB.clear {w : World} {g : Nat} {l : List Tm} (h : TmB w g l) {n m : Nat} (hl : l.length = n) (hm : m < n) (ty : TypeId) (c : Nat) : ∃ w', (Builtin.clear_ #[30] ty #[.slice (some ⟨g, m * 4, none⟩) (n - m) c]).run Try.prog w = .ok (.tuple #[]) w' ∧ TmB w' g (l.take m) ∧ Below g w w' := by
  obtain ⟨t, ex, h⟩ := h
  obtain ⟨z, hz, hzc⟩ := tm_zero
  obtain ⟨vs, hvs⟩ : ∃ vs, ((List.replicate (n - m) tm0).map tmC).flatten = vs := ⟨_, rfl⟩
  have hvl : vs.length = (n - m) * 4 := by rw [← hvs, flatten_len 4 _ (tmC_lens _)]; simp
  have hone : ∀ v ∈ vs, v.oneCell' = true := by rw [← hvs]; exact tmC_ones _
  have hlen : (l.map tmC).flatten.length = n * 4 := by rw [flatten_len 4 _ (tmC_lens l), List.length_map, hl]
  have hst := run_storeCells_cells (P := Try.prog) g (m * 4) vs 0 w (fun j hj => by
    have hjl : m * 4 + j < (l.map tmC).flatten.length := by omega
    have hc := h.cell (m * 4 + j)
    rw [List.getElem?_append_left hjl, List.getElem?_eq_getElem hjl] at hc
    simp only [Nat.add_zero]
    rw [hc]
    rfl) (fun j _ => h.frozen _) hone
  simp only [Nat.add_zero] at hst
  obtain ⟨d, hd⟩ : ∃ d, n - m = d + 1 := ⟨n - m - 1, by omega⟩
  refine ⟨w.setCells g (m * 4) vs, ?_, ?_, below_cells (Nat.le_refl g) vs _ (Below.refl g w)⟩
  · have hzz := zero_tm (n - m) z hzc
    rw [hvs, hd] at hzz
    rw [hd]
    simp [Builtin.clear_, run_underlying Try.underlying30, hz, hzz, hst]
  · refine ⟨t, vs ++ ex, ?_⟩
    have hsp : (l.map tmC).flatten ++ ex = ((l.take m).map tmC).flatten ++ ((l.drop m).map tmC).flatten ++ ex := by
      rw [← List.flatten_append, ← List.map_append, List.take_append_drop]
    rw [hsp] at h
    rw [← List.append_assoc]
    refine blk_cells vs ?_ ?_ h
    · rw [flatten_len 4 _ (tmC_lens _)]; simp; omega
    · rw [hvl, flatten_len 4 _ (tmC_lens _)]; simp [hl]

/-- What is left of tables. -/
def keepT (l : List Tm) : List Tm := l.filter fun x => x.z != 0
theorem keepT_all {l : List Tm} (h : ∀ x ∈ l, x.z ≠ 0) : keepT l = l := by
  unfold keepT
  rw [List.filter_eq_self]
  intro x hx
  simpa using h x hx
theorem keepT_take {l : List Tm} {k : Nat} {x : Tm} (h : l[k]? = some x) : keepT (l.take (k + 1)) = if x.z = 0 then keepT (l.take k) else keepT (l.take k) ++ [x] := by
  unfold keepT
  rw [take_snoc' h, List.filter_append]
  by_cases hz : x.z = 0
  · rw [if_pos hz]; simp [hz]
  · rw [if_neg hz]; simp [hz]
/-- The tables while those without bytes are struck out. -/
def DlI (l cur : List Tm) (q k : Nat) : Prop := cur.length = l.length ∧ cur.take q = keepT (l.take k) ∧ ∀ i, k ≤ i → cur[i]? = l[i]?
theorem DlI.start {l : List Tm} {i : Nat} {x : Tm} (hx : l[i]? = some x) (h0 : x.z = 0) (h : ∀ x ∈ l.take i, x.z ≠ 0) : DlI l l i (i + 1) :=
  ⟨rfl, by rw [keepT_take hx, if_pos h0, keepT_all h], fun _ _ => rfl⟩
theorem DlI.skip {l cur : List Tm} {q k : Nat} {x : Tm} (h : DlI l cur q k) (hx : l[k]? = some x) (h0 : x.z = 0) : DlI l cur q (k + 1) :=
  ⟨h.1, by rw [keepT_take hx, if_pos h0]; exact h.2.1, fun i hi => h.2.2 i (by omega)⟩
theorem DlI.put {l cur : List Tm} {q k : Nat} {x : Tm} (h : DlI l cur q k) (hq : q < k) (hx : l[k]? = some x) (h0 : x.z ≠ 0) : DlI l (cur.set q x) (q + 1) (k + 1) := by
  have hk := (List.getElem?_eq_some_iff.1 hx).1
  refine ⟨by rw [List.length_set]; exact h.1, ?_, fun i hi => by rw [List.getElem?_set_ne (by omega)]; exact h.2.2 i (by omega)⟩
  rw [keepT_take hx, if_neg h0, ← h.2.1]
  have : (cur.set q x)[q]? = some x := List.getElem?_set_self (by rw [h.1]; omega)
  rw [take_snoc' this, List.take_set_of_le (Nat.le_refl _)]
def DlR (B : Nat) (g : Nat) (l : List Tm) (w : World) (e : Ending) (w' : World) : Prop := ∃ m c, e = .returned (.slice (some ⟨g, 0, none⟩) m c) ∧ m = (keepT l).length ∧ m ≤ l.length ∧ m ≤ c ∧ TmB w' g (keepT l) ∧ Below B w w'
theorem first_z : ∀ l : List Tm, (∀ x ∈ l, x.z ≠ 0) ∨ ∃ i x, l[i]? = some x ∧ x.z = 0 ∧ ∀ y ∈ l.take i, y.z ≠ 0
  | [] => .inl (fun x hx => by cases hx)
  | x :: l => by
    by_cases hx : x.z = 0
    · exact .inr ⟨0, x, rfl, hx, fun y hy => by cases hy⟩
    · rcases first_z l with h | ⟨i, y, h1, h2, h3⟩
      · exact .inl (fun y hy => (List.mem_cons.1 hy).elim (fun e => e ▸ hx) (h y))
      · exact .inr ⟨i + 1, y, h1, h2, fun z hz => by
        rw [List.take_succ_cons] at hz
        rcases List.mem_cons.1 hz with e | hz
        · rw [e]; exact hx
        · exact h3 z hz⟩
theorem idx_no {l : List Tm} {r : Int} (h : IdxI l r) (hz : ∀ x ∈ l, x.z ≠ 0) : r = -1 := by
  rcases h with ⟨h, _⟩ | ⟨i, _, hi, h2, _⟩
  · exact h
  · exact absurd (h2 _ (List.getElem?_eq_getElem hi)) (hz _ (List.getElem_mem hi))
theorem idx_at {l : List Tm} {r : Int} {i : Nat} {x : Tm} (h : IdxI l r) (hx : l[i]? = some x) (h0 : x.z = 0) (hz : ∀ x ∈ l.take i, x.z ≠ 0) : r = i := by
  have hi := (List.getElem?_eq_some_iff.1 hx).1
  rcases h with ⟨_, h⟩ | ⟨j, rfl, hj, h2, h3⟩
  · exact absurd h0 (h _ (List.mem_of_getElem? hx))
  · rcases Nat.lt_trichotomy i j with h4 | h4 | h4
    · exfalso
      exact h3 x (List.mem_of_getElem? (i := i) (by rw [List.getElem?_take, if_pos h4]; exact hx)) h0
    · rw [h4]
    · exfalso
      exact hz l[j] (List.mem_of_getElem? (i := j) (by rw [List.getElem?_take, if_pos h4]; exact List.getElem?_eq_getElem hj)) (h2 _ (List.getElem?_eq_getElem hj))
set_option maxRecDepth 20000 in
set_option maxHeartbeats 2000000 in
theorem deleteF_any {w : World} {g n c B : Nat} {l : List Tm} (h : TmB w g l) (hc : n ≤ c) (hg : B ≤ g) (hn : l.length = n) (hm : n ≤ 1000) :
    Calls Try.prog 58 #[.slice (some ⟨g, 0, none⟩) n c, .func (.func 60) #[] #[]] w (DlR B g l w) := by
  have hC := indexF_any (c := c) h.tmh h.lt hn hm
  have H := Lib.hid h
  have HN := Lib.hid hn
  have hlt := h.lt
  rcases first_z l with hz | ⟨i, x, hx, h0, hz⟩
  · have HC : Hid (Calls Try.prog 77 #[.slice (some ⟨g, 0, none⟩) n c, .func (.func 60) #[] #[]] w fun e w' => e = .returned (.int .i64 (-1)) ∧ Below w.heap.size w w') := Lib.hid (hC.mono fun e w' ⟨⟨r, he, hi⟩, hb⟩ => ⟨by rw [he, idx_no hi hz], hb⟩)
    have HR : Hid (∀ w', TmB w' g l → Below B w w' → DlR B g l w (.returned (.slice (some ⟨g, 0, none⟩) n c)) w') := Lib.hid fun w' ht hb => ⟨n, c, rfl, by rw [keepT_all hz, hn], by omega, hc, by rw [keepT_all hz]; exact ht, hb⟩
    generalize DlR B g l w = R at *
    clear h hn hz hC
    go_enter Try.func58, Try.ntmps58
    go_wp2_with (first
      | (go_at_call 77; (with_reducible refine HC.out.mono ?_); rintro e w1 ⟨rfl, hb1⟩; have HB1 := Lib.hid hb1; clear hb1)
      | fail)
    exact HR.out _ (H.out.keep HB1.out) (HB1.out.mono (by omega))
  · have hi := (List.getElem?_eq_some_iff.1 hx).1
    have HC : Hid (Calls Try.prog 77 #[.slice (some ⟨g, 0, none⟩) n c, .func (.func 60) #[] #[]] w fun e w' => e = .returned (.int .i64 i) ∧ Below w.heap.size w w') := Lib.hid (hC.mono fun e w' ⟨⟨r, he, hi⟩, hb⟩ => ⟨by rw [he, idx_at hi hx h0 hz], hb⟩)
    have HS := Lib.hid (DlI.start hx h0 hz)
    have HR : Hid (∀ w' q cur c', q ≤ c' → TmB w' g (cur.take q) → q < n → DlI l cur q n → Below B w w' → DlR B g l w (.returned (.slice (some ⟨g, 0, none⟩) q c')) w') := Lib.hid fun w' q cur c' hqc ht hqn hd hb => by
      have e1 : l.take n = l := List.take_of_length_le (by omega)
      have e2 := hd.2.1
      rw [e1] at e2
      have hql : q = (keepT l).length := by rw [← e2, List.length_take]; have := hd.1; omega
      rw [e2] at ht
      exact ⟨q, c', rfl, hql, by omega, hqc, ht, hb⟩
    generalize DlR B g l w = R at *
    have hin : i < n := by omega
    have e9 : ((i : Int) == -1) = false := by simp
    clear h hn hz hC hx h0
    go_enter Try.func58, Try.ntmps58
    go_wp2_with (first
      | (go_at_call 77; (with_reducible refine HC.out.mono ?_); rintro e w1 ⟨rfl, hb1⟩; have HB1 := Lib.hid hb1; clear hb1)
      | fail)
    go_loopw [5, 6] (fun s5 s6 wr => ∃ q k : Nat, q < k ∧ k ≤ n ∧ s5 = .int .i64 q ∧ s6 = .int .i64 k ∧ Hid (∃ cur, DlI l cur q k ∧ TmB wr g cur) ∧ Hid (Below B w wr)) (fun _ s6 _ => n - (intOf s6).toNat)
    case atStart => exact ⟨i, i + 1, by omega, by omega, rfl, by go_num, Lib.hid ⟨l, HS.out, H.out.keep HB1.out⟩, Lib.hid (HB1.out.mono (by omega))⟩
    case round =>
      obtain ⟨q, k, hqk, hk, rfl, rfl, HD, HB⟩ := hrel
      by_cases hlt2 : k < n
      · have hkn : (k : Int) < n := by omega
        obtain ⟨cur, hd, ht⟩ := HD.out
        obtain ⟨x, hx⟩ := get_some' (l := l) (k := k) (by rw [HN.out]; exact hlt2)
        have hcx : cur[k]? = some x := by rw [hd.2.2 k (Nat.le_refl _)]; exact hx
        have hcl := hd.1
        obtain ⟨a0, a1, a2, a3⟩ := ht.tmh.four hcx
        have hgr := ht.lt
        have HCA := Lib.hid fun W => closA_any x W
        by_cases hz : x.z = 0
        · have e1 : (x.z == 0) = true := by simpa using hz
          simp only [e1] at HCA
          have HT := Lib.hid ht
          have HD2 := Lib.hid (hd.skip hx hz)
          clear hx hz e1 hcx ht hd HD
          go_wp2_with (first
            | (go_at_call 60; (with_reducible refine (HCA.out _).mono ?_); rintro e w2 ⟨rfl, hb2⟩; have HT2 := Lib.hid (HT.out.keep ((bel_alloc bel_refl).below.trans (hb2.mono (by simp)))); have HB2 := Lib.hid (HB.out.trans ((bel_alloc bel_refl).below.mono (by omega) |>.trans (hb2.mono (by simp; omega)))); clear hb2)
            | fail)
          go_roundw
          case rel => exact ⟨q, k + 1, by omega, by omega, rfl, by go_num, Lib.hid ⟨cur, HD2.out, HT2.out⟩, HB2⟩
          case measure => simp [intOf]; omega
        · have e1 : (x.z == 0) = false := by simpa using hz
          simp only [e1] at HCA
          have HT := Lib.hid ht
          have HD2 := Lib.hid (hd.put hqk hx hz)
          obtain ⟨y, hy⟩ := get_some' (l := cur) (k := q) (by rw [hcl, HN.out]; omega)
          have HY := Lib.hid hy
          clear hx hz e1 hcx ht hd HD
          go_wp2_with (first
            | (go_at_call 60; (with_reducible refine (HCA.out _).mono ?_); rintro e w2 ⟨rfl, hb2⟩; have HT2 := Lib.hid (HT.out.keep ((bel_alloc bel_refl).below.trans (hb2.mono (by simp)))); have HB2 := Lib.hid (HB.out.trans ((bel_alloc bel_refl).below.mono (by omega) |>.trans (hb2.mono (by simp; omega)))); have HV := Lib.hid (((Blk.new wr 42 (tmC x)).keepB hb2)); obtain ⟨v0, v1, v2, v3⟩ : w2.cell? ⟨wr.heap.size, 0, none⟩ = some (.string (strB x.t)) ∧ w2.cell? ⟨wr.heap.size, 1, none⟩ = some (.int .i64 x.o) ∧ w2.cell? ⟨wr.heap.size, 2, none⟩ = some (.int .i64 x.z) ∧ w2.cell? ⟨wr.heap.size, 3, none⟩ = some (.int .i64 x.s) := ⟨HV.out.cell 0, HV.out.cell 1, HV.out.cell 2, HV.out.cell 3⟩; have hvl := HV.out.lt; obtain ⟨b0, b1, b2, b3⟩ := HT2.out.tmh.four HY.out; obtain ⟨f0, f1, f2, f3⟩ := HT2.out.tmh.ice HY.out; clear hb2)
            | fail)
          go_roundw
          case rel => exact ⟨q + 1, k + 1, by omega, by omega, by go_num, by go_num, Lib.hid ⟨_, HD2.out, HT2.out.put (by rw [hcl, HN.out]; omega) x⟩, Lib.hid ((((HB2.out.setCell hg _).setCell hg _).setCell hg _).setCell hg _)⟩
          case measure => simp [intOf]; omega
      · obtain rfl : k = n := by omega
        obtain ⟨cur, hd, ht⟩ := HD.out
        obtain ⟨w9, hcl, ht9, hb9⟩ := ht.clear (by rw [hd.1, HN.out]) hqk 0 (c - q)
        have HE := Lib.hid (HR.out w9 q cur c (by omega) ht9 hqk hd (HB.out.trans (hb9.mono hg)))
        clear ht hd hb9 ht9
        go_wp2_with fail
        exact HE.out
end Go.Proofs.Ytejombofjakllaa

namespace Go.Proofs.Ytejombofjakllaa
open Go.RowKit Go.Shelf

def cmpI (x y : Int) : Int := if x < y then -1 else if y < x then 1 else 0
theorem cmpI_neg {x y : Int} : cmpI x y < 0 ↔ x < y := by
  unfold cmpI
  split
  · simp; assumption
  · split
    · simp; omega
    · simp; omega
theorem cmp_any (x y : Int) (w : World) : Calls Try.prog 63 #[.int .i64 x, .int .i64 y] w fun e w' => e = .returned (.int .i64 (cmpI x y)) ∧ w = w' := by
  have hN : ∀ (z : Int) (w : World), Calls Try.prog 79 #[.int .i64 z] w fun e w' => e = .returned (.bool false) ∧ w = w' := by
    intro z w
    go_enter Try.func79, Try.ntmps79
    go_wp2_with fail
    go_ret
    exact ⟨by simp, rfl⟩
  have key : (x < y ∧ cmpI x y = -1) ∨ (¬ x < y ∧ y < x ∧ cmpI x y = 1) ∨ (¬ x < y ∧ ¬ y < x ∧ cmpI x y = 0) := by
    unfold cmpI
    by_cases h1 : x < y
    · exact .inl ⟨h1, if_pos h1⟩
    · by_cases h2 : y < x
      · exact .inr (.inl ⟨h1, h2, by rw [if_neg h1, if_pos h2]⟩)
      · exact .inr (.inr ⟨h1, h2, by rw [if_neg h1, if_neg h2]⟩)
  rcases key with ⟨h1, hv⟩ | ⟨h1, h2, hv⟩ | ⟨h1, h2, hv⟩
  all_goals
    rw [hv]
    clear hv
    go_enter Try.func63, Try.ntmps63
    go_wp2_with (first | (go_at_call 79; (with_reducible refine (hN _ _).mono ?_); rintro e w1 ⟨rfl, rfl⟩) | fail)
    go_ret
    exact ⟨rfl, rfl⟩

def cmpO (x y : Tm) : Int := cmpI x.o y.o
theorem tm_lt (x y : Tm) : ltOf cmpO x y = decide (x.o < y.o) := by
  unfold ltOf cmpO
  rw [Bool.eq_iff_iff]
  simp [cmpI_neg]
theorem tm_swo : Sort.SWO (ltOf cmpO) where
  irrefl x := by rw [tm_lt]; simp
  trans x y z h1 h2 := by
    rw [tm_lt] at *
    simp only [decide_eq_true_eq] at *
    omega
  ntrans x y z h1 h2 := by
    rw [tm_lt] at *
    simp only [decide_eq_false_iff_not] at *
    omega
set_option maxRecDepth 20000 in
theorem closO_any (x y : Tm) (W : World) : Calls Try.prog 62 #[.agg #[.string (strB x.t), .int .i64 x.o, .int .i64 x.z, .int .i64 x.s], .agg #[.string (strB y.t), .int .i64 y.o, .int .i64 y.z, .int .i64 y.s]] W fun e w' => e = .returned (.int .i64 (cmpO x y)) ∧ ∃ q os', w' = Sort.grow (W.drewN q) os' := by
  have hcon := fun W' => cmp_any x.o y.o W'
  unfold cmpO
  generalize cmpI x.o y.o = r at hcon ⊢
  have HC := Lib.hid hcon
  clear hcon
  go_enter Try.func62, Try.ntmps62
  go_wp2_with (first | (go_at_call 63; (with_reducible refine (HC.out _).mono ?_); rintro e w' ⟨rfl, rfl⟩) | fail)
  go_ret
  exact ⟨rfl, 0, _, by rw [Sort.alloc_eq_grow, Sort.alloc_eq_grow, Sort.grow_grow]; rfl⟩
theorem tm_info : (Try.prog.info? 42).map (fun i => (i.zero.map (fun z => z.cells.size), i.size, i.bytes)) = some (some 4, 4, 40) := by kernel_rfl
theorem tm_parts : ∃ i z, Try.prog.info? 42 = some i ∧ i.zero = some z ∧ i.size = 4 ∧ i.bytes = 40 ∧ z.cells.size = 4 := by
  have h := tm_info
  cases hi : Try.prog.info? 42 with
  | none => rw [hi] at h; cases h
  | some i =>
    rw [hi] at h
    simp only [Option.map_some, Option.some.injEq, Prod.mk.injEq] at h
    obtain ⟨h1, h2, h3⟩ := h
    cases hz : i.zero with
    | none => rw [hz] at h1; cases h1
    | some z =>
      rw [hz] at h1
      exact ⟨i, z, rfl, hz, h2, h3, by simpa using h1⟩
@[go_sem] theorem eqlTm_nil (A : Option Addr) (l c : Nat) (w : World) : (binOp .eql 30 (.slice A l c) (.slice none 0 0)).run Try.prog w = .ok (.bool A.isNone) w := Lib.run_eql_slice_nil w _ _ A l c 0 0 Try.underlying30
theorem own_empty4 (w : World) (e : TypeId) (s : Nat) : (w.alloc (.cells #[] e)).ownsRow w.heap.size e s (.slice (some ⟨w.heap.size, 0, none⟩) 0 0) 0 [] :=
  ⟨by simp, .inr ⟨w.heap.size, 0, #[], rfl, Nat.le_refl _, heap_alloc_new w _, Nat.le_refl _, Nat.zero_le _, by simp, by simp⟩⟩
set_option maxRecDepth 20000 in
set_option maxHeartbeats 1000000 in
theorem cloneTm_any {w : World} {b n c : Nat} {es : List Tm} (h : TmH w b es) (hlt : b < w.heap.size) (hn : es.length = n) (h1 : 1 ≤ n) (hm : n ≤ 1000) :
    Calls Try.prog 59 #[.slice (some ⟨b, 0, none⟩) n c] w fun e w' => ∃ g c', e = .returned (.slice (some ⟨g, 0, none⟩) n c') ∧ w.heap.size ≤ g ∧ n ≤ c' ∧ TmB w' g es ∧ Below w.heap.size w w' := by
  obtain ⟨i0, zz, hi0, hz0, hz1, hz2, hz3⟩ := tm_parts
  have hrr := (h.keep hlt (w' := w.alloc (.cells #[] 42)) (bel_alloc bel_refl).below).rows (by simp; omega)
  rw [hn] at hrr
  have HR := Lib.hid hrr.reads
  have HN := Lib.hid hn
  clear h hrr hn
  go_enter Try.func59, Try.ntmps59
  go_wp2_with (at_builtin; refine wpList_append_any _ (by rfl) (.tmp 5) (.tmp 6) _ (by rfl) w.heap.size 42 i0 zz 4 40 Try.underlying30 hi0 hz0 hz1 hz2 hz3 (by omega) _ 0 [] (by rfl) (own_empty4 w _ 4) _ _ n _ _ (by rfl) HR.out (tmC_ones es) (by unfold maxLen; omega) (by omega) (by simp) ?_; intro v' w1 hown hgrow hat)
  rw [Nat.zero_add, List.nil_append] at hown
  obtain ⟨hl, ⟨rfl, h0⟩ | ⟨g, cap, cur, rfl, hg, hh, hn, _, _, hcur⟩⟩ := hown
  · subst h0; omega
  go_ret
  refine ⟨g, cap, rfl, hg, hn, ⟨42, cur.toList.drop (n * 4), ?_⟩, (bel_alloc bel_refl).below.trans ⟨hgrow.os, hgrow.tape, hgrow.output, hgrow.size, fun k hk => hgrow.block k (by simp; omega) (by simp [Value.ownBlock]; omega)⟩⟩
  rw [← hcur, List.take_append_drop]
  exact hh
/-- What slices.SortFunc leaves of tables. -/
theorem sortTm_any {w : World} {g c n : Nat} {es : List Tm} (h : TmB w g es) (hn : es.length = n) (hm : n ≤ 1000) (B : Nat) (hB : B ≤ g) :
    Calls Try.prog 61 #[.slice (some ⟨g, 0, none⟩) n c, .func (.func 62) #[] #[]] w fun e w' =>
      e = .returned (.tuple #[]) ∧ ∃ ds : List Tm, ds.Perm es ∧ (∀ (i j : Nat) (x y : Tm), i < j → ds[i]? = some x → ds[j]? = some y → x.o ≤ y.o) ∧ TmH w' g ds ∧ Below B w w' := by
  have hg := h.lt
  have hH := h.tmh.sort
  have eg : ∀ args w, (callFunc 62 args).run Try.prog w = .ok (.enter 62 args) w := enters_of Try.func62 (by kernel_rfl) rfl
  have hcon := AnyQ.slices_SortFunc srtTm 4 Try.isAgg42 Try.sizeOf42 tmC tmC_len tmC_one cmpO tm_swo 62 #[] g 0 c es.toArray w eg (fun _ _ _ _ x y => closO_any x y _) hH hg (by simp; omega)
  change Calls Try.prog 61 _ _ _ at hcon
  rw [show es.toArray.size = n by simp; exact hn] at hcon
  refine hcon.mono fun e w' ⟨he, d', m, os, hp, hs, hw⟩ => ?_
  have hd : d'.size = n := by rw [hp.1]; simp; exact hn
  have hperm : d'.toList.Perm es := by
    have := hp.2.2
    rw [← hn] at this
    have h1 : d'.size = es.length := by rw [hd, hn]
    have h2 : (d'.extract 0 es.length).toList = d'.toList := by rw [← h1, Array.extract_size]
    have h3 : (es.toArray.extract 0 es.length).toList = es := by simp
    rw [h2, h3] at this
    exact this
  have hK : Sort.HoldsK tmC 4 w' g 0 d' := by rw [hw]; exact holdsK_sortWorldK_c tmC 4 w g 0 es.toArray d' m os hH hg (by rw [hd]; simp; exact hn.symm)
  have hb : Below B w w' := by
    rw [hw]
    unfold sortWorldK
    have h1 := Lib.below_putRow (enc := id) (d := Sort.flatK tmC 4 d') (q := m) (Below.refl B w) hB
    exact h1.trans (Lib.below_grow B _ (Nat.le_trans (by omega) h1.size) 0 os)
  refine ⟨he, d'.toList, hperm, fun i j x y hij hx hy => ?_, .unsort hK, hb⟩
  obtain ⟨hi, hx⟩ := List.getElem?_eq_some_iff.1 hx
  obtain ⟨hj, hy⟩ := List.getElem?_eq_some_iff.1 hy
  simp only [Array.length_toList] at hi hj
  have hlt := hs i j (Nat.zero_le _) hij (by omega)
  rw [tm_lt, getElem!_pos d' j hj, getElem!_pos d' i hi] at hlt
  simp only [decide_eq_false_iff_not] at hlt
  simp only [Array.getElem_toList] at hx hy
  rw [hx, hy] at hlt
  omega
end Go.Proofs.Ytejombofjakllaa

namespace Go.Proofs.Ytejombofjakllaa
open Go.RowKit Go.Shelf

/-- No two of the tables have a byte in common; their numbers are small. -/
def ApP (x y : Tm) : Prop := x.o + x.z ≤ y.o ∨ y.o + y.z ≤ x.o
def ApT (es : List Tm) : Prop := es.Pairwise ApP ∧ ∀ x ∈ es, 0 ≤ x.z ∧ 0 ≤ x.o ∧ x.o + x.z ≤ 1099511627776
theorem ApT.keepT {es : List Tm} (h : ApT es) : ApT (keepT es) ∧ ∀ x ∈ keepT es, x.z ≠ 0 := by
  unfold Go.Proofs.Ytejombofjakllaa.keepT
  refine ⟨⟨h.1.filter _, fun x hx => h.2 x (List.mem_filter.1 hx).1⟩, fun x hx => by simpa using (List.mem_filter.1 hx).2⟩
theorem ApT.perm {es ds : List Tm} (h : ApT es) (hp : ds.Perm es) : ApT ds :=
  ⟨(hp.pairwise_iff (fun {_x _y} hxy => hxy.elim .inr .inl)).2 h.1, fun x hx => h.2 x (hp.subset hx)⟩
set_option maxRecDepth 20000 in
set_option maxHeartbeats 2000000 in
theorem apart_any {w : World} {b n c : Nat} {es : List Tm} (h : TmH w b es) (hlt : b < w.heap.size) (hn : es.length = n) (h1 : 1 ≤ n) (hm : n ≤ 1000) (hp : ApT es) :
    Calls Try.prog 41 #[.slice (some ⟨b, 0, none⟩) n c] w fun e w' => e = .returned (.bool true) ∧ Below w.heap.size w w' := by
  have HL := Lib.hid fun c => cloneTm_any (c := c) h hlt hn h1 hm
  have HN := Lib.hid hn
  have HP := Lib.hid hp
  clear h hn hp
  go_enter Try.func41, Try.ntmps41
  go_wp2_with (first
    | (go_at_call 59; (with_reducible refine (HL.out _).mono ?_); rintro e w1 ⟨g, c1, rfl, hg, hc1, ht, hb⟩; have HT := Lib.hid ht; have HB := Lib.hid hb; clear ht hb)
    | (go_at_call 58; (with_reducible refine (deleteF_any HT.out hc1 hg HN.out hm).mono ?_); rintro e w2 ⟨m, c2, rfl, hm2, hmn, hc2, ht, hb⟩; have HT2 := Lib.hid ht; have HB2 := Lib.hid (HB.out.trans hb); have HM2 := Lib.hid hm2; have hmm : m ≤ 1000 := (by have := HN.out; omega); clear ht hb hm2)
    | (go_at_call 61; (with_reducible refine (sortTm_any HT2.out HM2.out.symm hmm w.heap.size hg).mono ?_); rintro e w3 ⟨rfl, ds, hperm, hso, ht, hb⟩; have HT3 := Lib.hid ht; have HS3 := Lib.hid hso; have HB3 := Lib.hid (HB2.out.trans hb); have HQ := Lib.hid hperm; have hg3 : g < w3.heap.size := (by have h1 := HT2.out.lt; have h2 := hb.size; omega); clear ht hb hso hperm)
    | fail)
  have hdl : ds.length = m := by rw [HQ.out.length_eq]; exact HM2.out.symm
  have hap := HP.out.keepT
  have hpd := hap.1.perm HQ.out
  have hnz : ∀ x ∈ ds, x.z ≠ 0 := fun x hx => hap.2 x (HQ.out.subset hx)
  have HDL := Lib.hid hdl
  have HPD := Lib.hid hpd
  have HNZ := Lib.hid hnz
  clear hdl hap hpd hnz HQ HT HT2 HM2 HP HL HN HB HB2
  go_loopw [3] (fun i wr => ∃ k : Nat, 1 ≤ k ∧ (k ≤ m ∨ k = 1) ∧ i = .int .i64 k ∧ Hid (Below w.heap.size w wr) ∧ Hid (Below w3.heap.size w3 wr)) (fun i _ => m - (intOf i).toNat)
  case atStart => exact ⟨1, Nat.le_refl _, .inr rfl, rfl, HB3, Lib.hid (Below.refl _ _)⟩
  case round =>
    obtain ⟨k, hk1, hk, rfl, HB, HW⟩ := hrel
    by_cases hlt2 : k < m
    · obtain ⟨x, hx⟩ := get_some' (l := ds) (k := k) (by rw [HDL.out]; exact hlt2)
      obtain ⟨y, hy⟩ := get_some' (l := ds) (k := k - 1) (by rw [HDL.out]; omega)
      have hxm := List.mem_of_getElem? hx
      have hym := List.mem_of_getElem? hy
      have hso := HS3.out (k - 1) k y x (by omega) hy hx
      have hpp : ApP y x := by
        have h9 := HPD.out.1
        rw [List.pairwise_iff_getElem] at h9
        obtain ⟨h5, rfl⟩ := List.getElem?_eq_some_iff.1 hx
        obtain ⟨h6, rfl⟩ := List.getElem?_eq_some_iff.1 hy
        exact h9 _ _ h6 h5 (by omega)
      obtain ⟨z1, z2, z3⟩ := HPD.out.2 x hxm
      obtain ⟨z4, z5, z6⟩ := HPD.out.2 y hym
      have z7 := HNZ.out x hxm
      have z8 : ¬ y.o + y.z > x.o := by unfold ApP at hpp; omega
      have ht := HT3.out.keep hg3 HW.out
      have hgr := Nat.lt_of_lt_of_le hg3 HW.out.size
      obtain ⟨a0, a1, a2, a3⟩ := ht.four hx
      obtain ⟨b0, b1, b2, b3⟩ := ht.four hy
      obtain ⟨q, rfl⟩ : ∃ q, k = q + 1 := ⟨k - 1, by omega⟩
      clear hx hy ht hxm hym hso hpp
      simp only [Nat.add_sub_cancel] at b0 b1 b2 b3
      have w1 : wrap64 ((q : Int) + 1 - 1) = (q : Int) := by unfold wrap64; omega
      have w2 : wrap64 (y.o + y.z) = y.o + y.z := by unfold wrap64; omega
      have w3 : decide (x.o < y.o + y.z) = false := by simp; omega
      have w4 : decide ((q : Int) < m) = true := by simp; omega
      have w5 : decide ((q : Int) + 1 < m) = true := by simp; omega
      go_upto_region 6 with fail
      go_region
      go_wp2_with fail
      go_roundw
      case rel => exact ⟨q + 2, by omega, .inl (by omega), by go_num, Lib.hid HB.out.drew, Lib.hid HW.out.drew⟩
      case measure => simp [intOf]; omega
    · go_wp2_with fail
      go_ret
      exact ⟨rfl, HB.out⟩
end Go.Proofs.Ytejombofjakllaa

namespace Go.Proofs.Ytejombofjakllaa
open Go.RowKit Go.Shelf

theorem tn_turn1 {w w' : World} {r : Nat} (h : Turn w w' r none) : Tn (fun i => i = r) w w' := ⟨h.os, h.tape, h.output, h.size, fun i hi hn => h.block i hi hn (fun e => by cases e)⟩
theorem rd_grownB {w w' : World} {r B : Nat} {bs : List UInt8} {pos : Nat} {bad : Bool} {A : Option Addr} {c : Nat} {row : Option Nat} (h : Rd w r bs pos bad A c) (hg : w.grownBy w' row) (hr : r < B) (hA : ∀ k, rowOf A = some k → k < B) (hrow : ∀ k, row = some k → B ≤ k) : Rd w' r bs pos bad A c := by
  have hb : ∀ k, k < B → k < w.heap.size → w'.heap[k]? = w.heap[k]? := fun k h1 h2 => hg.block k h2 (fun e => by have := hrow k e.symm; omega)
  have hrl := h.blk.lt
  refine ⟨(hb r hr hrl).trans h.blk, ⟨h.sl.1, fun k hk => ?_⟩, h.apart, h.cap, h.pos_le, h.small⟩
  obtain ⟨b, o, rfl, hlt, hc⟩ := h.sl.2 k hk
  exact ⟨b, o, rfl, Nat.lt_of_lt_of_le hlt hg.size, (World.cell?_of_block (hb b (hA b rfl) hlt)).trans hc⟩
theorem grown_belowF {B : Nat} {w w' : World} {row : Option Nat} (hg : w.grownBy w' row) (hB : B ≤ w.heap.size) (hr : ∀ k, row = some k → B ≤ k) : Below B w w' :=
  ⟨hg.os, hg.tape, hg.output, hg.size, fun k hk => hg.block k (by omega) (fun e => by have := hr k e.symm; omega)⟩
/-- A reader that the call has made in its first block. -/
structure Cf (w wi : World) (bs : List UInt8) (s : Nat) (A : Option Addr) (c : Nat) : Prop where
  rd : Rd wi w.heap.size bs s false A c
  bel : Below w.heap.size w wi
  row : ∀ k, rowOf A = some k → k < w.heap.size
section
variable {w wi : World} {bs : List UInt8} {s : Nat} {A : Option Addr} {c : Nat}
theorem Cf.keep {w' : World} (h : Cf w wi bs s A c) (hb : Below wi.heap.size wi w') : Cf w w' bs s A c := ⟨h.rd.keep hb, h.bel.trans (hb.mono h.bel.size), h.row⟩
theorem Cf.turn {w' : World} {s' : Nat} (h : Cf w wi bs s A c) (hr : Rd w' w.heap.size bs s' false A c) (ht : Turn wi w' w.heap.size none) : Cf w w' bs s' A c := ⟨hr, h.bel.trans (ht.below h.bel.size (Nat.le_refl _) (by intro k e; cases e)), h.row⟩
theorem cf_new {n : Nat} (hn : bs.length = n) (h : SlAt w A n (bs.map byteV)) (hc : n ≤ c) (hs : n ≤ 140737488355328) (hA : ∀ k, rowOf A = some k → k < w.heap.size) :
    Calls Try.prog 34 #[.slice A n c] w fun e w' => e = .returned (.pointer (some ⟨w.heap.size, 0, none⟩)) ∧ Cf w w' bs 0 A c := by
  subst hn
  exact (new_W w bs A c h hc hs hA).mono fun e w' ⟨he, hr, hb⟩ => ⟨he, hr, hb, hA⟩
theorem cf_u16 (h : Cf w wi bs s A c) (hs : s + 2 ≤ bs.length) {x : Int} (hx : (numB ((bs.drop s).take 2) : Int) = x) {s' : Nat} (hs' : s + 2 = s') :
    Calls Try.prog 36 #[.pointer (some ⟨w.heap.size, 0, none⟩)] wi fun e w' => e = .returned (.int .i64 x) ∧ Cf w w' bs s' A c := by
  subst hs' hx
  refine (rU16_any wi _ bs (s, false) A c h.rd).mono fun e w' ⟨he, hr, ht⟩ => ?_
  rw [numF_ok hs] at he
  rw [advF_ok hs] at hr
  exact ⟨he, h.turn hr ht⟩
theorem cf_u32 (h : Cf w wi bs s A c) (hs : s + 4 ≤ bs.length) {x : Int} (hx : (numB ((bs.drop s).take 4) : Int) = x) {s' : Nat} (hs' : s + 4 = s') :
    Calls Try.prog 35 #[.pointer (some ⟨w.heap.size, 0, none⟩)] wi fun e w' => e = .returned (.int .i64 x) ∧ Cf w w' bs s' A c ∧ Tn (fun i => i = w.heap.size) wi w' := by
  subst hs' hx
  refine (rU32_any wi _ bs (s, false) A c h.rd).mono fun e w' ⟨he, hr, ht⟩ => ?_
  rw [numF_ok hs] at he
  rw [advF_ok hs] at hr
  exact ⟨he, h.turn hr ht, tn_turn1 ht⟩
theorem cf_take (h : Cf w wi bs s A c) (k : Nat) (hs : s + k ≤ bs.length) {x : Int} (hx : x = k) {s' : Nat} (hs' : s + k = s') :
    Calls Try.prog 37 #[.pointer (some ⟨w.heap.size, 0, none⟩), .int .i64 x] wi fun e w' => (∃ v, e = .returned v) ∧ Cf w w' bs s' A c := by
  subst hs' hx
  refine (rTake_any wi _ bs (s, false) A c k h.rd (by have := h.rd.small; omega)).mono fun e w' ⟨A', c', he, _, hr, ht, _⟩ => ?_
  rw [advF_ok hs] at hr
  exact ⟨⟨_, he⟩, h.turn hr ht⟩
set_option maxRecDepth 20000 in
set_option maxHeartbeats 1000000 in
theorem cf_tag (h : Cf w wi bs s A c) (hs : s + 4 ≤ bs.length) {t : List UInt8} (hx : (bs.drop s).take 4 = t) {s' : Nat} (hs' : s + 4 = s') :
    Calls Try.prog 39 #[.pointer (some ⟨w.heap.size, 0, none⟩)] wi fun e w' => e = .returned (.string (strB t)) ∧ Cf w w' bs s' A c ∧ Tn (fun i => i = w.heap.size) wi w' := by
  have hk : ∀ w', Rd w' w.heap.size bs (s + 4) false A c ∧ Turn wi w' w.heap.size none → Cf w w' bs s' A c ∧ Tn (fun i => i = w.heap.size) wi w' := fun w' ⟨hr, ht⟩ => ⟨by subst hs'; exact h.turn hr ht, tn_turn1 ht⟩
  have hN := next_ok wi w.heap.size bs s A c 4 h.rd hs
  rw [hx] at hN
  have HK := Lib.hid hk
  have HN := Lib.hid hN
  clear h hx hs' hk hN
  generalize hR : w.heap.size = r at *
  go_enter Try.func39, Try.ntmps39
  go_wp2_with (first
    | (go_at_call 57; (refine HN.out.mono ?_); rintro e w1 ⟨A1, c1, rfl, hs1, hc1, hro, hr, ht⟩; have hq : ∀ c, (convert 25 9 (.slice A1 4 c)).run Try.prog w1 = .ok (.string (strB t)) w1 := fun c => run_str (P := Try.prog) hs1 Try.underlying25 Try.underlying5 Try.underlying9 c; have HE := Lib.hid (HK.out _ ⟨hr, ht⟩); clear hs1 hro hr ht)
    | fail)
  go_ret
  exact ⟨rfl, HE.out⟩
end
/-- Tables that a call made. -/
structure TmP (B : Nat) (w : World) (Al : Option Addr) (kl cl : Nat) (l : List Tm) : Prop where
  len : l.length = kl
  own : w.ownsRow B 42 4 (.slice Al kl cl) kl (l.map tmC).flatten
  le : B ≤ w.heap.size
section
variable {B : Nat} {w w' : World} {Al : Option Addr} {kl cl : Nat} {l : List Tm}
theorem TmP.row (h : TmP B w Al kl cl l) : ∀ k, rowOf Al = some k → B ≤ k ∧ k < w.heap.size := fun k hk => own_lt h.own k (by rw [ownBlock_slice]; exact hk)
theorem TmP.stay (h : TmP B w Al kl cl l) (hs : w.heap.size ≤ w'.heap.size) (hk : ∀ k, B ≤ k → k < w.heap.size → w'.heap[k]? = w.heap[k]?) : TmP B w' Al kl cl l :=
  ⟨h.len, own_keep h.own fun k e => hk k (own_lt h.own k e).1 (own_lt h.own k e).2, Nat.le_trans h.le hs⟩
theorem TmP.keep (h : TmP B w Al kl cl l) (hb : Below w.heap.size w w') : TmP B w' Al kl cl l := h.stay hb.size fun k _ hk => hb.block k hk
theorem TmP.turn (h : TmP B w Al kl cl l) {S : Nat → Prop} (ht : Tn S w w') (hr : ∀ k, B ≤ k → ¬ S k) : TmP B w' Al kl cl l :=
  h.stay ht.size fun k hB hk => ht.block k hk (hr k hB)
theorem TmP.nil (h : B ≤ w.heap.size) : TmP B w none 0 0 [] := ⟨rfl, World.ownsRow_nil _ _ _ _, h⟩
theorem TmP.blk (h : TmP B w Al kl cl l) (h0 : 0 < kl) : ∃ g, Al = some ⟨g, 0, none⟩ ∧ B ≤ g ∧ kl ≤ cl ∧ TmB w g l := by
  obtain ⟨hl, ⟨hv, h0'⟩ | ⟨g, cap, cur, hv, hg, hh, hn, _, _, hcur⟩⟩ := h.own
  · omega
  · injection hv with e1 e2 e3
    subst e1 e3
    refine ⟨g, rfl, hg, hn, 42, cur.toList.drop (kl * 4), ?_⟩
    rw [← hcur, List.take_append_drop]
    exact hh
theorem TmP.more (h : TmP B w Al kl cl l) {v' : Value} {v : Tm} (hown : w'.ownsRow B 42 4 v' (kl + 1) ((l.map tmC).flatten ++ tmC v)) (hg : w.grownBy w' (Value.slice Al kl cl).ownBlock) :
    ∃ A' c', v' = .slice A' (kl + 1) c' ∧ TmP B w' A' (kl + 1) c' (l ++ [v]) ∧ Below B w w' := by
  obtain ⟨A', c', rfl, _⟩ := RowsAt.of_own (rows := (l ++ [v]).map tmC) hown (by simp) (tmC_lens _) (by omega)
  rw [ownBlock_slice] at hg
  exact ⟨A', c', rfl, ⟨by simp [h.len], by simpa using hown, Nat.le_trans h.le hg.size⟩, grown_belowF hg h.le (fun k hk => (h.row k hk).1)⟩
end
set_option maxRecDepth 20000 in
set_option maxHeartbeats 1000000 in
/-- May a table be behind another one? Yes. -/
theorem mayT_any {x : Tm} {last : List UInt8} {dir n : Nat} (h1 : isTagB x.t = true) (h2 : last < x.t) (h3 : x.o % 4 = 0) (h4 : (dir : Int) ≤ x.o) (h5 : 0 ≤ x.z) (h6 : x.o + x.z ≤ n) (hn : n ≤ 1048576) (w : World) :
    Calls Try.prog 40 #[.agg #[.string (strB x.t), .int .i64 x.o, .int .i64 x.z, .int .i64 x.s], .string (strB last), .int .i64 dir, .int .i64 n] w fun e w' => e = .returned (.bool true) ∧ Below w.heap.size w w' := by
  have hI : ∀ W, Calls Try.prog 17 #[.string (strB x.t)] W fun e w' => e = .returned (.bool true) ∧ Below W.heap.size W w' := fun W => by
    have := isTag_any x.t (by unfold isTagB at h1; simp at h1; omega) W
    rw [h1] at this
    exact this
  have HI := Lib.hid hI
  have e1 : Op.bytesLess x.t last = false := by rw [bytesLess_eq]; simpa using lt_as h2
  have e0 : (x.t == last) = false := by
    rw [beq_eq_false_iff_ne]
    intro e
    rw [e] at h2
    exact lt_irr _ h2
  have e2 : x.o.tmod 4 = 0 := by rw [Int.tmod_eq_emod_of_nonneg (by omega)]; exact h3
  have e3 : decide (x.o < dir) = false := by simp; omega
  have e4 : decide ((n : Int) < x.o) = false := by simp; omega
  have e5 : wrap64 ((n : Int) - x.o) = (n : Int) - x.o := by unfold wrap64; omega
  have e6 : decide ((n : Int) - x.o < x.z) = false := by simp; omega
  have e7 : ¬ x.o < dir := by omega
  have e8 : ¬ (n : Int) < x.o := by omega
  have e9 : ¬ (n : Int) - x.o < x.z := by omega
  clear h1 hI
  go_enter Try.func40, Try.ntmps40
  go_wp2_with (first
    | (go_at_call 17; (with_reducible refine (HI.out _).mono ?_); rintro e w1 ⟨rfl, hb⟩; have HV := Lib.hid (((Blk.new w 42 (tmC x)).keepB hb)); have HB := Lib.hid ((bel_alloc (o := .cells (tmC x).toArray 42) (bel_refl (a := w))).below.trans (hb.mono (by simp))); obtain ⟨v0, v1, v2, v3⟩ : w1.cell? ⟨w.heap.size, 0, none⟩ = some (.string (strB x.t)) ∧ w1.cell? ⟨w.heap.size, 1, none⟩ = some (.int .i64 x.o) ∧ w1.cell? ⟨w.heap.size, 2, none⟩ = some (.int .i64 x.z) ∧ w1.cell? ⟨w.heap.size, 3, none⟩ = some (.int .i64 x.s) := ⟨HV.out.cell 0, HV.out.cell 1, HV.out.cell 2, HV.out.cell 3⟩; have hvl := HV.out.lt; clear hb)
    | fail)
  go_ret
  exact ⟨rfl, HB.out⟩
end Go.Proofs.Ytejombofjakllaa

namespace Go.Proofs.Ytejombofjakllaa
open Go.RowKit Go.Shelf

/-- Bytes that a font's directory stands in: version and tables. -/
structure GoodP (b : List UInt8) (v : Int) (ts : List Tm) : Prop where
  n1 : 1 ≤ ts.length
  n2 : ts.length ≤ 64
  ver : verB v = true
  len : 12 + 16 * ts.length ≤ b.length
  big : b.length ≤ 1048576
  pv : (numB ((b.drop 0).take 4) : Int) = v
  pn : numB ((b.drop 4).take 2) = ts.length
  tab : ∀ i x, ts[i]? = some x → (b.drop (12 + 16 * i)).take 4 = x.t ∧ (numB ((b.drop (16 + 16 * i)).take 4) : Int) = x.s ∧ (numB ((b.drop (20 + 16 * i)).take 4) : Int) = x.o ∧ (numB ((b.drop (24 + 16 * i)).take 4) : Int) = x.z
  ok : ∀ x ∈ ts, isTagB x.t = true ∧ x.o % 4 = 0 ∧ 12 + 16 * (ts.length : Int) ≤ x.o ∧ 0 ≤ x.z ∧ x.o + x.z ≤ b.length
  up : ts.Pairwise (fun x y => x.t < y.t)
  ap : ts.Pairwise ApP
theorem GoodP.apt {b : List UInt8} {v : Int} {ts : List Tm} (h : GoodP b v ts) : ApT ts :=
  ⟨h.ap, fun x hx => by have := h.ok x hx; have := h.big; omega⟩
def lastT (ts : List Tm) (k : Nat) : List UInt8 := if k = 0 then [] else ((ts[k - 1]?).map Tm.t).getD []
theorem lastT_next {ts : List Tm} {k : Nat} {x : Tm} (hx : ts[k]? = some x) : lastT ts (k + 1) = x.t := by
  unfold lastT
  rw [if_neg (by omega), Nat.add_sub_cancel, hx]
  rfl
theorem lastT_lt {ts : List Tm} (h : ts.Pairwise (fun x y => x.t < y.t)) (hk : ∀ x ∈ ts, isTagB x.t = true) {k : Nat} {x : Tm} (hx : ts[k]? = some x) : lastT ts k < x.t := by
  cases k with
  | zero =>
    have := hk x (List.mem_of_getElem? hx)
    unfold isTagB at this
    show [] < x.t
    cases ht : x.t with
    | nil => rw [ht] at this; simp at this
    | cons u l => exact List.nil_lt_cons ..
  | succ k =>
    have hk1 := (List.getElem?_eq_some_iff.1 hx).1
    rw [lastT_next (List.getElem?_eq_getElem (show k < ts.length by omega))]
    rw [List.pairwise_iff_getElem] at h
    have := h k (k + 1) (by omega) hk1 (by omega)
    obtain ⟨_, rfl⟩ := List.getElem?_eq_some_iff.1 hx
    exact this
theorem six6 : (6 : Int) = ((6 : Nat) : Int) := rfl
def PaR (v : Int) (ts : List Tm) (w : World) (e : Ending) (w' : World) : Prop := ∃ g c', e = .returned (.tuple #[.int .i64 v, .slice (some ⟨g, 0, none⟩) ts.length c', .int .i64 0]) ∧ TmH w' g ts ∧ g < w'.heap.size ∧ Below w.heap.size w w'
set_option maxRecDepth 20000 in
set_option maxHeartbeats 2000000 in
theorem Parse_any {w : World} {A : Option Addr} {n c : Nat} {b : List UInt8} {v : Int} {ts : List Tm} (hn : b.length = n) (hs : SlAt w A n (b.map byteV)) (hc : n ≤ c) (hA : ∀ k, rowOf A = some k → k < w.heap.size) (h : GoodP b v ts) :
    Calls Try.prog 12 #[.slice A n c] w (PaR v ts w) := by
  have hm := h.big
  have hl := h.len
  rw [hn] at hm hl
  obtain ⟨k, hk⟩ : ∃ k, ts.length = k := ⟨_, rfl⟩
  have k1 := h.n1
  have k2 := h.n2
  have hv := h.pv
  have hp := h.pn
  have hvv := h.ver
  rw [hk] at k1 k2 hl hp
  have HN := Lib.hid (cf_new hn hs hc (by omega) hA)
  have H := Lib.hid h
  have HV := Lib.hid hv
  have HP : Hid (((numB ((b.drop 4).take 2) : Nat) : Int) = (k : Nat)) := Lib.hid (by rw [hp])
  have HVV : Hid (∀ W, Calls Try.prog 38 #[.int .i64 v] W fun e w' => e = .returned (.bool true) ∧ W = w') := Lib.hid fun W => by have := isVersion_any v W; rw [hvv] at this; exact this
  have HK := Lib.hid hk
  have HNL := Lib.hid hn
  have hbl : ∀ j, j ≤ 12 → j ≤ b.length := fun j hj => by omega
  have d0 : decide ((1048576 : Int) < n) = false := by simp; omega
  have d1 : decide ((n : Int) < 12) = false := by simp; omega
  have d2 : decide ((k : Int) < 1) = false := by simp; omega
  have d3 : decide ((64 : Int) < k) = false := by simp; omega
  have d4 : decide ((n : Int) < 12 + 16 * k) = false := by simp; omega
  clear h hs hv hp hvv
  go_enter Try.func12, Try.ntmps12
  go_wp2_with (first
    | (go_at_call 34; (with_reducible refine HN.out.mono ?_); rintro e w1 ⟨rfl, hu⟩; have HC0 := Lib.hid hu; clear hu)
    | (go_at_call 35; (with_reducible refine (cf_u32 HC0.out (s' := 4) (hbl 4 (by omega)) HV.out rfl).mono ?_); rintro e w2 ⟨rfl, hu, _⟩; have HC1 := Lib.hid hu; clear hu HC0)
    | (go_at_call 36; (with_reducible refine (cf_u16 HC1.out (s' := 6) (hbl 6 (by omega)) HP.out rfl).mono ?_); rintro e w3 ⟨rfl, hu⟩; have HC2 := Lib.hid hu; clear hu HC1)
    | (go_at_call 37; (with_reducible refine (cf_take HC2.out 6 (s' := 12) (hbl 12 (by omega)) six6 rfl).mono ?_); rintro e w4 ⟨⟨v4, rfl⟩, hu⟩; have HC3 := Lib.hid hu; clear hu HC2)
    | (go_at_call 38; (with_reducible refine (HVV.out _).mono ?_); rintro e w5 ⟨rfl, rfl⟩)
    | fail)
  have hz5 : w.heap.size + 1 ≤ w4.heap.size := HC3.out.rd.blk.lt
  clear HN HVV HV HP d0 d1 d2 d3 d4 hbl
  go_loopw [9, 10, 49] (fun vl la i wr => ∃ (j : Nat) (Al : Option Addr) (cl : Nat), j ≤ k ∧ i = .int .i64 j ∧ vl = .slice Al j cl ∧ la = .string (strB (lastT ts j)) ∧ Hid (TmP (w.heap.size + 1) wr Al j cl (ts.take j)) ∧ Hid (Cf w wr b (12 + 16 * j) A c)) (fun _ _ i _ => k - (intOf i).toNat)
  case atStart => exact ⟨0, none, 0, Nat.zero_le _, rfl, rfl, rfl, Lib.hid (TmP.nil hz5), HC3⟩
  case round =>
    obtain ⟨j, Al, cl, hj, rfl, rfl, rfl, HP, HC⟩ := hrel
    by_cases hlt : j < k
    · obtain ⟨x, hx⟩ := get_some' (l := ts) (k := j) (by rw [HK.out]; exact hlt)
      obtain ⟨xt, xs, xo, xz⟩ := H.out.tab j x hx
      obtain ⟨x1, x2, x3, x4, x5⟩ := H.out.ok x (List.mem_of_getElem? hx)
      rw [HK.out] at x3
      rw [HNL.out] at x5
      have hlast := lastT_lt H.out.up (fun y hy => (H.out.ok y hy).1) hx
      have hnext := lastT_next hx
      have htk := take_snoc' hx
      have hmy : ∀ W, Calls Try.prog 40 #[.agg #[.string (strB x.t), .int .i64 x.o, .int .i64 x.z, .int .i64 x.s], .string (strB (lastT ts j)), .int .i64 (12 + 16 * (k : Int)), .int .i64 n] W fun e w' => e = .returned (.bool true) ∧ Below W.heap.size W w' := fun W => by
        have := mayT_any (dir := 12 + 16 * k) (n := n) x1 hlast x2 (by omega) x4 x5 hm W
        rw [show ((12 + 16 * k : Nat) : Int) = 12 + 16 * (k : Int) by omega] at this
        exact this
      have HM := Lib.hid hmy
      have d4 : decide ((j : Int) < k) = true := by simp; omega
      have XT := Lib.hid xt
      have XS := Lib.hid xs
      have XO := Lib.hid xo
      have XZ := Lib.hid xz
      have hln := HNL.out
      have L1 : 12 + 16 * j + 4 ≤ b.length := by omega
      have L2 : 16 + 16 * j + 4 ≤ b.length := by omega
      have L3 : 20 + 16 * j + 4 ≤ b.length := by omega
      have L4 : 24 + 16 * j + 4 ≤ b.length := by omega
      have S1 : 12 + 16 * j + 4 = 16 + 16 * j := by omega
      have S2 : 16 + 16 * j + 4 = 20 + 16 * j := by omega
      have S3 : 20 + 16 * j + 4 = 24 + 16 * j := by omega
      have S4 : 24 + 16 * j + 4 = 12 + 16 * (j + 1) := by omega
      clear xt xs xo xz x1 x2 hlast hx hmy
      obtain ⟨xt, xo, xz, xs⟩ := x
      dsimp only at *
      go_upto_region 20 with (first
        | (go_at_call 39; (with_reducible refine (cf_tag HC.out L1 XT.out S1).mono ?_); rintro e w6 ⟨rfl, hu, ht6⟩; have HC6 := Lib.hid hu; have HT6 := Lib.hid ht6; clear hu HC ht6)
        | (go_at_call 35; (with_reducible refine (cf_u32 HC6.out L2 XS.out S2).mono ?_); rintro e w7 ⟨rfl, hu, ht7⟩; have HC7 := Lib.hid hu; have HT7 := Lib.hid (HT6.out.trans ht7); clear hu HC6 ht7)
        | (go_at_call 35; (with_reducible refine (cf_u32 HC7.out L3 XO.out S3).mono ?_); rintro e w8 ⟨rfl, hu, ht8⟩; have HC8 := Lib.hid hu; have HT8 := Lib.hid (HT7.out.trans ht8); clear hu HC7 ht8)
        | (go_at_call 35; (with_reducible refine (cf_u32 HC8.out L4 XZ.out S4).mono ?_); rintro e w9 ⟨rfl, hu, ht9⟩; have HC9 := Lib.hid hu; have HT9 := Lib.hid (HT8.out.trans ht9); clear hu HC8 ht9)
        | (go_at_call 40; (with_reducible refine (HM.out _).mono ?_); rintro e w10 ⟨rfl, hb⟩; have HV := Lib.hid (((Blk.new w9 42 (tmC ⟨xt, xo, xz, xs⟩)).keepB hb)); have HB := Lib.hid ((bel_alloc (o := .cells (tmC ⟨xt, xo, xz, xs⟩).toArray 42) (bel_refl (a := w9))).below.trans (hb.mono (by simp))); clear hb)
        | fail)
      obtain ⟨xb, hxb⟩ : ∃ xb, w9.heap.size = xb := ⟨_, rfl⟩
      rw [hxb] at HV ⊢
      have v0 : w10.cell? ⟨xb, 0, none⟩ = some (.string (strB xt)) := HV.out.cell 0
      have v1 : w10.cell? ⟨xb, 1, none⟩ = some (.int .i64 xo) := HV.out.cell 1
      have v2 : w10.cell? ⟨xb, 2, none⟩ = some (.int .i64 xz) := HV.out.cell 2
      have v3 : w10.cell? ⟨xb, 3, none⟩ = some (.int .i64 xs) := HV.out.cell 3
      have hvl := HV.out.lt
      have HP10 := Lib.hid ((HP.out.turn HT9.out (fun i hi => by omega)).keep HB.out)
      have HC10 := Lib.hid (HC9.out.keep HB.out)
      have hne : ∀ k', rowOf Al = some k' → k' ≠ xb := fun k' hk' => by
        have h1 := (HP.out.row k' hk').2
        have h2 := HT9.out.size
        omega
      have HNE := Lib.hid hne
      have HX := Lib.hid htk
      have HNX := Lib.hid hnext
      obtain ⟨i0, zz, hi0, hz0, hz1, hz2, hz3⟩ := tm_parts
      clear hne HP HT6 HT7 HT8 HT9 HC9 HB HM XT XS XO XZ L1 L2 L3 L4 S1 S2 S3 S4 htk hnext d4
      obtain ⟨W, hW⟩ : ∃ W, (w10.alloc (.cells #[.string (strB xt), .int .i64 xo, .int .i64 xz, .int .i64 xs] 42)).drew = W := ⟨_, rfl⟩
      have hbW : Below w10.heap.size w10 W := by rw [← hW]; exact (bel_drew (bel_alloc bel_refl)).below
      have HPW := Lib.hid (HP10.out.keep hbW)
      have HCW := Lib.hid (HC10.out.keep hbW)
      have hrd : Reads W W.heap.size 4 (some ⟨w10.heap.size, 0, none⟩) 1 (tmC ⟨xt, xo, xz, xs⟩) := by
        have h9 := reads_new w10 (tmC ⟨xt, xo, xz, xs⟩) 42 4 1 rfl
        have h8 : W.heap.size = w10.heap.size + 1 := by rw [← hW]; simp
        rw [h8, ← hW]
        exact h9
      have HRD := Lib.hid hrd
      have hvW := (hbW.cell (p := ⟨xb, 0, none⟩) hvl).trans v0
      have hlW := Nat.lt_of_lt_of_le hvl hbW.size
      have HVW := Lib.hid hvW
      have HOWN := Lib.hid HPW.out.own
      clear hrd hbW HP10 HC10 hvW
      subst hW
      go_region_law
        (first
          | (refine step_append_any _ (by rfl) (.tmp 67) (.tmp 69) _ (by rfl) (w.heap.size + 1) 42 i0 zz 4 40 Try.underlying30 hi0 hz0 hz1 hz2 hz3 (by omega) _ j _ (by rfl) HOWN.out _ _ 1 _ _ (by rfl) HRD.out (by simpa using tmC_one (⟨xt, xo, xz, xs⟩ : Tm)) (by unfold maxLen; omega) (by omega) HPW.out.le ?_; intro v' w11 hown hgrow hat
             obtain ⟨A11, c11, rfl, hp11, hb11⟩ := HPW.out.more (v := ⟨xt, xo, xz, xs⟩) hown hgrow
             have HP11 := Lib.hid hp11
             have HB11 := Lib.hid hb11
             have HG11 := Lib.hid hgrow
             have y0 : w11.cell? ⟨xb, 0, none⟩ = some (.string (strB xt)) := (World.cell?_of_block (hgrow.block xb hlW (fun e => HNE.out xb (by rw [← ownBlock_slice]; exact e.symm) rfl))).trans HVW.out
             clear hown hgrow hat hp11 hb11))
      all_goals
        have HCF : Hid (Cf w w11 b (12 + 16 * (j + 1)) A c) := Lib.hid ⟨rd_grownB (B := w.heap.size + 1) HCW.out.rd HG11.out (by omega) (fun k hk => Nat.lt_succ_of_lt (HCW.out.row k hk)) (fun k hk => (own_lt HOWN.out k hk).1), HCW.out.bel.trans (HB11.out.mono (by omega)), HCW.out.row⟩
        have HPF := HP11.out
        rw [← HX.out] at HPF
        have HPF := Lib.hid HPF
        clear HCW HPW HRD HVW HOWN HG11 HB11 HP11 HV
        go_wp2_with fail
        go_roundw
        case rel => exact ⟨j + 1, A11, c11, by omega, by go_num, rfl, by rw [HNX.out], HPF, HCF⟩
        case measure => simp [intOf]; omega
    · obtain rfl : j = k := by omega
      have ht : ts.take j = ts := List.take_of_length_le (by omega)
      rw [ht] at HP
      obtain ⟨g, hA1, hg, hcl, hb⟩ := HP.out.blk (by omega)
      subst hA1
      have HH := Lib.hid hb.tmh
      have hgl := hb.lt
      have HR : Hid (∀ w', Below wr.heap.size wr w' → PaR v ts w (.returned (.tuple #[.int .i64 v, .slice (some ⟨g, 0, none⟩) j cl, .int .i64 0])) w') := Lib.hid fun w' hb' => ⟨g, cl, by rw [hk], HH.out.keep hgl hb', Nat.lt_of_lt_of_le hgl hb'.size, HC.out.bel.trans (hb'.mono HC.out.bel.size)⟩
      have HAP := Lib.hid (apart_any (c := cl) HH.out hgl hk k1 (by omega) H.out.apt)
      have d4 : decide ((j : Int) < j) = false := by simp
      generalize PaR v ts w = R at *
      clear hb ht HP H
      go_wp2_with (first
        | (go_at_call 41; (with_reducible refine HAP.out.mono ?_); rintro e w2 ⟨rfl, hb⟩; have HF := Lib.hid (HR.out _ hb); clear hb)
        | fail)
      go_ret3
      exact HF.out
set_option maxRecDepth 20000 in
theorem Parse_short {w : World} {A : Option Addr} {n c : Nat} (hn : n < 12) :
    Calls Try.prog 12 #[.slice A n c] w fun e w' => e = .returned (.tuple #[.int .i64 0, .slice none 0 0, .int .i64 30]) ∧ w = w' := by
  have d0 : decide ((1048576 : Int) < n) = false := by simp; omega
  have d1 : decide ((n : Int) < 12) = true := by simp; omega
  go_enter Try.func12, Try.ntmps12
  go_wp2_with fail
  go_ret3
  exact ⟨rfl, rfl⟩
end Go.Proofs.Ytejombofjakllaa

namespace Go.Proofs.Ytejombofjakllaa
open Go.RowKit Go.Shelf

/-- A table's bytes. -/
def dataT (b : List UInt8) (x : Tm) : List UInt8 := (b.drop x.o.toNat).take x.z.toNat
theorem dataT_len {b : List UInt8} {v : Int} {ts : List Tm} (h : GoodP b v ts) {x : Tm} (hx : x ∈ ts) : (dataT b x).length = x.z.toNat := by
  have := h.ok x hx
  unfold dataT
  rw [List.length_take, List.length_drop]
  omega
def FiR (N : List UInt8) (w : World) (e : Ending) (w' : World) : Prop := ∃ A' c', e = .returned (.tuple #[.slice A' N.length c', .int .i64 0]) ∧ N.length ≤ c' ∧ (∀ k, rowOf A' = some k → w.heap.size ≤ k ∧ k < w'.heap.size) ∧ SlAt w' A' N.length (N.map byteV) ∧ Below w.heap.size w w'
theorem tags_ne {ts : List Tm} (h : ts.Pairwise (fun x y => x.t < y.t)) {i j : Nat} {x y : Tm} (hx : ts[i]? = some x) (hy : ts[j]? = some y) (hij : i < j) : x.t ≠ y.t := by
  rw [List.pairwise_iff_getElem] at h
  obtain ⟨h1, rfl⟩ := List.getElem?_eq_some_iff.1 hx
  obtain ⟨h2, rfl⟩ := List.getElem?_eq_some_iff.1 hy
  intro e
  have := h i j h1 h2 hij
  rw [e] at this
  exact lt_irr _ this
theorem sub_at {w : World} {A : Option Addr} {n c o z : Nat} {vs : List Value} (h : SlAt w A n vs) (hz : o + z ≤ n) (hc : n ≤ c) : SlAt w (if c = o then A else Option.map (fun x => x.add o) A) z ((vs.drop o).take z) := by
  by_cases hco : c = o
  · obtain rfl : z = 0 := by omega
    rw [if_pos hco, List.take_zero]
    exact SlAt.nil _ _
  · rw [if_neg hco]
    exact h.sub o z hz
set_option maxRecDepth 20000 in
set_option maxHeartbeats 2000000 in
theorem Find_any {w : World} {A : Option Addr} {n c : Nat} {b : List UInt8} {v : Int} {ts : List Tm} {tag : List UInt8} (hn : b.length = n) (hs : SlAt w A n (b.map byteV)) (hc : n ≤ c) (hA : ∀ k, rowOf A = some k → k < w.heap.size) (h : GoodP b v ts)
    {i : Nat} {x : Tm} (hx : ts[i]? = some x) (ht : x.t = tag) :
    Calls Try.prog 14 #[.slice A n c, .string (strB tag)] w (FiR (dataT b x) w) := by
  have HP := Lib.hid (Parse_any hn hs hc hA h)
  have hm := h.big
  obtain ⟨b1, b2, b3, b4, b5⟩ := h.ok x (List.mem_of_getElem? hx)
  have hdl := dataT_len h (List.mem_of_getElem? hx)
  have hi := (List.getElem?_eq_some_iff.1 hx).1
  obtain ⟨k, hk⟩ : ∃ k, ts.length = k := ⟨_, rfl⟩
  have k2 := h.n2
  obtain ⟨yt, yo, yz, ys⟩ := x
  dsimp only at b1 b2 b3 b4 b5 hdl ht
  obtain ⟨o, rfl⟩ : ∃ o : Nat, yo = o := ⟨yo.toNat, by omega⟩
  obtain ⟨z, rfl⟩ : ∃ z : Nat, yz = z := ⟨yz.toNat, by omega⟩
  rw [hn] at b5 hm
  obtain ⟨N, hN⟩ : ∃ N, dataT b ⟨yt, o, z, ys⟩ = N := ⟨_, rfl⟩
  have hNe : (b.drop o).take z = N := by rw [← hN]; simp [dataT]
  rw [hN, Int.toNat_natCast] at hdl
  rw [hN]
  have hZ : ∀ (w' : World) (_ : Below w.heap.size w w'), SlAt w' (if c = o then A else Option.map (fun x => x.add o) A) z (N.map byteV) := fun w' hb => by
    have := sub_at (o := o) (z := z) (c := c) (hs.keep hb) (by omega) hc
    rwa [← List.map_drop, ← List.map_take, hNe] at this
  have HZ := Lib.hid hZ
  have HR : Hid (∀ A' c' W w', z ≤ c' → Below w.heap.size w W → (∀ k, rowOf A' = some k → W.heap.size ≤ k ∧ k < w'.heap.size) → SlAt w' A' z (N.map byteV) → Below W.heap.size W w' → FiR N w (.returned (.tuple #[.slice A' z c', .int .i64 0])) w') := Lib.hid fun A' c' W w' h1 h2 h3 h4 h5 => ⟨A', c', by rw [hdl], by rw [hdl]; exact h1, fun k hk => ⟨Nat.le_trans h2.size (h3 k hk).1, (h3 k hk).2⟩, by rw [hdl]; exact h4, h2.trans (h5.mono h2.size)⟩
  have H := Lib.hid h.up
  have HX := Lib.hid hx
  have HT := Lib.hid ht
  rw [hk] at hi k2
  unfold PaR at HP
  rw [hk] at HP
  have HK := Lib.hid hk
  generalize FiR N w = R at *
  have c2 : o + z ≤ c := by omega
  have c3 : o ≤ o + z := by omega
  have hoz : o + z ≤ 1048576 := by omega
  clear h hs hx ht hN hNe hZ hdl b1 b2 b3 b4 b5
  have hzb : z ≤ 140737488355328 := by omega
  have C1 : Hid (wrap64 ((o : Int) + z) = ((o + z : Nat) : Int)) := Lib.hid (by unfold wrap64; omega)
  go_enter Try.func14, Try.ntmps14
  go_wp2_with (first
    | (go_at_call 12; (with_reducible refine HP.out.mono ?_); rintro e w1 ⟨g, c1, rfl, ht1, hg1, hb1⟩; have HT1 := Lib.hid ht1; have HB1 := Lib.hid hb1; clear ht1 hb1)
    | fail)
  go_loopw [22] (fun s wr => ∃ j : Nat, j ≤ i ∧ s = .int .i64 j ∧ Hid (Below w.heap.size w wr) ∧ Hid (TmH wr g ts) ∧ g < wr.heap.size) (fun s _ => i + 1 - (intOf s).toNat)
  case atStart => exact ⟨0, Nat.zero_le _, rfl, HB1, HT1, hg1⟩
  case round =>
    obtain ⟨j, hj, rfl, HB, HTH, hg⟩ := hrel
    have hjk : j < k := by omega
    have d4 : decide ((j : Int) < k) = true := by simp; omega
    by_cases hji : j < i
    · obtain ⟨y, hy⟩ := get_some' (l := ts) (k := j) (by rw [HK.out]; exact hjk)
      obtain ⟨a0, a1, a2, a3⟩ := HTH.out.four hy
      have e1 : (y.t == tag) = false := by
        rw [beq_eq_false_iff_ne, ← HT.out]
        exact tags_ne H.out hy HX.out hji
      clear hy HP HZ HR HT1 HB1
      go_wp2_with fail
      go_roundw
      case rel => exact ⟨j + 1, by omega, by go_num, Lib.hid (HB.out.trans ((bel_alloc bel_refl).below.mono HB.out.size)), Lib.hid (HTH.out.keep hg (bel_alloc bel_refl).below), by simp; omega⟩
      case measure => simp [intOf]; omega
    · obtain rfl : j = i := by omega
      obtain ⟨a0, a1, a2, a3⟩ := HTH.out.four HX.out
      have e1 : (yt == tag) = true := by rw [HT.out]; simp
      have HBA := Lib.hid (HB.out.trans ((bel_alloc (o := .cells #[.string (strB yt), .int .i64 o, .int .i64 z, .int .i64 ys] 42) (bel_refl (a := wr))).below.mono HB.out.size))
      clear HP HX HT H
      by_cases hco : c = o
      all_goals
        have HZ1 := HZ.out
        first | (rw [if_pos hco] at HZ1) | (rw [if_neg hco] at HZ1)
        have HZ := Lib.hid HZ1
        clear HZ1
        go_wp2_with (first
          | (go_at_call 42; (with_reducible refine (clone_cl (HZ.out _ HBA.out) hzb).mono ?_); rintro e w2 ⟨A2, c2, rfl, hc2, _, hro, hs2, hb2⟩; have HF := Lib.hid (HR.out _ _ _ _ hc2 HBA.out hro hs2 hb2); clear hro hs2 hb2)
          | fail)
        exact HF.out
set_option maxRecDepth 20000 in
set_option maxHeartbeats 2000000 in
theorem Find_none {w : World} {A : Option Addr} {n c : Nat} {b : List UInt8} {v : Int} {ts : List Tm} {tag : List UInt8} (hn : b.length = n) (hs : SlAt w A n (b.map byteV)) (hc : n ≤ c) (hA : ∀ k, rowOf A = some k → k < w.heap.size) (h : GoodP b v ts)
    (ht : ∀ x ∈ ts, x.t ≠ tag) :
    Calls Try.prog 14 #[.slice A n c, .string (strB tag)] w fun e w' => e = .returned (.tuple #[.slice none 0 0, .int .i64 41]) ∧ Below w.heap.size w w' := by
  have HP := Lib.hid (Parse_any hn hs hc hA h)
  obtain ⟨k, hk⟩ : ∃ k, ts.length = k := ⟨_, rfl⟩
  have k2 := h.n2
  have HT := Lib.hid ht
  rw [hk] at k2
  unfold PaR at HP
  rw [hk] at HP
  have HK := Lib.hid hk
  clear h hs ht
  go_enter Try.func14, Try.ntmps14
  go_wp2_with (first
    | (go_at_call 12; (with_reducible refine HP.out.mono ?_); rintro e w1 ⟨g, c1, rfl, ht1, hg1, hb1⟩; have HT1 := Lib.hid ht1; have HB1 := Lib.hid hb1; clear ht1 hb1)
    | fail)
  go_loopw [22] (fun s wr => ∃ j : Nat, j ≤ k ∧ s = .int .i64 j ∧ Hid (Below w.heap.size w wr) ∧ Hid (TmH wr g ts) ∧ g < wr.heap.size) (fun s _ => k - (intOf s).toNat)
  case atStart => exact ⟨0, Nat.zero_le _, rfl, HB1, HT1, hg1⟩
  case round =>
    obtain ⟨j, hj, rfl, HB, HTH, hg⟩ := hrel
    by_cases hjk : j < k
    · have d4 : decide ((j : Int) < k) = true := by simp; omega
      obtain ⟨y, hy⟩ := get_some' (l := ts) (k := j) (by rw [HK.out]; exact hjk)
      obtain ⟨a0, a1, a2, a3⟩ := HTH.out.four hy
      have e1 : (y.t == tag) = false := by
        rw [beq_eq_false_iff_ne]
        exact HT.out y (List.mem_of_getElem? hy)
      clear hy HP HT1 HB1
      go_wp2_with fail
      go_roundw
      case rel => exact ⟨j + 1, by omega, by go_num, Lib.hid (HB.out.trans ((bel_alloc bel_refl).below.mono HB.out.size)), Lib.hid (HTH.out.keep hg (bel_alloc bel_refl).below), by simp; omega⟩
      case measure => simp [intOf]; omega
    · obtain rfl : j = k := by omega
      go_wp2_with fail
      go_ret2
      exact ⟨rfl, HB.out⟩
set_option maxRecDepth 20000 in
theorem Find_short {w : World} {A : Option Addr} {n c : Nat} {tag : List UInt8} (hn : n < 12) :
    Calls Try.prog 14 #[.slice A n c, .string (strB tag)] w fun e w' => e = .returned (.tuple #[.slice none 0 0, .int .i64 30]) ∧ w = w' := by
  have HP := Lib.hid (Parse_short (w := w) (A := A) (c := c) hn)
  go_enter Try.func14, Try.ntmps14
  go_wp2_with (first
    | (go_at_call 12; (with_reducible refine HP.out.mono ?_); rintro e w1 ⟨rfl, rfl⟩)
    | fail)
  go_ret2
  exact ⟨rfl, rfl⟩
/-- The sums of a font's tables are as its directory tells. -/
def SumsP (b : List UInt8) (ts : List Tm) : Prop := ∀ x ∈ ts, sumS (plainS (x.t, dataT b x)) = x.s
set_option maxRecDepth 20000 in
set_option maxHeartbeats 2000000 in
theorem Check_any {w : World} {A : Option Addr} {n c : Nat} {b : List UInt8} {v : Int} {ts : List Tm} (hn : b.length = n) (hs : SlAt w A n (b.map byteV)) (hc : n ≤ c) (hA : ∀ k, rowOf A = some k → k < w.heap.size) (h : GoodP b v ts) (hq : SumsP b ts) :
    Calls Try.prog 13 #[.slice A n c] w fun e w' => e = .returned (.int .i64 0) ∧ Below w.heap.size w w' := by
  have HP := Lib.hid (Parse_any hn hs hc hA h)
  obtain ⟨k, hk⟩ : ∃ k, ts.length = k := ⟨_, rfl⟩
  have k2 := h.n2
  have hm := h.big
  have H := Lib.hid h
  have HS := Lib.hid hs
  have HQ := Lib.hid hq
  have HNL := Lib.hid hn
  rw [hk] at k2
  rw [hn] at hm
  unfold PaR at HP
  rw [hk] at HP
  have HK := Lib.hid hk
  clear h hs hq
  go_enter Try.func13, Try.ntmps13
  go_wp2_with (first
    | (go_at_call 12; (with_reducible refine HP.out.mono ?_); rintro e w1 ⟨g, c1, rfl, ht1, hg1, hb1⟩; have HT1 := Lib.hid ht1; have HB1 := Lib.hid hb1; clear ht1 hb1)
    | fail)
  go_loopw [19] (fun s wr => ∃ j : Nat, j ≤ k ∧ s = .int .i64 j ∧ Hid (Below w.heap.size w wr) ∧ Hid (TmH wr g ts) ∧ g < wr.heap.size) (fun s _ => k - (intOf s).toNat)
  case atStart => exact ⟨0, Nat.zero_le _, rfl, HB1, HT1, hg1⟩
  case round =>
    obtain ⟨j, hj, rfl, HB, HTH, hg⟩ := hrel
    by_cases hjk : j < k
    · have d4 : decide ((j : Int) < k) = true := by simp; omega
      obtain ⟨y, hy⟩ := get_some' (l := ts) (k := j) (by rw [HK.out]; exact hjk)
      obtain ⟨a0, a1, a2, a3⟩ := HTH.out.four hy
      have hmem := List.mem_of_getElem? hy
      obtain ⟨b1, b2, b3, b4, b5⟩ := H.out.ok y hmem
      have hdl := dataT_len H.out hmem
      have hsu := HQ.out y hmem
      obtain ⟨yt, yo, yz, ys⟩ := y
      dsimp only at b1 b2 b3 b4 b5 hdl a0 a1 a2 a3 hsu
      obtain ⟨o, rfl⟩ : ∃ o : Nat, yo = o := ⟨yo.toNat, by omega⟩
      obtain ⟨z, rfl⟩ : ∃ z : Nat, yz = z := ⟨yz.toNat, by omega⟩
      rw [hn] at b5
      obtain ⟨N, hN⟩ : ∃ N, dataT b ⟨yt, o, z, ys⟩ = N := ⟨_, rfl⟩
      have hNe : (b.drop o).take z = N := by rw [← hN]; simp [dataT]
      rw [hN, Int.toNat_natCast] at hdl
      rw [hN] at hsu
      subst hsu
      have HZ := Lib.hid fun (w' : World) (hb : Below w.heap.size w w') => (show SlAt w' (if c = o then A else Option.map (fun x => x.add o) A) z (N.map byteV) by
        have := sub_at (o := o) (z := z) (c := c) (HS.out.keep hb) (by omega) hc
        rwa [← List.map_drop, ← List.map_take, hNe] at this)
      have hpl : (plainS (yt, N)).length = z := by rw [plain_len]; exact hdl
      have c2 : o + z ≤ c := by omega
      have c3 : o ≤ o + z := by omega
      have hoz : o + z ≤ 1048576 := by omega
      have hzb : z ≤ 140737488355328 := by omega
      have HBA := Lib.hid (HB.out.trans ((bel_alloc (o := .cells #[.string (strB yt), .int .i64 o, .int .i64 z, .int .i64 (sumS (plainS (yt, N)))] 42) (bel_refl (a := wr))).below.mono HB.out.size))
      have HTA := Lib.hid (HTH.out.keep hg (bel_alloc (o := .cells #[.string (strB yt), .int .i64 o, .int .i64 z, .int .i64 (sumS (plainS (yt, N)))] 42) (bel_refl (a := wr))).below)
      have hbx := Blk.new wr 42 [.string (strB yt), .int .i64 o, .int .i64 z, .int .i64 (sumS (plainS (yt, N)))]
      have HBX := Lib.hid hbx
      have hgA : g < (wr.alloc (.cells #[.string (strB yt), .int .i64 o, .int .i64 z, .int .i64 (sumS (plainS (yt, N)))] 42)).heap.size := by simp; omega
      clear hy HP H HQ HS hbx hN hNe b1 b2 b3 b4 hmem HT1 HB1
      obtain ⟨xb, hxb⟩ : ∃ xb, wr.heap.size = xb := ⟨_, rfl⟩
      go_upto_region 7 with fail
      obtain ⟨u1, hu1⟩ : ∃ u1, wr.alloc (.cells #[.string (strB yt), .int .i64 o, .int .i64 z, .int .i64 (sumS (plainS (yt, N)))] 42) = u1 := ⟨_, rfl⟩
      rw [hu1] at HBA HTA HBX hgA
      rw [hxb] at HBX
      rw [hu1]
      clear hu1 a0 a1 a2 a3
      have i0 : IntKind.i64.wrap ((o : Int) + z) = (o : Int) + z := IntWalk.i64_in _ (by omega)
      have i1 : (0 : Int) ≤ (o : Int) + z := by omega
      have i2 : (o : Int) + z ≤ c := by omega
      have i3 : (0 : Int) ≤ (o : Int) := by omega
      have i4 : (o : Int) ≤ (o : Int) + z := by omega
      have i5 : ((o : Int) + z).toNat = o + z := by omega
      have i6 : o + z - o = z := by omega
      have i7 : (0 : Int) ≤ (z : Int) := by omega
      have hS0 : ∀ u : World, Blk u xb 42 [.string (strB yt), .int .i64 o, .int .i64 z, .int .i64 (sumS (plainS (yt, N)))] → u.cell? ⟨xb, 0, none⟩ = some (.string (strB yt)) := fun u hu => hu.cell 0
      have hS1 : ∀ u : World, Blk u xb 42 [.string (strB yt), .int .i64 o, .int .i64 z, .int .i64 (sumS (plainS (yt, N)))] → u.cell? ⟨xb, 1, none⟩ = some (.int .i64 o) := fun u hu => hu.cell 1
      have hS2 : ∀ u : World, Blk u xb 42 [.string (strB yt), .int .i64 o, .int .i64 z, .int .i64 (sumS (plainS (yt, N)))] → u.cell? ⟨xb, 2, none⟩ = some (.int .i64 z) := fun u hu => hu.cell 2
      have hS3 : ∀ u : World, Blk u xb 42 [.string (strB yt), .int .i64 o, .int .i64 z, .int .i64 (sumS (plainS (yt, N)))] → u.cell? ⟨xb, 3, none⟩ = some (.int .i64 (sumS (plainS (yt, N)))) := fun u hu => hu.cell 3
      have hS4 : ∀ u : World, Blk u xb 42 [.string (strB yt), .int .i64 o, .int .i64 z, .int .i64 (sumS (plainS (yt, N)))] → xb < u.heap.size := fun u hu => hu.lt
      have HBD := Lib.hid HBX.out.drew
      have HBE := Lib.hid HBA.out.drew
      have HTE : Hid (TmH u1.drew g ts) := Lib.hid HTA.out
      have hgE : g < u1.drew.heap.size := hgA
      obtain ⟨L, hL⟩ : ∃ L : List Value, [.string (strB yt), .int .i64 o, .int .i64 z, .int .i64 (sumS (plainS (yt, N)))] = L := ⟨_, rfl⟩
      rw [hL] at HBX HBD
      simp only [hL] at hS0 hS1 hS2 hS3 hS4
      clear hL
      by_cases hco : c = o
      all_goals
        have HZ1 := HZ.out
        first | (rw [if_neg hco] at HZ1) | (subst hco; rw [if_pos rfl] at HZ1)
        have HZ := Lib.hid HZ1
        clear HZ1
        go_region_held (fun u => Blk u xb 42 L) (first | (with_reducible exact HBD.out) | (with_reducible exact HA1.out) | (with_reducible exact HA2.out)) (first
          | (go_at_call 27; (with_reducible refine (plain_any yt (HZ.out _ HBE.out) hdl hzb).mono ?_); rintro e w6 ⟨A6, c6, rfl, hc6, _, _, hs6, hb6⟩; have HS6 := Lib.hid hs6; have HB6 := Lib.hid hb6; have HA1 := Lib.hid (HBD.out.keepB hb6); clear hs6 hb6)
          | (go_at_call 15; (with_reducible refine (Sum_any HS6.out hpl hc6 hzb).mono ?_); rintro e w7 ⟨rfl, hb7⟩; have HB7 := Lib.hid (HB6.out.trans (hb7.mono HB6.out.size)); have HA2 := Lib.hid (HA1.out.keepB hb7); clear hb7))
        all_goals
          have HBF := Lib.hid (HBE.out.trans (HB7.out.mono HBE.out.size))
          have HTF := Lib.hid (HTE.out.keep hgE HB7.out)
          have hgF := Nat.lt_of_lt_of_le hgE HB7.out.size
          clear HA1 HA2 HS6 HB6 HB7 HZ hS0 hS1 hS2 hS3 hS4 HBD HBX HBE HTE i0 i1 i2 i3 i4 i5 i6 i7
          go_wp2_with fail
          go_roundw
          case rel => exact ⟨j + 1, by omega, by go_num, HBF, HTF, hgF⟩
          case measure => simp [intOf]; omega
    · obtain rfl : j = k := by omega
      go_wp2_with fail
      go_ret
      exact ⟨rfl, HB.out⟩
end Go.Proofs.Ytejombofjakllaa

namespace Go.Proofs.Ytejombofjakllaa
open Go.RowKit Go.Shelf

/-- A font's tables, as its directory tells. -/
def tbS : Nat → List Bl → List Tm
  | _, [] => []
  | k, t :: r => ⟨t.1, k, t.2.length, sumS (plainS t)⟩ :: tbS (k + upN t.2.length) r
theorem tbS_len : ∀ (S : List Bl) (k : Nat), (tbS k S).length = S.length
  | [], _ => rfl
  | _ :: r, k => by show (tbS _ r).length + 1 = r.length + 1; rw [tbS_len r]
theorem tbS_tags : ∀ (S : List Bl) (k : Nat), (tbS k S).map Tm.t = S.map Prod.fst
  | [], _ => rfl
  | t :: r, k => by
    show t.1 :: (tbS (k + upN t.2.length) r).map Tm.t = t.1 :: r.map Prod.fst
    rw [tbS_tags r]
theorem tbS_at : ∀ {S : List Bl} {k i : Nat} {x : Tm}, (tbS k S)[i]? = some x → ∃ a t b, S = a ++ t :: b ∧ a.length = i ∧ x = ⟨t.1, ((k + totS a : Nat) : Int), t.2.length, sumS (plainS t)⟩
  | [], _, _, _, h => by cases h
  | t :: r, k, 0, x, h => by
    injection h with h
    exact ⟨[], t, r, rfl, rfl, by rw [← h]; rfl⟩
  | t :: r, k, i + 1, x, h => by
    obtain ⟨a, u, b, h1, h2, h3⟩ := tbS_at (S := r) (k := k + upN t.2.length) (i := i) (x := x) h
    refine ⟨t :: a, u, b, by rw [h1]; rfl, by simp [h2], ?_⟩
    rw [h3, totS_cons, Nat.add_assoc]
theorem tbS_of {S a b : List Bl} {t : Bl} {k : Nat} (h : S = a ++ t :: b) : (tbS k S)[a.length]? = some ⟨t.1, ((k + totS a : Nat) : Int), t.2.length, sumS (plainS t)⟩ := by
  obtain ⟨x, hx⟩ : ∃ x, (tbS k S)[a.length]? = some x := ⟨_, List.getElem?_eq_getElem (by rw [tbS_len, h]; simp)⟩
  obtain ⟨a', t', b', h1, h2, h3⟩ := tbS_at hx
  rw [h] at h1
  obtain ⟨e1, e2⟩ := List.append_inj h1 h2.symm
  injection e2 with e2 e3
  subst e1 e2
  rw [hx, h3]
theorem tbS_from : ∀ (S : List Bl) (k : Nat), ∀ x ∈ tbS k S, (k : Int) ≤ x.o ∧ 0 ≤ x.z
  | [], _, _, h => by cases h
  | t :: r, k, x, h => by
    rcases List.mem_cons.1 h with rfl | h
    · exact ⟨Int.le_refl _, by show (0 : Int) ≤ (t.2.length : Int); omega⟩
    · have := tbS_from r _ x h
      omega
theorem tbS_ap : ∀ (S : List Bl) (k : Nat), (tbS k S).Pairwise ApP
  | [], _ => List.Pairwise.nil
  | t :: r, k => by
    refine List.pairwise_cons.2 ⟨fun y hy => ?_, tbS_ap r _⟩
    have h1 := (tbS_from r _ y hy).1
    have h2 := upN_ge t.2.length
    unfold ApP
    left
    show (k : Int) + (t.2.length : Int) ≤ y.o
    omega
theorem take_len {a b : List UInt8} {n : Nat} (h : a.length = n) : (a ++ b).take n = a := by subst h; exact List.take_left ..
theorem drop_len {a b : List UInt8} {n : Nat} (h : a.length = n) : (a ++ b).drop n = b := by subst h; exact List.drop_left ..
/-- A table's bytes in a font with a sum's number q. -/
def patS (q : Int) (t : Bl) : List UInt8 := if t.1 = headT ∧ 12 ≤ t.2.length then t.2.take 8 ++ beB 4 q ++ t.2.drop 12 else t.2
theorem pat_len (q : Int) (t : Bl) : (patS q t).length = t.2.length := by
  unfold patS
  split
  · rename_i h
    simp [beB_length]
    omega
  · rfl
theorem pat_plain (q : Int) (t : Bl) : plainS (t.1, patS q t) = plainS t := by
  have hl := pat_len q t
  unfold plainS
  by_cases h : t.1 = headT ∧ 12 ≤ t.2.length
  · rw [if_pos (show (t.1, patS q t).1 = headT ∧ 12 ≤ (t.1, patS q t).2.length from ⟨h.1, by rw [hl]; exact h.2⟩), if_pos h]
    unfold patS
    rw [if_pos h]
    have h8 : (t.2.take 8).length = 8 := by simp; omega
    have h4 : (t.2.take 8 ++ beB 4 q).length = 12 := by simp [beB_length]; omega
    have e1 : (t.2.take 8 ++ beB 4 q ++ t.2.drop 12).take 8 = t.2.take 8 := by rw [List.append_assoc]; exact take_len h8
    have e2 : (t.2.take 8 ++ beB 4 q ++ t.2.drop 12).drop 12 = t.2.drop 12 := drop_len h4
    dsimp only
    rw [e1, e2]
  · rw [if_neg (show ¬ ((t.1, patS q t).1 = headT ∧ 12 ≤ (t.1, patS q t).2.length) from by rw [hl]; exact h), if_neg h]
    show patS q t = t.2
    unfold patS
    rw [if_neg h]
def datQ (q : Int) (S : List Bl) : List UInt8 := (S.map fun t => padS (patS q t)).flatten
theorem datQ_split (q : Int) (a b : List Bl) (t : Bl) : datQ q (a ++ t :: b) = datQ q a ++ (patS q t ++ List.replicate (upN t.2.length - t.2.length) 0 ++ datQ q b) := by
  unfold datQ padS
  simp [pat_len]
theorem datQ_len (q : Int) : ∀ S : List Bl, (datQ q S).length = totS S
  | [] => rfl
  | t :: r => by
    show (padS (patS q t) ++ datQ q r).length = _
    rw [List.length_append, padS_len, pat_len, datQ_len q r, totS_cons]
theorem datQ_no {q : Int} {S : List Bl} (h : ∀ t ∈ S, ¬ (t.1 = headT ∧ 12 ≤ t.2.length)) : datS S = datQ q S := by
  unfold datS datQ
  congr 1
  refine List.map_congr_left fun t ht => ?_
  unfold patS plainS
  rw [if_neg (h t ht), if_neg (h t ht)]
theorem datS_split (a b : List Bl) (t : Bl) : datS (a ++ t :: b) = datS a ++ (plainS t ++ List.replicate (upN t.2.length - t.2.length) 0 ++ datS b) := by
  unfold datS padS
  simp [plain_len]
/-- A font laid out: its head, its directory, its tables; head patched. -/
theorem lay_is_q {v : Int} {S : List Bl} (hl : ∀ t ∈ S, t.1.length = 4) (hn : TagNd S) : ∃ q, layS v S = hdrS v S.length ++ dirS (12 + 16 * S.length) S ++ datQ q S := by
  unfold layS
  cases hh : hdA (12 + 16 * S.length) S with
  | none => exact ⟨0, by show rawS v S = _; unfold rawS; rw [datQ_no (q := 0) (hdA_none hh)]⟩
  | some h =>
    obtain ⟨a, t, b, hS, he, h1, h2⟩ := hdA_some hh
    refine ⟨(2981146554 - sumS (rawS v S) + 4294967296) % 4294967296, ?_⟩
    show fixS (rawS v S) h = _
    unfold fixS
    obtain ⟨q, hq⟩ : ∃ q, (2981146554 - sumS (rawS v S) + 4294967296) % 4294967296 = q := ⟨_, rfl⟩
    rw [hq]
    clear hq
    have hne : ∀ x ∈ a ++ b, ¬ (x.1 = headT ∧ 12 ≤ x.2.length) := by
      intro x hx ⟨hx1, _⟩
      unfold TagNd at hn
      rw [hS, List.map_append, List.map_cons, List.nodup_append, List.nodup_cons] at hn
      rcases List.mem_append.1 hx with hx | hx
      · exact hn.2.2 x.1 (List.mem_map_of_mem hx) t.1 (List.mem_cons_self ..) (by rw [hx1, h1])
      · exact hn.2.1.1 (by rw [h1, ← hx1]; exact List.mem_map_of_mem hx)
    have ha := datQ_no (q := q) (fun x hx => hne x (List.mem_append_left _ hx))
    have hb := datQ_no (q := q) (fun x hx => hne x (List.mem_append_right _ hx))
    obtain ⟨P, hP⟩ : ∃ P, hdrS v S.length ++ dirS (12 + 16 * S.length) S ++ datS a = P := ⟨_, rfl⟩
    have hPl : P.length = h := by rw [← hP, List.length_append, List.length_append, hdrS_len, dirS_len _ hl, datS_len, he]
    obtain ⟨Z, hZ⟩ : ∃ Z, List.replicate (upN t.2.length - t.2.length) (0 : UInt8) ++ datS b = Z := ⟨_, rfl⟩
    have hraw : rawS v S = P ++ (t.2.take 8 ++ ([0, 0, 0, 0] ++ (t.2.drop 12 ++ Z))) := by
      unfold rawS
      rw [show datS S = datS a ++ (plainS t ++ List.replicate (upN t.2.length - t.2.length) 0 ++ datS b) by rw [hS]; exact datS_split a b t, ← List.append_assoc (hdrS v S.length ++ dirS (12 + 16 * S.length) S), hP, List.append_assoc (plainS t), hZ]
      unfold plainS
      rw [if_pos ⟨h1, h2⟩]
      simp
    have hfin : hdrS v S.length ++ dirS (12 + 16 * S.length) S ++ datQ q S = P ++ (t.2.take 8 ++ (beB 4 q ++ (t.2.drop 12 ++ Z))) := by
      rw [show datQ q S = datQ q a ++ (patS q t ++ List.replicate (upN t.2.length - t.2.length) 0 ++ datQ q b) by rw [hS]; exact datQ_split q a b t, ← ha, ← hb, ← List.append_assoc (hdrS v S.length ++ dirS (12 + 16 * S.length) S), hP, List.append_assoc (patS q t), hZ]
      unfold patS
      rw [if_pos ⟨h1, h2⟩]
      simp
    have h8 : (P ++ t.2.take 8).length = h + 8 := by rw [List.length_append, hPl]; simp; omega
    have h12 : (P ++ t.2.take 8 ++ [0, 0, 0, 0]).length = h + 12 := by rw [List.length_append, h8]; rfl
    rw [hfin, hraw]
    have e1 : (P ++ (t.2.take 8 ++ ([0, 0, 0, 0] ++ (t.2.drop 12 ++ Z)))).take (h + 8) = P ++ t.2.take 8 := by
      rw [← List.append_assoc, ← h8, List.take_left]
    have e2 : (P ++ (t.2.take 8 ++ ([0, 0, 0, 0] ++ (t.2.drop 12 ++ Z)))).drop (h + 12) = t.2.drop 12 ++ Z := by
      rw [← List.append_assoc, ← List.append_assoc, ← h12, List.drop_left]
    rw [e1, e2]
    simp
end Go.Proofs.Ytejombofjakllaa

namespace Go.Proofs.Ytejombofjakllaa
open Go.RowKit Go.Shelf

theorem take_drop_len {p a b : List UInt8} {n m : Nat} (h : p.length = n) (k : a.length = m) : ((p ++ (a ++ b)).drop n).take m = a := by rw [drop_len h, take_len k]
theorem ver_bd {v : Int} (h : verB v = true) : v % 4294967296 = v := by
  unfold verB at h
  simp only [decide_eq_true_eq] at h
  omega
theorem be4_nat {x : Nat} (h : x ≤ 1048576) : (numB (beB 4 (x : Int)) : Int) = x := by
  rw [numB_be4]
  omega
theorem lay_len {v : Int} {S : List Bl} (hl : ∀ t ∈ S, t.1.length = 4) (hn : TagNd S) : (layS v S).length = sizeS4 S := by
  obtain ⟨q, hq⟩ := lay_is_q (v := v) hl hn
  rw [hq, List.length_append, List.length_append, hdrS_len, dirS_len _ hl, datQ_len]
  rfl
theorem good_lay {v : Int} {S : List Bl} (hv : verB v = true) (n1 : 1 ≤ S.length) (n2 : S.length ≤ 64) (ht : ∀ t ∈ S, isTagB t.1 = true) (hu : TagUp S) (hs : sizeS4 S ≤ 1048576) : GoodP (layS v S) v (tbS (12 + 16 * S.length) S) := by
  have hl : ∀ t ∈ S, t.1.length = 4 := fun t h => tag_len (ht t h)
  have hlen := lay_len (v := v) hl (up_nd hu)
  obtain ⟨q, hq⟩ := lay_is_q (v := v) hl (up_nd hu)
  have hsz : sizeS4 S = 12 + 16 * S.length + totS S := rfl
  obtain ⟨k, hk⟩ : ∃ k, 12 + 16 * S.length = k := ⟨_, rfl⟩
  rw [hk] at hq ⊢
  refine ⟨by rw [tbS_len]; exact n1, by rw [tbS_len]; exact n2, hv, by rw [tbS_len, hlen]; omega, by rw [hlen]; exact hs, ?_, ?_, ?_, ?_, ?_, tbS_ap S k⟩
  · have h0 : layS v S = [] ++ (beB 4 v ++ (beB 2 S.length ++ beB 2 (16 * pwN S.length : Nat) ++ beB 2 (Nat.log2 S.length) ++ beB 2 (16 * S.length - 16 * pwN S.length : Int) ++ dirS k S ++ datQ q S)) := by
      rw [hq]; unfold hdrS; simp
    rw [h0, take_drop_len (p := []) (n := 0) rfl (beB_length 4 v), numB_be4, ver_bd hv]
  · have h0 : layS v S = beB 4 v ++ (beB 2 S.length ++ (beB 2 (16 * pwN S.length : Nat) ++ beB 2 (Nat.log2 S.length) ++ beB 2 (16 * S.length - 16 * pwN S.length : Int) ++ dirS k S ++ datQ q S)) := by
      rw [hq]; unfold hdrS; simp
    rw [h0, take_drop_len (beB_length 4 v) (beB_length 2 _), tbS_len]
    have := numB_be2 (S.length : Int)
    omega
  · intro i x hx
    obtain ⟨a, t, b, hS, ha, hxe⟩ := tbS_at hx
    have hla : ∀ t ∈ a, t.1.length = 4 := fun u hu => hl u (by rw [hS]; exact List.mem_append_left _ hu)
    have h4 : t.1.length = 4 := hl t (by rw [hS]; simp)
    have hdir : dirS k S = dirS k a ++ (entS (k + totS a) t ++ dirS (k + totS a + upN t.2.length) b) := by
      rw [hS, dirS_append]
      rfl
    obtain ⟨P, hP⟩ : ∃ P, hdrS v S.length ++ dirS k a = P := ⟨_, rfl⟩
    have hPl : P.length = 12 + 16 * i := by rw [← hP, List.length_append, hdrS_len, dirS_len _ hla, ha]
    obtain ⟨R, hR⟩ : ∃ R, dirS (k + totS a + upN t.2.length) b ++ datQ q S = R := ⟨_, rfl⟩
    have h0 : layS v S = P ++ (t.1 ++ (beB 4 (sumS (plainS t)) ++ (beB 4 ((k + totS a : Nat) : Int) ++ (beB 4 (t.2.length : Int) ++ R)))) := by
      rw [hq, hdir, ← hP, ← hR]
      unfold entS
      simp
    have htot : totS S = totS a + (upN t.2.length + totS b) := by rw [hS, totS_append, totS_cons]
    have hun := upN_ge t.2.length
    have hsb := sumS_bd (plainS t)
    rw [hxe]
    refine ⟨?_, ?_, ?_, ?_⟩
    · rw [h0]
      exact take_drop_len hPl h4
    · have h1 : layS v S = (P ++ t.1) ++ (beB 4 (sumS (plainS t)) ++ (beB 4 ((k + totS a : Nat) : Int) ++ (beB 4 (t.2.length : Int) ++ R))) := by rw [h0]; simp
      rw [h1, take_drop_len (by rw [List.length_append, hPl, h4]; omega) (beB_length 4 _), numB_be4]
      show sumS (plainS t) % 4294967296 = sumS (plainS t)
      omega
    · have h1 : layS v S = (P ++ t.1 ++ beB 4 (sumS (plainS t))) ++ (beB 4 ((k + totS a : Nat) : Int) ++ (beB 4 (t.2.length : Int) ++ R)) := by rw [h0]; simp
      rw [h1, take_drop_len (by rw [List.length_append, List.length_append, hPl, h4, beB_length]; omega) (beB_length 4 _), be4_nat (by omega)]
    · have h1 : layS v S = (P ++ t.1 ++ beB 4 (sumS (plainS t)) ++ beB 4 ((k + totS a : Nat) : Int)) ++ (beB 4 (t.2.length : Int) ++ R) := by rw [h0]; simp
      rw [h1, take_drop_len (by rw [List.length_append, List.length_append, List.length_append, hPl, h4, beB_length, beB_length]; omega) (beB_length 4 _), be4_nat (by omega)]
  · intro x hx
    obtain ⟨i, hi, hxi⟩ := List.mem_iff_getElem.1 hx
    obtain ⟨a, t, b, hS, ha, hxe⟩ := tbS_at (List.getElem?_eq_some_iff.2 ⟨hi, hxi⟩)
    have htot : totS S = totS a + (upN t.2.length + totS b) := by rw [hS, totS_append, totS_cons]
    have hun := upN_ge t.2.length
    have hma := totS_mod a
    rw [hxe, tbS_len, hlen]
    dsimp only
    refine ⟨ht t (by rw [hS]; simp), ?_, ?_, ?_, ?_⟩ <;> omega
  · have h1 : ((tbS k S).map Tm.t).Pairwise (fun a b => a < b) := by
      rw [tbS_tags, List.pairwise_map]
      exact hu
    rw [List.pairwise_map] at h1
    exact h1
theorem data_lay {v : Int} {S : List Bl} (ht : ∀ t ∈ S, isTagB t.1 = true) (hu : TagUp S) : ∃ q, ∀ a t b s, S = a ++ t :: b → dataT (layS v S) ⟨t.1, ((12 + 16 * S.length + totS a : Nat) : Int), t.2.length, s⟩ = patS q t := by
  have hl : ∀ t ∈ S, t.1.length = 4 := fun t h => tag_len (ht t h)
  obtain ⟨q, hq⟩ := lay_is_q (v := v) hl (up_nd hu)
  refine ⟨q, fun a t b s hS => ?_⟩
  have h0 : layS v S = (hdrS v S.length ++ dirS (12 + 16 * S.length) S ++ datQ q a) ++ (patS q t ++ (List.replicate (upN t.2.length - t.2.length) 0 ++ datQ q b)) := by
    rw [hq, show datQ q S = datQ q a ++ (patS q t ++ List.replicate (upN t.2.length - t.2.length) 0 ++ datQ q b) by rw [hS]; exact datQ_split q a b t]
    simp
  unfold dataT
  dsimp only
  rw [Int.toNat_natCast, Int.toNat_natCast, h0]
  exact take_drop_len (by rw [List.length_append, List.length_append, hdrS_len, dirS_len _ hl, datQ_len]) (pat_len q t)
theorem sums_lay {v : Int} {S : List Bl} (ht : ∀ t ∈ S, isTagB t.1 = true) (hu : TagUp S) : SumsP (layS v S) (tbS (12 + 16 * S.length) S) := by
  obtain ⟨q, hq⟩ := data_lay (v := v) ht hu
  intro x hx
  obtain ⟨i, hi, hxi⟩ := List.mem_iff_getElem.1 hx
  obtain ⟨a, t, b, hS, ha, hxe⟩ := tbS_at (List.getElem?_eq_some_iff.2 ⟨hi, hxi⟩)
  rw [hxe, hq a t b _ hS]
  exact congrArg sumS (pat_plain q t)
/-- The sum of all the bytes of a font with a head. -/
theorem sum_lay {v : Int} {S : List Bl} {h : Nat} (hl : ∀ t ∈ S, t.1.length = 4) (hh : hdA (12 + 16 * S.length) S = some h) : sumS (layS v S) = 2981146554 := by
  obtain ⟨a, t, b, hS, he, h1, h2⟩ := hdA_some hh
  obtain ⟨P, hP⟩ : ∃ P, hdrS v S.length ++ dirS (12 + 16 * S.length) S ++ datS a = P := ⟨_, rfl⟩
  have hPl : P.length = h := by rw [← hP, List.length_append, List.length_append, hdrS_len, dirS_len _ hl, datS_len, he]
  obtain ⟨Z, hZ⟩ : ∃ Z, t.2.drop 12 ++ (List.replicate (upN t.2.length - t.2.length) (0 : UInt8) ++ datS b) = Z := ⟨_, rfl⟩
  have hraw : rawS v S = (P ++ t.2.take 8) ++ ([0, 0, 0, 0] ++ Z) := by
    unfold rawS
    rw [show datS S = datS a ++ (plainS t ++ List.replicate (upN t.2.length - t.2.length) 0 ++ datS b) by rw [hS]; exact datS_split a b t, ← List.append_assoc (hdrS v S.length ++ dirS (12 + 16 * S.length) S), hP, ← hZ]
    unfold plainS
    rw [if_pos ⟨h1, h2⟩]
    simp
  have h8 : (P ++ t.2.take 8).length = h + 8 := by rw [List.length_append, hPl]; simp; omega
  have hm := totS_mod a
  have hlay : layS v S = fixS (rawS v S) h := by unfold layS; rw [hh]
  rw [hlay]
  unfold fixS
  obtain ⟨q, hq⟩ : ∃ q, (2981146554 - sumS (rawS v S) + 4294967296) % 4294967296 = q := ⟨_, rfl⟩
  rw [hq]
  have e1 : (rawS v S).take (h + 8) = P ++ t.2.take 8 := by rw [hraw]; exact take_len h8
  have e2 : (rawS v S).drop (h + 12) = Z := by
    rw [hraw, ← List.append_assoc]
    exact drop_len (by rw [List.length_append, h8]; rfl)
  rw [e1, e2, sumS_patch q (by rw [h8]; omega)]
  have e3 : P ++ t.2.take 8 ++ [0, 0, 0, 0] ++ Z = rawS v S := by rw [hraw]; simp
  rw [e3, ← hq]
  have := sumS_bd (rawS v S)
  omega
theorem build_perm {v : Int} {a b : List Bl} (h : a.Perm b) : buildS v a = buildS v b ∧ chkS v a = chkS v b := by
  have hc : chkS v a = chkS v b := by
    unfold chkS
    have h1 : a.all (fun t => isTagB t.1) = b.all (fun t => isTagB t.1) := by
      rw [Bool.eq_iff_iff, List.all_eq_true, List.all_eq_true]
      exact ⟨fun k x hx => k x (h.mem_iff.2 hx), fun k x hx => k x (h.mem_iff.1 hx)⟩
    have h2 : (a.map Prod.fst).Nodup ↔ (b.map Prod.fst).Nodup := nd_perm h
    rw [h.length_eq, h1, sizeS4_perm h]
    simp only [h2]
  refine ⟨?_, hc⟩
  unfold buildS
  by_cases h0 : chkS v a = 0
  · rw [if_pos h0, if_pos (by rw [← hc]; exact h0)]
    have hn := (chk_ok h0).2.2.2.2.1
    rw [up_eq (srtT_up hn) (srtT_up ((nd_perm h).1 hn)) ((srtT_perm a).trans (h.trans (srtT_perm b).symm))]
  · rw [if_neg h0, if_neg (by rw [← hc]; exact h0)]
/-- What was built may be parsed. -/
theorem good_build {v : Int} {l : List Bl} (h : chkS v l = 0) : GoodP (buildS v l) v (tbS (12 + 16 * l.length) (srtT l)) ∧ SumsP (buildS v l) (tbS (12 + 16 * l.length) (srtT l)) := by
  obtain ⟨h1, h2, h3, h4, h5, h6⟩ := chk_ok h
  have hp := srtT_perm l
  have hb : buildS v l = layS v (srtT l) := by unfold buildS; rw [if_pos h]
  have ht : ∀ t ∈ srtT l, isTagB t.1 = true := fun t ht => h4 t (hp.mem_iff.1 ht)
  have hg := good_lay (v := v) h1 (by rw [hp.length_eq]; exact h2) (by rw [hp.length_eq]; exact h3) ht (srtT_up h5) (by rw [sizeS4_perm hp]; exact h6)
  have hs := sums_lay (v := v) ht (srtT_up h5)
  rw [hp.length_eq] at hg hs
  rw [hb]
  exact ⟨hg, hs⟩
end Go.Proofs.Ytejombofjakllaa

namespace Go.Proofs.Ytejombofjakllaa
open Go.RowKit Go.Shelf

theorem make_zeros (m : Nat) (h : m ≤ 140737488355328) (w : World) : (Instr.makeSlice 25 (.int .i64 m) (.int .i64 m)).run Try.prog w =
    .ok (.slice (some ⟨w.heap.size, 0, none⟩) m m) (w.alloc (.cells (Array.replicate m (byteV 0)) 5)) := by
  rw [make_bytes m h w]
  simp
theorem slat_zeros (W : World) (m : Nat) (t : TypeId) : SlAt (W.alloc (.cells (Array.replicate m (byteV 0)) t)) (some ⟨W.heap.size, 0, none⟩) m ((List.replicate m (0 : UInt8)).map byteV) := by
  have := slat_blk (n := m) (Blk.new W t ((List.replicate m (0 : UInt8)).map byteV)) (by simp)
  simpa using this
def tag2 : List UInt8 := [97, 98, 99, 100]
def dat2 : List UInt8 := [49, 50, 51, 52, 53]
def z54 : List UInt8 := List.replicate 54 0
def livL : List Bl := [(headT, z54), (tag2, dat2)]
theorem liv_chk : chkS 65536 livL = 0 := by decide +kernel
theorem liv_srt : srtT livL = [(tag2, dat2), (headT, z54)] := by decide +kernel
def livN : List UInt8 := buildS 65536 livL
theorem liv_len : livN.length = 108 := by
  obtain ⟨h1, h2, h3, h4, h5, h6⟩ := chk_ok liv_chk
  have hp := srtT_perm livL
  have hb : livN = layS 65536 (srtT livL) := by unfold livN buildS; rw [if_pos liv_chk]
  rw [hb, lay_len (fun t ht => tag_len (h4 t (hp.mem_iff.1 ht))) (up_nd (srtT_up h5)), sizeS4_perm hp]
  rfl
def livT : List Tm := tbS 44 (srtT livL)
theorem liv_good : GoodP livN 65536 livT ∧ SumsP livN livT := good_build liv_chk
theorem liv_tags : livT.map Tm.t = [tag2, headT] := by
  unfold livT
  rw [tbS_tags, liv_srt]
  rfl
theorem liv_none : ∀ x ∈ livT, x.t ≠ [110, 111, 110, 101] := by
  intro x hx e
  have := List.mem_map_of_mem (f := Tm.t) hx
  rw [liv_tags, e] at this
  revert this
  decide +kernel
theorem liv_at : ∃ x, livT[0]? = some x ∧ x.t = tag2 ∧ dataT livN x = dat2 := by
  obtain ⟨h1, h2, h3, h4, h5, h6⟩ := chk_ok liv_chk
  have hp := srtT_perm livL
  have hb : livN = layS 65536 (srtT livL) := by unfold livN buildS; rw [if_pos liv_chk]
  obtain ⟨q, hq⟩ := data_lay (v := 65536) (fun t ht => h4 t (hp.mem_iff.1 ht)) (srtT_up h5)
  have hs : srtT livL = [] ++ (tag2, dat2) :: [(headT, z54)] := liv_srt
  refine ⟨_, tbS_of hs, rfl, ?_⟩
  rw [hb]
  exact hq [] (tag2, dat2) [(headT, z54)] _ hs
theorem liv_snd : ∃ x, livT[1]? = some x ∧ x.t = headT := by
  have hs : srtT livL = [(tag2, dat2)] ++ (headT, z54) :: [] := liv_srt
  exact ⟨_, tbS_of hs, rfl⟩
theorem liv_two : livT.length = 2 := by
  have := congrArg List.length liv_tags
  rwa [List.length_map] at this
theorem blk_bl {w : World} {g : Nat} {t : TypeId} {es : List Bm} (h : Blk w g t (es.map bmC).flatten) (hg : g < w.heap.size) (hd : ∀ v ∈ es, SlAt w v.A v.d.length (v.d.map byteV)) (hc : ∀ v ∈ es, v.d.length ≤ v.c) (hs : ∀ v ∈ es, v.d.length ≤ 140737488355328 ∧ v.t.length ≤ 140737488355328) : BlL w (some ⟨g, 0, none⟩) es.length es := by
  have hh := holds_of_blk (es := es) (ex := []) (by rw [List.append_nil]; exact h)
  have hr := rows_of_holds hg hh
  simp only [List.size_toArray] at hr
  exact ⟨hr, hd, hc, hs⟩
set_option maxRecDepth 20000 in
set_option maxHeartbeats 2000000 in
theorem liv_mem (w : World) : BlL (((w.alloc (.cells (Array.replicate 54 (byteV 0)) 5)).alloc (.cells #[.int .u8 49, .int .u8 50, .int .u8 51, .int .u8 52, .int .u8 53] 5 (5, 6))).alloc (.cells #[.string (strB headT), .slice (some ⟨w.heap.size, 0, none⟩) 54 54, .string (strB tag2), .slice (some ⟨w.heap.size + 1, 0, none⟩) 5 5] 36)) (some ⟨w.heap.size + 1 + 1, 0, none⟩) 2 [⟨headT, some ⟨w.heap.size, 0, none⟩, 54, z54⟩, ⟨tag2, some ⟨w.heap.size + 1, 0, none⟩, 5, dat2⟩] := by
  obtain ⟨w1, h1⟩ : ∃ w1, w.alloc (.cells (Array.replicate 54 (byteV 0)) 5) = w1 := ⟨_, rfl⟩
  have hz1 : w1.heap.size = w.heap.size + 1 := by rw [← h1]; simp
  have s1 := slat_zeros w 54 5
  rw [h1] at s1 ⊢
  obtain ⟨w2, h2⟩ : ∃ w2, w1.alloc (.cells #[.int .u8 49, .int .u8 50, .int .u8 51, .int .u8 52, .int .u8 53] 5 (5, 6)) = w2 := ⟨_, rfl⟩
  have hz2 : w2.heap.size = w.heap.size + 1 + 1 := by rw [← h2]; simp [hz1]
  have s2 : SlAt w2 (some ⟨w.heap.size + 1, 0, none⟩) 5 (dat2.map byteV) := by
    refine ⟨rfl, fun k hk => ⟨w.heap.size + 1, 0, rfl, by omega, ?_⟩⟩
    rw [← h2, ← hz1]
    have hb : (w1.alloc (.cells #[.int .u8 49, .int .u8 50, .int .u8 51, .int .u8 52, .int .u8 53] 5 (5, 6))).heap[w1.heap.size]? = some (.cells #[.int .u8 49, .int .u8 50, .int .u8 51, .int .u8 52, .int .u8 53] 5 (5, 6)) := heap_alloc_new w1 _
    unfold World.cell?
    rw [hb]
    have hk5 : k = 0 ∨ k = 1 ∨ k = 2 ∨ k = 3 ∨ k = 4 := by omega
    rcases hk5 with rfl | rfl | rfl | rfl | rfl <;> rfl
  have b12 : Below w1.heap.size w1 w2 := by rw [← h2]; exact (bel_alloc bel_refl).below
  rw [h2]
  have b23 := (bel_alloc (o := .cells #[.string (strB headT), .slice (some ⟨w.heap.size, 0, none⟩) 54 54, .string (strB tag2), .slice (some ⟨w.heap.size + 1, 0, none⟩) 5 5] 36) (bel_refl (a := w2))).below
  have s1' := (s1.keep b12).keep b23
  have s2' := s2.keep b23
  refine blk_bl (t := 36) (g := w.heap.size + 1 + 1) (es := [⟨headT, some ⟨w.heap.size, 0, none⟩, 54, z54⟩, ⟨tag2, some ⟨w.heap.size + 1, 0, none⟩, 5, dat2⟩]) ?_ (by simp [hz2]) ?_ ?_ ?_
  · exact Blk.newAt w2 36 [.string (strB headT), .slice (some ⟨w.heap.size, 0, none⟩) 54 54, .string (strB tag2), .slice (some ⟨w.heap.size + 1, 0, none⟩) 5 5] hz2
  · intro v hv
    simp only [List.mem_cons, List.mem_nil_iff, or_false] at hv
    rcases hv with rfl | rfl
    · exact s1'
    · exact s2'
  · intro v hv
    simp only [List.mem_cons, List.mem_nil_iff, or_false] at hv
    rcases hv with rfl | rfl <;> simp [z54, dat2]
  · intro v hv
    simp only [List.mem_cons, List.mem_nil_iff, or_false] at hv
    rcases hv with rfl | rfl <;> simp [z54, dat2, headT, tag2]
section
variable {W : World} {A : Option Addr} {c : Nat}
theorem liv_parse (hs : SlAt W A 108 (livN.map byteV)) (hc : 108 ≤ c) (hA : ∀ k, rowOf A = some k → k < W.heap.size) : Calls Try.prog 12 #[.slice A 108 c] W fun e w' => ∃ g c', e = .returned (.tuple #[.int .i64 65536, .slice (some ⟨g, 0, none⟩) 2 c', .int .i64 0]) ∧ TmH w' g livT ∧ g < w'.heap.size ∧ Below W.heap.size W w' :=
  (Parse_any liv_len hs hc hA liv_good.1).mono fun e w' ⟨g, c', he, h⟩ => ⟨g, c', by rw [he, liv_two], h⟩
theorem liv_find (hs : SlAt W A 108 (livN.map byteV)) (hc : 108 ≤ c) (hA : ∀ k, rowOf A = some k → k < W.heap.size) : Calls Try.prog 14 #[.slice A 108 c, .string ⟨#[97, 98, 99, 100]⟩] W fun e w' => ∃ A' c', e = .returned (.tuple #[.slice A' 5 c', .int .i64 0]) ∧ SlAt w' A' 5 (dat2.map byteV) ∧ Below W.heap.size W w' := by
  obtain ⟨x, h1, h2, h3⟩ := liv_at
  have := Find_any liv_len hs hc hA liv_good.1 h1 h2
  rw [h3] at this
  exact this.mono fun e w' ⟨A', c', he, _, _, h4, h5⟩ => ⟨A', c', he, h4, h5⟩
theorem liv_miss (hs : SlAt W A 108 (livN.map byteV)) (hc : 108 ≤ c) (hA : ∀ k, rowOf A = some k → k < W.heap.size) : Calls Try.prog 14 #[.slice A 108 c, .string ⟨#[110, 111, 110, 101]⟩] W fun e w' => e = .returned (.tuple #[.slice none 0 0, .int .i64 41]) ∧ Below W.heap.size W w' :=
  Find_none liv_len hs hc hA liv_good.1 liv_none
theorem liv_check (hs : SlAt W A 108 (livN.map byteV)) (hc : 108 ≤ c) (hA : ∀ k, rowOf A = some k → k < W.heap.size) : Calls Try.prog 13 #[.slice A 108 c] W fun e w' => e = .returned (.int .i64 0) ∧ Below W.heap.size W w' :=
  Check_any liv_len hs hc hA liv_good.1 liv_good.2
end
theorem liv_tag1 (W : World) : Calls Try.prog 17 #[.string ⟨#[103, 108, 121, 102]⟩] W fun e w' => e = .returned (.bool true) ∧ Below W.heap.size W w' := isTag_any [103, 108, 121, 102] (by simp) W
theorem liv_tag2 (W : World) : Calls Try.prog 17 #[.string ⟨#[97, 98, 99]⟩] W fun e w' => e = .returned (.bool false) ∧ Below W.heap.size W w' := isTag_any [97, 98, 99] (by simp) W
theorem sum5 : sumS [0, 0, 1, 0, 2] = 33554688 := by decide +kernel
theorem liv_sum (W : World) : Calls Try.prog 15 #[.slice (some ⟨W.heap.size, 0, none⟩) 5 5] (W.alloc (.cells #[.int .u8 0, .int .u8 0, .int .u8 1, .int .u8 0, .int .u8 2] 5)) fun e w' => e = .returned (.int .i64 33554688) ∧ Below W.heap.size W w' := by
  have hs : SlAt (W.alloc (.cells #[.int .u8 0, .int .u8 0, .int .u8 1, .int .u8 0, .int .u8 2] 5)) (some ⟨W.heap.size, 0, none⟩) 5 (([0, 0, 1, 0, 2] : List UInt8).map byteV) :=
    slat_blk (n := 5) (Blk.new W 5 (([0, 0, 1, 0, 2] : List UInt8).map byteV)) (by simp)
  have := Sum_any (bs := [0, 0, 1, 0, 2]) (c := 5) hs rfl (by omega) (by omega)
  rw [sum5] at this
  exact this.mono fun e w' ⟨he, hb⟩ => ⟨he, (bel_alloc bel_refl).below.trans (hb.mono (by simp))⟩
set_option maxRecDepth 20000 in
set_option maxHeartbeats 4000000 in
theorem lives_any (w : World) : Calls Try.prog 9 #[] w fun e w' => e = .returned (.bool true) ∧ Below w.heap.size w w' := by
  have hmk : ∀ W : World, (Instr.makeSlice 25 (.int .i64 54) (.int .i64 54)).run Try.prog W = .ok (.slice (some ⟨W.heap.size, 0, none⟩) 54 54) (W.alloc (.cells (Array.replicate 54 (byteV 0)) 5)) := fun W => make_zeros 54 (by omega) W
  have hk1 := Lib.run_convert_bytes_const (P := Try.prog) (w.alloc (.cells (Array.replicate 54 (byteV 0)) 5)) 25 5 #[.int .u8 49, .int .u8 50, .int .u8 51, .int .u8 52, .int .u8 53] 5 5 Try.underlying25 Try.underlying5
  rw [World.size_alloc] at hk1
  obtain ⟨W3, hW3⟩ : ∃ W3, ((w.alloc (.cells (Array.replicate 54 (byteV 0)) 5)).alloc (.cells #[.int .u8 49, .int .u8 50, .int .u8 51, .int .u8 52, .int .u8 53] 5 (5, 6))).alloc (.cells #[.string (strB headT), .slice (some ⟨w.heap.size, 0, none⟩) 54 54, .string (strB tag2), .slice (some ⟨w.heap.size + 1, 0, none⟩) 5 5] 36) = W3 := ⟨_, rfl⟩
  have hB3 : Below w.heap.size w W3 := by rw [← hW3]; exact (bel_alloc (bel_alloc (bel_alloc bel_refl))).below
  have hbl := liv_mem w
  rw [hW3] at hbl
  have HBD : Hid (Calls Try.prog 10 #[.int .i64 65536, .slice (some ⟨w.heap.size + 1 + 1, 0, none⟩) 2 2] W3 fun e w' => ∃ A c, e = .returned (.tuple #[.slice A 108 c, .int .i64 0]) ∧ SlAt w' A 108 (livN.map byteV) ∧ 108 ≤ c ∧ (∀ k, rowOf A = some k → k < w'.heap.size) ∧ Below w.heap.size w w') := Lib.hid (by
    have := Build_any (c := 2) 65536 hbl (by omega)
    rw [show chkS 65536 ([(⟨headT, some ⟨w.heap.size, 0, none⟩, 54, z54⟩ : Bm), ⟨tag2, some ⟨w.heap.size + 1, 0, none⟩, 5, dat2⟩].map bmS) = 0 from liv_chk] at this
    refine this.mono fun e w' ⟨A', c', he, hb, hr, hbe⟩ => ?_
    have hll : (buildS 65536 ([(⟨headT, some ⟨w.heap.size, 0, none⟩, 54, z54⟩ : Bm), ⟨tag2, some ⟨w.heap.size + 1, 0, none⟩, 5, dat2⟩].map bmS)).length = 108 := liv_len
    have hsl := hb.sl
    have hcap := hb.cap
    rw [hll] at he hsl hcap
    refine ⟨A', c', he, hsl, hcap, fun k hk => ?_, hB3.trans (hbe.mono hB3.size)⟩
    obtain ⟨b, o, hA, hlt, _⟩ := hsl.2 0 (by omega)
    rw [hA] at hk
    injection hk with hk
    subst hk
    exact hlt)
  have HW3 := Lib.hid hW3
  clear hW3 hB3 hbl
  go_enter Try.func9, Try.ntmps9
  go_wp2_with (first
    | (go_at_call 10; (refine Calls.mono (show Calls _ _ _ (World.alloc _ _) _ from HW3.out ▸ HBD.out) ?_); rintro e w1 ⟨A, c, rfl, hs, hc, hA, hb⟩; have HS := Lib.hid hs; have HB := Lib.hid hb; clear hs hb)
    | (go_at_call 12; (with_reducible refine (liv_parse HS.out hc hA).mono ?_); rintro e w2 ⟨g, c2, rfl, ht, hg, hb⟩; have HT := Lib.hid ht; have HB2 := Lib.hid (hb.mono HB.out.size); have HBA := Lib.hid (HB.out.trans (hb.mono HB.out.size)); have HS2 := Lib.hid (HS.out.keep hb); have hA2 : ∀ k, rowOf A = some k → k < w2.heap.size := (fun k hk => Nat.lt_of_lt_of_le (hA k hk) hb.size); clear ht hb)
    | (go_at_call 14; (with_reducible refine (liv_find HS2.out hc hA2).mono ?_); rintro e w3 ⟨A3, c3, rfl, hs3, hb⟩; have HD3 := Lib.hid hs3; have HBB := Lib.hid (HBA.out.trans (hb.mono HBA.out.size)); have HS3 := Lib.hid (HS2.out.keep hb); have HT3 := Lib.hid (HT.out.keep hg hb); have hA3 : ∀ k, rowOf A = some k → k < w3.heap.size := (fun k hk => Nat.lt_of_lt_of_le (hA2 k hk) hb.size); have hg3 := Nat.lt_of_lt_of_le hg hb.size; clear hs3 hb)
    | (go_at_call 14; (with_reducible refine (liv_miss HS3.out hc hA3).mono ?_); rintro e w4 ⟨rfl, hb⟩; have HD4 := Lib.hid (HD3.out.keep hb); have HBC := Lib.hid (HBB.out.trans (hb.mono HBB.out.size)); have HS4 := Lib.hid (HS3.out.keep hb); have HT4 := Lib.hid (HT3.out.keep hg3 hb); have hA4 : ∀ k, rowOf A = some k → k < w4.heap.size := (fun k hk => Nat.lt_of_lt_of_le (hA3 k hk) hb.size); have hg4 := Nat.lt_of_lt_of_le hg3 hb.size; obtain ⟨ly, ly1, ly2⟩ := liv_snd; obtain ⟨y0, -, -, -⟩ := HT4.out.four ly1; rw [ly2] at y0; have q3 : ∀ c, (convert 25 9 (.slice A3 5 c)).run Try.prog w4 = .ok (.string ⟨#[49, 50, 51, 52, 53]⟩) w4 := (fun c => run_str (P := Try.prog) HD4.out Try.underlying25 Try.underlying5 Try.underlying9 c); clear hb ly1 ly2)
    | (go_at_call 13; (with_reducible refine (liv_check HS4.out hc hA4).mono ?_); rintro e w5 ⟨rfl, hb⟩; have HBE := Lib.hid (HBC.out.trans (hb.mono HBC.out.size)); clear hb)
    | (go_at_call 15; (with_reducible refine (liv_sum _).mono ?_); rintro e w6 ⟨rfl, hb⟩; have HBF := Lib.hid (HBE.out.trans (hb.mono HBE.out.size)); clear hb)
    | (go_at_call 17; (with_reducible refine (liv_tag1 _).mono ?_); rintro e w7 ⟨rfl, hb⟩; have HBG := Lib.hid (HBF.out.trans (hb.mono HBF.out.size)); clear hb)
    | (go_at_call 17; (with_reducible refine (liv_tag2 _).mono ?_); rintro e w8 ⟨rfl, hb⟩; have HBH := Lib.hid (HBG.out.trans (hb.mono HBG.out.size)); clear hb)
    | fail)
  go_ret
  exact ⟨rfl, HBH.out⟩
end Go.Proofs.Ytejombofjakllaa

namespace Go.Proofs.Ytejombofjakllaa
open Go.RowKit Go.Shelf

def lgF (l : List Bl) (k : Nat) : Bool := (l.take k).any fun t => decide (2097152 < t.2.length)
def lgN (l : List Bl) (k : Nat) : Nat := ((l.take k).map fun t => t.2.length).sum
def lgM (n : Nat) : Nat := if n ≤ 100 then n else 100
/-- Are blobs too large to be looked at? -/
def largeB (l : List Bl) : Bool := lgF l (lgM l.length) || (decide (100 < l.length) || decide (4194304 < lgN l (lgM l.length)))
theorem lgF_next {l : List Bl} {k : Nat} {t : Bl} (h : l[k]? = some t) : lgF l (k + 1) = (lgF l k || decide (2097152 < t.2.length)) := by
  unfold lgF
  rw [take_snoc' h, List.any_append]
  simp
theorem lgN_next {l : List Bl} {k : Nat} {t : Bl} (h : l[k]? = some t) : lgN l (k + 1) = lgN l k + t.2.length := by
  unfold lgN
  rw [take_snoc' h, List.map_append, List.sum_append]
  simp
theorem lgF_more {l : List Bl} {k j : Nat} (h : lgF l k = true) (hj : k ≤ j) : lgF l j = true := by
  unfold lgF at h ⊢
  rw [List.any_eq_true] at h ⊢
  obtain ⟨x, hx, h2⟩ := h
  refine ⟨x, ?_, h2⟩
  rw [show l.take k = (l.take j).take k by rw [List.take_take, Nat.min_eq_left hj]] at hx
  exact List.mem_of_mem_take hx
theorem lgF_zero (l : List Bl) : lgF l 0 = false := by unfold lgF; simp
theorem lgN_zero (l : List Bl) : lgN l 0 = 0 := by unfold lgN; simp
def LaR (n : Nat) (k s : Int) : Prop := 0 ≤ k ∧ k ≤ n ∧ k ≤ 100 ∧ 0 ≤ s ∧ s ≤ 2097152 * k
set_option maxRecDepth 20000 in
set_option maxHeartbeats 2000000 in
theorem large_any {w : World} {A : Option Addr} {n c : Nat} {es : List Bm} (h : BlL w A n es) :
    Calls Try.prog 8 #[.slice A n c] w fun e w' => e = .returned (.bool (largeB (es.map bmS))) ∧ w = w' := by
  have hl := h.len
  obtain ⟨l, hll⟩ : ∃ l, es.map bmS = l := ⟨_, rfl⟩
  have hln : l.length = n := by rw [← hll, List.length_map]; exact hl
  have H := Lib.hid h
  have HLL := Lib.hid hll
  have HLN := Lib.hid hln
  have HSL := Lib.hid hl
  rw [hll]
  clear h hll hln hl
  go_enter Try.func8, Try.ntmps8
  go_wp2_with fail
  go_loop [3, 4] (fun e i => ∃ k : Nat, k ≤ n ∧ k ≤ 100 ∧ i = .int .i64 k ∧ e = .int .i64 (lgN l k : Nat) ∧ lgN l k ≤ 2097152 * k ∧ Hid (lgF l k = false)) (fun _ i => n - (intOf i).toNat)
  case atStart => exact ⟨0, Nat.zero_le _, by omega, rfl, by rw [lgN_zero]; rfl, by rw [lgN_zero]; omega, Lib.hid (lgF_zero l)⟩
  case round =>
    obtain ⟨k, hk, hk2, rfl, rfl, hs, HF⟩ := hrel
    obtain ⟨s, hse⟩ : ∃ s, lgN l k = s := ⟨_, rfl⟩
    have HSE := Lib.hid hse
    rw [hse] at hs ⊢
    clear hse
    by_cases hlt : k < n ∧ k < 100
    · obtain ⟨hlt, hk3⟩ := hlt
      have d1 : decide ((k : Int) < n) = true := by simp; omega
      have d2 : decide ((k : Int) < 100) = true := by simp; omega
      obtain ⟨⟨vt, vA, vc, vd⟩, hv⟩ := get_some' (l := es) (k := k) (by rw [HSL.out]; exact hlt)
      obtain ⟨b, o, rfl, hb, hc0, hc1⟩ := H.out.at_ hv
      have hlk : l[k]? = some (vt, vd) := by rw [← HLL.out, List.getElem?_map, hv]; rfl
      obtain ⟨m, hm⟩ : ∃ m, vd.length = m := ⟨_, rfl⟩
      have hF := lgF_next hlk
      have hN := lgN_next hlk
      dsimp only at hc0 hc1 hF hN
      rw [hm] at hc1 hF hN
      rw [HSE.out] at hN
      rw [HF.out, Bool.false_or] at hF
      have HF1 := Lib.hid hF
      have HN1 := Lib.hid hN
      clear hF hN hlk hv hm HSE
      by_cases hbig : 2097152 < m
      · have d3 : decide ((2097152 : Int) < m) = true := by simp; omega
        go_wp2_with fail
        go_ret
        refine ⟨?_, rfl⟩
        have h1 : lgF l (lgM l.length) = true := lgF_more (k := k + 1) (by rw [HF1.out]; simp; omega) (by rw [HLN.out]; unfold lgM; split <;> omega)
        unfold largeB
        rw [h1]
        rfl
      · have d3 : decide ((2097152 : Int) < m) = false := by simp; omega
        have w1 : wrap64 ((s : Int) + m) = (s : Int) + m := by unfold wrap64; omega
        go_wp2_with fail
        refine ⟨⟨k + 1, by omega, by omega, by go_num, by rw [HN1.out]; go_num, by rw [HN1.out]; omega, Lib.hid (by rw [HF1.out]; simp; omega)⟩, by simp [intOf]; omega⟩
    · have hM : lgM l.length = k := by rw [HLN.out]; unfold lgM; split <;> omega
      have hL : largeB l = (decide (100 < n) || decide (4194304 < s)) := by unfold largeB; rw [hM, HF.out, HLN.out, HSE.out]; rfl
      have HL := Lib.hid hL
      have hh : decide ((k : Int) < n) = false ∨ (decide ((k : Int) < n) = true ∧ decide ((k : Int) < 100) = false) := by simp; omega
      clear hM hL HSE HF hlt
      rcases hh with d1 | ⟨d1, d2⟩
      · obtain rfl : k = n := by simp at d1; omega
        have d5 : decide ((100 : Int) < k) = false := by simp; omega
        have D4 : Hid (decide (100 < k) = false) := Lib.hid (by simp; omega)
        clear d1
        go_wp2_with fail
        all_goals
          go_ret
          refine ⟨?_, rfl⟩
          rw [HL.out, D4.out]
          simp
          omega
      · have d5 : (100 : Int) < n := by simp at d1 d2; omega
        have D4 : Hid (decide (100 < n) = true) := Lib.hid (by simp at d1 d2 ⊢; omega)
        obtain rfl : k = 100 := by simp at d2; omega
        clear d1 d2
        go_wp2_with fail
        all_goals
          go_ret
          refine ⟨?_, rfl⟩
          rw [HL.out, D4.out]
          rfl
/-- What Find says of a font's head. -/
def HdP (N : List UInt8) (w : World) (e : Ending) (w' : World) : Prop := ∃ A' m c' x, e = .returned (.tuple #[.slice A' m c', .int .i64 x]) ∧ (x = 0 → 12 ≤ m → sumS N = 2981146554) ∧ Below w.heap.size w w'
theorem hd_of {v : Int} {l : List Bl} (h0 : chkS v l = 0) {i : Nat} {x : Tm} (hx : (tbS (12 + 16 * l.length) (srtT l))[i]? = some x) (ht : x.t = headT) (hz : 12 ≤ x.z) : sumS (buildS v l) = 2981146554 := by
  obtain ⟨h1, h2, h3, h4, h5, h6⟩ := chk_ok h0
  have hp := srtT_perm l
  have hb : buildS v l = layS v (srtT l) := by unfold buildS; rw [if_pos h0]
  obtain ⟨a, t, b, hS, ha, hxe⟩ := tbS_at hx
  rw [hxe] at ht hz
  dsimp only at ht hz
  rw [hb]
  cases hh : hdA (12 + 16 * (srtT l).length) (srtT l) with
  | some h => exact sum_lay (fun t ht => tag_len (h4 t (hp.mem_iff.1 ht))) hh
  | none =>
    exact absurd ⟨ht, by omega⟩ (hdA_none hh t (by rw [hS]; simp))
theorem find_head {W : World} {A : Option Addr} {n c : Nat} {v : Int} {l : List Bl} (h0 : chkS v l = 0) (hn : (buildS v l).length = n) (hs : SlAt W A n ((buildS v l).map byteV)) (hc : n ≤ c) (hA : ∀ k, rowOf A = some k → k < W.heap.size) :
    Calls Try.prog 14 #[.slice A n c, .string ⟨#[104, 101, 97, 100]⟩] W (HdP (buildS v l) W) := by
  have hg := (good_build h0).1
  by_cases hh : ∃ x ∈ tbS (12 + 16 * l.length) (srtT l), x.t = headT
  · obtain ⟨x, hx, ht⟩ := hh
    obtain ⟨i, hi, hxi⟩ := List.mem_iff_getElem.1 hx
    have hx' := List.getElem?_eq_some_iff.2 ⟨hi, hxi⟩
    have := Find_any hn hs hc hA hg hx' ht
    refine this.mono fun e w' ⟨A', c', he, _, _, _, hb⟩ => ⟨A', _, c', 0, he, fun _ hz => ?_, hb⟩
    rw [dataT_len hg hx] at hz
    exact hd_of h0 hx' ht (by omega)
  · have := Find_none hn hs hc hA hg (tag := headT) (fun x hx e => hh ⟨x, hx, e⟩)
    exact this.mono fun e w' ⟨he, hb⟩ => ⟨none, 0, 0, 41, he, fun h => (by cases h), hb⟩
end Go.Proofs.Ytejombofjakllaa

namespace Go.Proofs.Ytejombofjakllaa
open Go.ChangeShapes Go.WideShapes Go.ChangeAt Go.RowKit
section
variable {H : Type} {P : Program} {enc : TypeId × Value → H} {w : World} {base : Nat} {spare : Nat → Bool} {held : Bool}
theorem open_str {r : Reach} {b0 : Nat} {t : TypeId} {v : Value} {d : DataW H} {p : List MemPlace} (ht : P.underlying t = some .string)
    (h : DataW.Trod enc P w base spare held t v d p) (hv : Value.okWide P w r b0 t v) (hwt : ∀ n ∈ d.weights P t, n ≤ reachBytes) : ∃ bs : List UInt8, v = .string (strB bs) ∧ bs.length ≤ 140737488351232 := by
  obtain ⟨s0, rfl⟩ := okWide_string ht hv
  obtain ⟨fuel, hf⟩ := h
  have h9 := flat_ok 8 t [.str] (by unfold flat; rw [ht]) _ _ _ hf hwt
  simp only [CellsOk, CellOk, and_true] at h9
  obtain ⟨v', h1, s, rfl, h2⟩ := h9
  simp [Value.cells] at h1
  subst h1
  exact ⟨s0.data.toList, by simp [strB], by rw [show s0.data.toList.length = s0.size from Array.length_toList]; exact h2⟩
end
theorem blobs_of {w : World} {A : Option Addr} {n : Nat} (h : ∀ i, i < n → ∃ b o, A = some ⟨b, o, none⟩ ∧ b < w.heap.size ∧ CellsOk w [.str, .sl 1 [.int .u8]] (fun j => w.cell? ⟨b, o + (i * [CK.str, .sl 1 [.int .u8]].length + j), none⟩)) :
    ∃ es : List Bm, BlL w A n es := by
  have key : ∀ i, i < n → ∃ v : Bm, (SlAt w v.A v.d.length (v.d.map byteV) ∧ v.d.length ≤ v.c ∧ v.d.length ≤ 140737488355328 ∧ v.t.length ≤ 140737488355328) ∧ ∃ (b : Nat) (o : Nat), A = some ⟨b, o, none⟩ ∧ b < w.heap.size ∧ w.cell? ⟨b, o + i * 2, none⟩ = some (.string (strB v.t)) ∧ w.cell? ⟨b, o + i * 2 + 1, none⟩ = some (.slice v.A v.d.length v.c) := by
    intro i hi
    obtain ⟨b, o, hA, hb, hc⟩ := h i hi
    simp only [CellsOk, and_true] at hc
    obtain ⟨⟨v, hv, hk⟩, v2, hv2, hk2⟩ := hc
    simp only [CellOk] at hk
    obtain ⟨s, rfl, hs⟩ := hk
    obtain ⟨A2, bs, c2, rfl, h1, h2, h3, h4, h5⟩ := bytes_of hk2
    refine ⟨⟨s.data.toList, A2, c2, bs⟩, ⟨h1, h2, by dsimp only; omega, ?_⟩, b, o, hA, hb, ?_, hv2⟩
    · dsimp only
      rw [show s.data.toList.length = s.size from Array.length_toList]
      omega
    · rw [show strB s.data.toList = s by simp [strB]]
      exact hv
  obtain ⟨es, hl, hp⟩ := list_of n key
  refine ⟨es, ⟨?_, fun v hv => ?_, fun v hv => ?_, fun v hv => ?_⟩⟩
  · refine ⟨by simp [hl], fun i r hr => ?_⟩
    rw [List.getElem?_map] at hr
    obtain ⟨v, hv, rfl⟩ := Option.map_eq_some_iff.1 hr
    obtain ⟨-, b, o, hA, hb, h0, h1⟩ := hp i v hv
    refine ⟨rfl, b, o, hA, hb, fun j u hu => ?_⟩
    match j, hu with
    | 0, hu => simp only [bmC, List.getElem?_cons_zero, Option.some.injEq] at hu; subst hu; exact h0
    | 1, hu => simp only [bmC, List.getElem?_cons_succ, List.getElem?_cons_zero, Option.some.injEq] at hu; subst hu; exact h1
    | k + 2, hu => simp [bmC] at hu
  · obtain ⟨k, hk⟩ := List.getElem?_of_mem hv
    exact (hp k v hk).1.1
  · obtain ⟨k, hk⟩ := List.getElem?_of_mem hv
    exact (hp k v hk).1.2.1
  · obtain ⟨k, hk⟩ := List.getElem?_of_mem hv
    exact ⟨(hp k v hk).1.2.2.1, (hp k v hk).1.2.2.2⟩
end Go.Proofs.Ytejombofjakllaa
