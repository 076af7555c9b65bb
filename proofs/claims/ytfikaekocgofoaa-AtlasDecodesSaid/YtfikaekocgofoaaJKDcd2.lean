import Derived.Test.YtfikaekocgofoaaJKDcd1
import Derived.Test.YtfikaekocgofoaaJPAllx1
import Derived.Test.YtfikaekocgofoaaJPAllx2
import Derived.Test.YtfikaekocgofoaaJPAllx3
import Derived.Test.YtfikaekocgofoaaJPAllx4
import Derived.Test.YtfikaekocgofoaaJKAppD
import Derived.Test.YtfikaekocgofoaaJWLast
import Derived.Test.YtfikaekocgofoaaJWMore
import Derived.Test.YtfikaekocgofoaaJKAppC
import Derived.Lib.BitFns
import Derived.Lib.ItoaNum
import Derived.Test.YtfikaekocgofoaaProg
import Derived.WalkKit
import Derived.WalkSpells
import Derived.Lib.Hide
import Derived.Laws.BitsLemmas
import Derived.Laws.Bits64
import Derived.Laws.BitsAllLaws
import Derived.WalkLawsBesides
import Derived.Deep.DeepMust
import Derived.Great.Walk
import Derived.StillTail
import Derived.Lib.QuietBelow
import Derived.BigQuiet
import Derived.Maps.RangeWalk
import Derived.Outline
import Derived.Lib.SliceRun
import Derived.Lib.LazyBuf
import Derived.Laws.EntriesVeiled
import Derived.Laws.CopyRow
import Derived.Laws.CopyOwn
import Derived.Laws.OwnMore
import Derived.Deep.RegionWith
import Derived.Maps.Views
import Derived.Lib.BufferWrite
import Derived.Test.YtfikaekocgofoaaJWWords
import Derived.MapKept
/- Merged texts, one behind the other: Atl0, Puo, Stb, Mlt. -/
namespace Go.Proofs.Ytfikaekocgofoaa.KW
open Go.RowKit Go.Proofs.YtfikaekocgofoaaW.PrintWords Opns
structure Wd where
  id : Int
  wt : Int
  deriving DecidableEq, Inhabited
end Go.Proofs.Ytfikaekocgofoaa.KW
namespace Go.Proofs.Ytfikaekocgofoaa.MixP
def sq (y : Nat) : Nat := y * y / 2147483648
def stp (y : Nat) : Nat := if 4294967296 ≤ sq y then sq y / 2 else sq y
def bitv (y : Nat) : Nat := if 4294967296 ≤ sq y then 1 else 0
def run : Nat → Nat → Nat → Nat
  | 0, _, o => o
  | k + 1, y, o => run k (stp y) (2 * o + bitv y)
def exp2 (u : Nat) : Nat := Lib.bitLen u - 1
def norm (u : Nat) : Nat := u * 2 ^ (31 - exp2 u)
def logn (u : Nat) : Nat := run 24 (norm u) (exp2 u)
def mix (x : Nat) : Nat :=
  let a := x ^^^ (x / 65536)
  let b := a * 2146121005 % 4294967296
  let c := b ^^^ (b / 32768)
  let d := c * 2221713035 % 4294967296
  d ^^^ (d / 65536)
end Go.Proofs.Ytfikaekocgofoaa.MixP
namespace Go.Proofs.Ytfikaekocgofoaa.MixW
open Go.RowKit MixP
def mixI (x : Int) : Int := (mix x.toNat : Nat)
def h2I (a b : Int) : Int := mixI (Go.bits .xor .u32 (mixI ((a + 2654435761) % 4294967296)) b)
def h3I (a b c : Int) : Int := mixI (Go.bits .xor .u32 (h2I a b) ((c + 2246822519) % 4294967296))
end Go.Proofs.Ytfikaekocgofoaa.MixW
namespace Go.Proofs.Ytfikaekocgofoaa.StrP
open Go.RowKit KW MixP MixW
def lot (x id r : Int) : Nat := (h3I x (id % 4294967296) r % 65536).toNat + 1
def numer (x id r : Int) : Int := (268435456 - (logn (lot x id r) : Nat)) * 65536
def drB (w : Wd) : Bool := decide (1 ≤ w.wt) && decide (w.wt ≤ 1073741824)
def drV (x r : Int) (w : Wd) : Int := if drB w = true then numer x w.id r / w.wt else 0
def sstep (x r : Int) (i : Int) (w : Wd) (st : Int × Int) : Int × Int := if (drB w && (decide (st.1 < 0) || decide (drV x r w < st.2))) = true then (i, drV x r w) else st
def chs (x r : Int) : List Wd → Int → Int × Int → Int × Int
  | [], _, st => st
  | w :: l, i, st => chs x r l (i + 1) (sstep x r i w st)
def pick (x r : Int) (l : List Wd) : Int := (chs x r l 0 (-1, 0)).1
def weight (w : Wd) : Int := if drB w = true then w.wt else 0
end Go.Proofs.Ytfikaekocgofoaa.StrP
namespace Go.Proofs.Ytfikaekocgofoaa.StrW
open Go.RowKit Go.Proofs.YtfikaekocgofoaaW.PrintWords KW MixP MixW StrP
end Go.Proofs.Ytfikaekocgofoaa.StrW
namespace Go.Proofs.Ytfikaekocgofoaa.CrP
open Go.RowKit Go.Proofs.YtfikaekocgofoaaW.PrintWords KW MixP MixW StrP PAll
abbrev Od := S37
def keyN (lv : Nat) (o : Od) : Int := if lv = 1 then o.f7 else if lv = 2 then o.f6 else o.f0
def wOf (o : Od) : Int := if o.f2 = true then o.f3 else 0
def ins (k w : Int) : List Wd → List Wd
  | [] => [⟨k, w⟩]
  | u :: r => if k < u.id then ⟨k, w⟩ :: u :: r else if u.id = k then ⟨u.id, u.wt + w⟩ :: r else u :: ins k w r
def groupF (lv : Nat) (g : List Wd) (l : List Od) : List Wd := l.foldl (fun g o => ins (keyN lv o) (wOf o) g) g
def group (lv : Nat) (l : List Od) : List Wd := groupF lv [] l
def getW (g : List Wd) (k : Int) : Option Int := (g.find? fun u => u.id == k).map (·.wt)
/-- One step down. -/
def lvl (x r : Int) (lv : Nat) (l : List Od) : Option (List Od) :=
  if pick (h2I x lv) r (group lv l) < 0 then none else some (l.filter fun o => decide (keyN lv o = ((group lv l).getD (pick (h2I x lv) r (group lv l)).toNat ⟨0, 0⟩).id))
def desc (x r : Int) (l : List Od) : Option Od := (((lvl x r 1 l).bind (lvl x r 2)).bind (lvl x r 3)).bind List.head?
def tries (l : List Od) (x want place : Int) (lv : Nat) (taken : List Int) : Nat → Nat → Option Od
  | 0, _ => none
  | m + 1, t => match desc x (place + t * want) l with
    | some o => if keyN lv o ∈ taken then tries l x want place lv taken m (t + 1) else some o
    | none => tries l x want place lv taken m (t + 1)
def places (l : List Od) (x want : Int) (lv : Nat) : Nat → Nat → List Int → List Int
  | 0, _, _ => []
  | m + 1, p, taken => match tries l x want p lv taken 50 0 with
    | some o => o.f0 :: places l x want lv m (p + 1) (keyN lv o :: taken)
    | none => -1 :: places l x want lv m (p + 1) taken
end Go.Proofs.Ytfikaekocgofoaa.CrP
namespace Go.Proofs.Ytfikaekocgofoaa.Srt
open Go Go.Sort Go.Shelf Go.RowKit Go.Proofs.YtfikaekocgofoaaW.PrintWords KW MixP MixW StrP CrP
end Go.Proofs.Ytfikaekocgofoaa.Srt
namespace Go.Proofs.Ytfikaekocgofoaa.QT
open Go Go.Sort Go.RowKit
section
variable {P : Program} {ops : Array Oper} {md : Region.Mode} {C : World → Prop}
end
end Go.Proofs.Ytfikaekocgofoaa.QT
namespace Go.Proofs.Ytfikaekocgofoaa.Grp
open Go Go.RowKit Go.Proofs.YtfikaekocgofoaaW.PrintWords Go.Proofs.YtfikaekocgofoaaW.PrintMore Mem PAll KW MixP MixW StrP AtA Srt
open CrP hiding Od
open Go.Maps (Keyed int_keyed keyOf_int_mk)
/-- What has been ranged over: out, of the map that reads as g; left is still to come. -/
structure Out (g : List Wd) (left : Lit → Bool) (out : List Wd) : Prop where
  mem : ∀ v ∈ out, getW g v.id = some v.wt ∧ left (.int .i64 v.id) = false
  all : ∀ k c, getW g k = some c → left (.int .i64 k) = true ∨ ∃ v ∈ out, v.id = k
  ap : ∀ i j : Nat, i < j → ∀ a b : Wd, out[i]? = some a → out[j]? = some b → a.id ≠ b.id
  has : ∀ k, left (.int .i64 k) = true → (getW g k).isSome = true
theorem Out.more {g : List Wd} {left : Lit → Bool} {out : List Wd} {x c : Int} (h : Out g left out) (hl : left (.int .i64 x) = true) (hc : getW g x = some c) : Out g (fun z => left z && !z.sameKey (.int .i64 x)) (out ++ [⟨x, c⟩]) := by
  have hn : ∀ v ∈ out, v.id ≠ x := fun v hv e => by have := (h.mem v hv).2; rw [e, hl] at this; cases this
  have hk : ∀ k : Int, (Lit.int .i64 k).sameKey (.int .i64 x) = decide (k = x) := fun k => by simp [Lit.sameKey]
  refine ⟨fun v hv => ?_, fun k d hd => ?_, fun i j hij a b ha hb => ?_, fun k hk2 => ?_⟩
  · rcases List.mem_append.1 hv with hv | hv
    · have := h.mem v hv
      exact ⟨this.1, by rw [this.2]; rfl⟩
    · obtain rfl := List.mem_singleton.1 hv
      exact ⟨hc, by rw [hk]; simp⟩
  · by_cases e : k = x
    · exact .inr ⟨⟨x, c⟩, by simp, e.symm⟩
    · rcases h.all k d hd with h1 | ⟨v, hv, e2⟩
      · exact .inl (by rw [h1, hk]; simp [e])
      · exact .inr ⟨v, List.mem_append_left _ hv, e2⟩
  · have hjl := (List.getElem?_eq_some_iff.1 hb).1
    simp only [List.length_append, List.length_singleton] at hjl
    rcases Nat.lt_or_ge j out.length with hj | hj
    · rw [List.getElem?_append_left hj] at hb
      rw [List.getElem?_append_left (by omega)] at ha
      exact h.ap i j hij a b ha hb
    · have : j = out.length := by omega
      subst this
      rw [List.getElem?_append_left hij] at ha
      have hb' : b = ⟨x, c⟩ := by simpa using hb.symm
      subst hb'
      exact hn a (List.mem_of_getElem? ha)
  · simp only [Bool.and_eq_true] at hk2
    exact h.has k hk2.1
/-- What a list of OSDs is good for. -/
structure GoodL (l : List Od) : Prop where
  len : l.length ≤ 64
  wt : ∀ o ∈ l, 0 ≤ wOf o ∧ wOf o ≤ 16777216
  wf : ∀ o ∈ l, ∀ lv, (Lit.int .i64 (keyN lv o)).wf = true
theorem GoodL.filter {l : List Od} (h : GoodL l) (p : Od → Bool) : GoodL (l.filter p) :=
  ⟨Nat.le_trans (List.length_filter_le _ _) h.len, fun o ho => h.wt o (List.mem_filter.1 ho).1, fun o ho => h.wf o (List.mem_filter.1 ho).1⟩
end Go.Proofs.Ytfikaekocgofoaa.Grp
namespace Go.Proofs.Ytfikaekocgofoaa.Sl
open Go Go.RowKit Go.Proofs.YtfikaekocgofoaaW.PrintWords Go.Proofs.YtfikaekocgofoaaW.PrintMore Mem PAll KW MixP MixW StrP AtA Srt Grp
open CrP hiding Od
theorem infoO : (Try.prog.info? 37).map (fun i => (i.zero, i.size, i.bytes)) = some (some (.agg #[.int .i64 0, .bool false, .bool false, .int .i64 0, .int .i64 0, .int .i64 0, .int .i64 0, .int .i64 0]), kO.sz, 56) := by kernel_rfl
def FirstOf (del : Od → Bool) (l : List Od) (r : Int) : Prop := (r = -1 ∧ ∀ o ∈ l, del o = false) ∨ ∃ i : Nat, r = i ∧ i < l.length ∧ (∀ o ∈ l.take i, del o = false) ∧ ∃ o, l[i]? = some o ∧ del o = true
/-- While they go: the first k are kept, those from j on are as they were. -/
structure Mid (del : Od → Bool) (l xs : List Od) (k j : Nat) : Prop where
  len : xs.length = l.length
  kj : k < j
  jn : j ≤ l.length
  kept : xs.take k = (l.take j).filter fun o => !del o
  rest : xs.drop j = l.drop j
theorem Mid.at {del : Od → Bool} {l xs : List Od} {k j : Nat} (h : Mid del l xs k j) : xs[j]? = l[j]? := by
  have e := h.rest
  have e2 : (xs.drop j)[0]? = (l.drop j)[0]? := by rw [e]
  simpa [List.getElem?_drop] using e2
end Go.Proofs.Ytfikaekocgofoaa.Sl
namespace Go.Proofs.Ytfikaekocgofoaa.Dsc
open Go Go.RowKit Go.Proofs.YtfikaekocgofoaaW.PrintWords Go.Proofs.YtfikaekocgofoaaW.PrintMore Mem PAll KW MixP MixW StrP StrW AtA Srt Grp Sl
open CrP hiding Od
theorem cell_alloc {W : World} {a : Addr} {v : Value} (h : W.cell? a = some v) (o : Obj) : (W.alloc o).cell? a = some v := Lib.cell?_alloc_some o h
def put8 (w : World) (g : Nat) (o : Od) : World := (((((((w.setCell ⟨g, 0, none⟩ (.int .i64 o.f0)).setCell ⟨g, 1, none⟩ (.bool o.f1)).setCell ⟨g, 2, none⟩ (.bool o.f2)).setCell ⟨g, 3, none⟩ (.int .i64 o.f3)).setCell ⟨g, 4, none⟩ (.int .i64 o.f4)).setCell ⟨g, 5, none⟩ (.int .i64 o.f5)).setCell ⟨g, 6, none⟩ (.int .i64 o.f6)).setCell ⟨g, 7, none⟩ (.int .i64 o.f7)
theorem put8_arr (q o : Od) : ((((((((aggO q).setIfInBounds 0 (.int .i64 o.f0)).setIfInBounds 1 (.bool o.f1)).setIfInBounds 2 (.bool o.f2)).setIfInBounds 3 (.int .i64 o.f3)).setIfInBounds 4 (.int .i64 o.f4)).setIfInBounds 5 (.int .i64 o.f5)).setIfInBounds 6 (.int .i64 o.f6)).setIfInBounds 7 (.int .i64 o.f7) = aggO o := by
  simp [aggO]
theorem put8_blk {w : World} {g : Nat} {q : Od} (h : w.heap[g]? = some (.cells (aggO q) 37 (0, 0))) (o : Od) : (put8 w g o).heap[g]? = some (.cells (aggO o) 37 (0, 0)) := by
  rw [← put8_arr q o]
  exact blk_set (blk_set (blk_set (blk_set (blk_set (blk_set (blk_set (blk_set h 0 _) 1 _) 2 _) 3 _) 4 _) 5 _) 6 _) 7 _
theorem put8_below {B g : Nat} {w0 w : World} (h : Below B w0 w) (hg : B ≤ g) (o : Od) : Below B w0 (put8 w g o) :=
  (((((((h.setCell hg _).setCell hg _).setCell hg _).setCell hg _).setCell hg _).setCell hg _).setCell hg _).setCell hg _
def zeroA : Array Value := #[.int .i64 0, .bool false, .bool false, .int .i64 0, .int .i64 0, .int .i64 0, .int .i64 0, .int .i64 0]
def descV : Option Od → Value
  | some o => .tuple #[.agg (aggO o), .bool true]
  | none => .tuple #[.agg zeroA, .bool false]
end Go.Proofs.Ytfikaekocgofoaa.Dsc
namespace Go.Proofs.Ytfikaekocgofoaa.AtB
open Go Go.RowKit Go.Proofs.YtfikaekocgofoaaW.PrintWords Go.Proofs.YtfikaekocgofoaaW.PrintMore Mem PAll KW MixP MixW StrP StrW AtA Srt Grp Sl Dsc
open CrP hiding Od
/-- What every OSD of a list is good for: the numbers are Go's. -/
def WfL (l : List Od) : Prop := ∀ o ∈ l, (Lit.int .i64 o.f0).wf = true ∧ (Lit.int .i64 o.f6).wf = true ∧ (Lit.int .i64 o.f7).wf = true
theorem check_calls (ep k m p d : Int) (A : Option Addr) (c : Nat) (l : List Od) (w : World) (hx : kO.C w A l.length l) (hwf : WfL l) :
    Calls Try.prog 29 #[.agg (boxM ep k m p d A c l)] w fun e w' => e = .returned (.int .i64 (if mayB ep k m p d l = true then 0 else 1)) ∧ Below w.heap.size w w' := by
  cases h0 : winB ep 1048576 with
  | false =>
    have e : mayB ep k m p d l = false := by unfold mayB; rw [h0]; rfl
    rw [e]; exact check_ep ep k m p d A c l w h0
  | true =>
    cases h1 : poolB k m p d with
    | false =>
      have e : mayB ep k m p d l = false := by unfold mayB; rw [h0, h1]; rfl
      rw [e]; exact check_pool ep k m p d A c l w h0 h1
    | true =>
      by_cases h2 : l.length ≤ 64
      · have e : mayB ep k m p d l = goodB l := by unfold mayB; rw [h0, h1, decide_eq_true h2]; rfl
        rw [e]
        refine (check_loop ep k m p d A c l w h0 h1 h2 hx (fun o ho => (hwf o ho).2.1) (fun o ho => (hwf o ho).2.2)).mono ?_
        rintro e w1 ⟨rfl, hb⟩
        exact ⟨rfl, hb⟩
      · have e : mayB ep k m p d l = false := by unfold mayB; rw [h0, h1, decide_eq_false h2]; rfl
        rw [e]; exact check_many ep k m p d A c l w h0 h1 (by omega) hx.2.1
theorem may_good {ep k m p d : Int} {l : List Od} (h : mayB ep k m p d l = true) : l.length ≤ 64 ∧ goodB l = true := by
  unfold mayB at h
  simp only [Bool.and_eq_true, decide_eq_true_eq] at h
  exact ⟨h.2.2.1, h.2.2.2⟩
theorem osd_ranges {o : Od} (h : osdB o = true) : (0 ≤ o.f0 ∧ o.f0 ≤ 999) ∧ (0 ≤ o.f6 ∧ o.f6 ≤ 999) ∧ (0 ≤ o.f7 ∧ o.f7 ≤ 999) ∧ (0 ≤ o.f3 ∧ o.f3 ≤ 16777216) := by
  unfold osdB winB at h
  simp only [Bool.and_eq_true, decide_eq_true_eq] at h
  omega
theorem may_osd {ep k m p d : Int} {l : List Od} (h : mayB ep k m p d l = true) : ∀ o ∈ l, osdB o = true := by
  intro o ho
  obtain ⟨i, hi, e⟩ := List.mem_iff_getElem.1 ho
  exact ((goodB_iff.1 (may_good h).2) i o hi (by rw [List.getElem?_eq_getElem hi, e])).1
end Go.Proofs.Ytfikaekocgofoaa.AtB
namespace Go.Proofs.Ytfikaekocgofoaa.Roo
open Go Go.RowKit Go.Proofs.YtfikaekocgofoaaW.PrintWords Go.Proofs.YtfikaekocgofoaaW.PrintMore Mem PAll KW MixP MixW StrP StrW AtA Srt Grp Sl Dsc AtB
open CrP hiding Od
end Go.Proofs.Ytfikaekocgofoaa.Roo
namespace Go.Proofs.Ytfikaekocgofoaa.Rep
open Go Go.RowKit Go.Proofs.YtfikaekocgofoaaW.PrintWords Go.Proofs.YtfikaekocgofoaaW.PrintMore Mem PAll AtA
end Go.Proofs.Ytfikaekocgofoaa.Rep
namespace Go.Proofs.Ytfikaekocgofoaa.Cho
open Go Go.RowKit Go.Proofs.YtfikaekocgofoaaW.PrintWords Go.Proofs.YtfikaekocgofoaaW.PrintMore Mem PAll KW MixP MixW StrP StrW AtA Srt Grp Sl Dsc AtB Roo Rep
open CrP hiding Od
open Go.Maps (Keyed int_keyed keyOf_int_mk)
structure Cho (l : List Od) (x want : Int) (lv n p : Nat) (outs taken : List Int) : Prop where
  hp : p ≤ n
  len : outs.length = p
  all : outs ++ places l x want lv (n - p) p taken = places l x want lv n 0 []
theorem Cho.some {l : List Od} {x want : Int} {lv n p : Nat} {outs taken : List Int} {o : Od} (h : Cho l x want lv n p outs taken) (hp : p < n) (ht : tries l x want p lv taken 50 0 = some o) : Cho l x want lv n (p + 1) (outs ++ [o.f0]) (keyN lv o :: taken) := by
  refine ⟨hp, by rw [List.length_append, h.len]; rfl, ?_⟩
  rw [← h.all, show n - p = (n - (p + 1)) + 1 by omega]
  simp only [places, ht, List.append_assoc, List.singleton_append]
theorem Cho.none {l : List Od} {x want : Int} {lv n p : Nat} {outs taken : List Int} (h : Cho l x want lv n p outs taken) (hp : p < n) (ht : tries l x want p lv taken 50 0 = none) : Cho l x want lv n (p + 1) (outs ++ [-1]) taken := by
  refine ⟨hp, by rw [List.length_append, h.len]; rfl, ?_⟩
  rw [← h.all, show n - p = (n - (p + 1)) + 1 by omega]
  simp only [places, ht, List.append_assoc, List.singleton_append]
end Go.Proofs.Ytfikaekocgofoaa.Cho
namespace Go.Proofs.Ytfikaekocgofoaa.MayP
open Go Go.RowKit Go.Proofs.YtfikaekocgofoaaW.PrintWords Go.Proofs.YtfikaekocgofoaaW.PrintMore Mem PAll KW MixP MixW StrP StrW AtA Srt Grp Sl Dsc AtB Roo Rep Cho
open CrP hiding Od
theorem w64 {x : Int} (h : -9223372036854775808 ≤ x) (h2 : x ≤ 9223372036854775807) : wrap64 x = x := IntWalk.wrap64_in _ ⟨h, h2⟩
theorem within_eq (a b : Int) : mooringref13_within.f a 0 b = some (winB a b) := by
  unfold mooringref13_within.f winB
  by_cases h : a ≥ 0
  · rw [if_pos h]
    congr 1
    by_cases h2 : a ≤ b
    · rw [decide_eq_true h2, decide_eq_true ⟨h, h2⟩]
    · rw [decide_eq_false h2, decide_eq_false (fun h3 => h2 h3.2)]
  · rw [if_neg h, decide_eq_false (fun h3 => h h3.1)]
theorem within1 (a b : Int) : mooringref13_within.f a 1 b = some (decide (1 ≤ a ∧ a ≤ b)) := by
  unfold mooringref13_within.f
  by_cases h : a ≥ 1
  · rw [if_pos h]
    congr 1
    by_cases h2 : a ≤ b
    · rw [decide_eq_true h2, decide_eq_true ⟨h, h2⟩]
    · rw [decide_eq_false h2, decide_eq_false (fun h3 => h2 h3.2)]
  · rw [if_neg h, decide_eq_false (fun h3 => h h3.1)]
theorem pool_eq (k m p d : Int) : mooringref13_Pool.f k m p d = some (poolB k m p d) := by
  unfold mooringref13_Pool.f poolB
  rw [within1, within1, within1, within_eq]
  simp only [Option.bind_some]
  by_cases h1 : 1 ≤ k ∧ k ≤ 32
  · rw [if_pos (decide_eq_true h1), decide_eq_true h1.1, decide_eq_true h1.2]
    by_cases h2 : 1 ≤ m ∧ m ≤ 32
    · have hw : wrap64 (k + m) = k + m := w64 (by omega) (by omega)
      rw [if_pos (decide_eq_true h2), hw, decide_eq_true h2.1]
      by_cases h3 : k + m ≤ 32
      · rw [if_pos h3, decide_eq_true (show m ≤ 32 - k by omega)]
        by_cases h4 : 1 ≤ p ∧ p ≤ 32
        · rw [if_pos (decide_eq_true h4), decide_eq_true h4.1, decide_eq_true h4.2]; rfl
        · rw [if_neg (by rw [decide_eq_false h4]; decide)]
          by_cases h5 : 1 ≤ p
          · rw [decide_eq_true h5, decide_eq_false (show ¬ p ≤ 32 from fun h => h4 ⟨h5, h⟩)]; rfl
          · rw [decide_eq_false h5]; rfl
      · rw [if_neg h3, decide_eq_false (show ¬ m ≤ 32 - k by omega)]; rfl
    · rw [if_neg (by rw [decide_eq_false h2]; decide)]
      by_cases h5 : 1 ≤ m
      · rw [decide_eq_true h5, decide_eq_false (show ¬ m ≤ 32 - k by omega)]; rfl
      · rw [decide_eq_false h5]; rfl
  · rw [if_neg (by rw [decide_eq_false h1]; decide)]
    by_cases h5 : 1 ≤ k
    · rw [decide_eq_true h5, decide_eq_false (show ¬ k ≤ 32 by omega)]
      cases decide (1 ≤ m) <;> rfl
    · rw [decide_eq_false h5]; rfl
theorem osd_eq (o : Od) : mooringref13_Osd.f o.f0 o.f1 o.f2 o.f3 o.f4 o.f5 o.f6 o.f7 = some (osdB o) := by
  unfold mooringref13_Osd.f osdB
  simp only [within_eq, Option.bind_some]
  generalize winB o.f0 999 = bf0
  cases bf0
  · rfl
  generalize winB o.f6 999 = bf6
  cases bf6
  · rfl
  generalize winB o.f7 999 = bf7
  cases bf7
  · rfl
  generalize winB o.f3 16777216 = bf3
  cases bf3
  · rfl
  generalize winB o.f4 2147483647 = bf4
  cases bf4
  · rfl
  generalize winB o.f5 2147483647 = bf5
  cases bf5
  · rfl
  simp only [if_true, Bool.true_and]
  cases o.f1
  · rfl
  · simp only [if_true, Bool.not_true, Bool.false_or]
    by_cases h : o.f4 > 0
    · rw [if_pos h, decide_eq_true (show 1 ≤ o.f4 by omega)]
      by_cases h2 : o.f5 > 0
      · rw [decide_eq_true h2, decide_eq_true (show 1 ≤ o.f5 by omega)]; rfl
      · rw [decide_eq_false h2, decide_eq_false (show ¬ 1 ≤ o.f5 by omega)]; rfl
    · rw [if_neg h, decide_eq_false (show ¬ 1 ≤ o.f4 by omega)]; rfl
theorem rd_at {l : List Od} {i : Nat} {o : Od} (h : l[i]? = some o) : rd_T37 l (i : Int) = o := by
  unfold rd_T37
  rw [show ((i : Nat) : Int).toNat = i from rfl, List.getD_eq_getElem?_getD, h]
  rfl
section
variable (ep k m p d : Int) {l : List Od}
theorem l1_all (hl : l.length ≤ 64) {i : Nat} {o : Od} (ho : l[i]? = some o) (h1 : osdB o = true) (hg : AtA.Good l i)
    (next : AtA.Good l (i + 1) → ∃ K, mooringref13_May.l0 K ((i : Int) + 1) ep k m p d l = some (goodB l)) :
    ∀ r j : Nat, j + r = i → (∀ j' q, j' < j → l[j']? = some q → q.f0 < o.f0 ∧ (q.f6 = o.f6 → q.f7 = o.f7)) → ∃ K, mooringref13_May.l1 K (i : Int) (j : Int) ep k m p d l = some (goodB l)
  | 0, j, hj, hp => by
    obtain rfl : j = i := by omega
    have hi := (List.getElem?_eq_some_iff.1 ho).1
    obtain ⟨K, hK⟩ := next (fun i' o' hi' ho' => by
      rcases Nat.lt_or_ge i' j with h | h
      · exact hg i' o' h ho'
      · obtain rfl : i' = j := by omega
        obtain rfl : o = o' := Option.some.inj (ho.symm.trans ho')
        exact ⟨h1, hp⟩)
    refine ⟨K + 1, ?_⟩
    unfold mooringref13_May.l1
    rw [if_neg (by omega), w64 (by omega) (by omega)]
    exact hK
  | r + 1, j, hj, hp => by
    have hi := (List.getElem?_eq_some_iff.1 ho).1
    have hq : l[j]? = some (l[j]'(by omega)) := List.getElem?_eq_getElem _
    have bad : (o.f0 ≤ (l[j]'(by omega)).f0 ∨ ((l[j]'(by omega)).f6 = o.f6 ∧ (l[j]'(by omega)).f7 ≠ o.f7)) → goodB l = false := fun hb => goodB_no (not_good hi ho (.inr ⟨j, _, by omega, hq, hb⟩))
    obtain ⟨q, hqe⟩ : ∃ q, q = l[j]'(by omega) := ⟨_, rfl⟩
    rw [← hqe] at hq bad
    clear hqe
    have recu := fun (hok : q.f0 < o.f0 ∧ (q.f6 = o.f6 → q.f7 = o.f7)) => l1_all hl ho h1 hg next r (j + 1) (by omega) (fun j' q' hj' hq' => by
      rcases Nat.lt_or_ge j' j with h | h
      · exact hp j' q' h hq'
      · obtain rfl : j' = j := by omega
        obtain rfl : q = q' := Option.some.inj (hq.symm.trans hq')
        exact hok)
    have go : ∀ K, mooringref13_May.l1 (K + 1) (i : Int) (j : Int) ep k m p d l = if q.f0 ≥ o.f0 then some false else if q.f6 = o.f6 then (if q.f7 = o.f7 then mooringref13_May.l1 K (i : Int) ((j + 1 : Nat) : Int) ep k m p d l else some false) else mooringref13_May.l1 K (i : Int) ((j + 1 : Nat) : Int) ep k m p d l := by
      intro K
      rw [mooringref13_May.l1]
      rw [if_pos (by omega), if_pos (by omega), if_pos (by omega), if_pos (by omega), if_pos (by omega), w64 (by omega) (by omega), rd_at hq, rd_at ho, show ((j : Int) + 1) = ((j + 1 : Nat) : Int) by omega]
    by_cases c1 : q.f0 ≥ o.f0
    · exact ⟨1, by rw [go 0, if_pos c1, bad (.inl c1)]⟩
    · by_cases c2 : q.f6 = o.f6
      · by_cases c3 : q.f7 = o.f7
        · obtain ⟨K, hK⟩ := recu ⟨by omega, fun _ => c3⟩
          exact ⟨K + 1, by rw [go K, if_neg c1, if_pos c2, if_pos c3, hK]⟩
        · exact ⟨1, by rw [go 0, if_neg c1, if_pos c2, if_neg c3, bad (.inr ⟨c2, c3⟩)]⟩
      · obtain ⟨K, hK⟩ := recu ⟨by omega, fun h => absurd h c2⟩
        exact ⟨K + 1, by rw [go K, if_neg c1, if_neg c2, hK]⟩
theorem l0_all (hl : l.length ≤ 64) : ∀ r i : Nat, i + r = l.length → AtA.Good l i → ∃ K, mooringref13_May.l0 K (i : Int) ep k m p d l = some (goodB l)
  | 0, i, hi, hg => by
    obtain rfl : i = l.length := by omega
    refine ⟨1, ?_⟩
    rw [mooringref13_May.l0, if_neg (by omega), goodB_yes hg]
  | r + 1, i, hi, hg => by
    have hlt : i < l.length := by omega
    have ho : l[i]? = some l[i] := List.getElem?_eq_getElem hlt
    obtain ⟨o, hoe⟩ : ∃ o, o = l[i] := ⟨_, rfl⟩
    rw [← hoe] at ho
    clear hoe
    have go : ∀ K, mooringref13_May.l0 (K + 1) (i : Int) ep k m p d l = if osdB o = true then mooringref13_May.l1 K (i : Int) 0 ep k m p d l else some false := by
      intro K
      rw [mooringref13_May.l0, if_pos (by omega), if_pos (by omega), rd_at ho, osd_eq]
      rfl
    cases h1 : osdB o with
    | false => exact ⟨1, by rw [go 0, h1, goodB_no (not_good hlt ho (.inl h1))]; rfl⟩
    | true =>
      obtain ⟨K, hK⟩ := l1_all ep k m p d hl ho h1 hg (fun hg1 => l0_all hl r (i + 1) (by omega) hg1) i 0 (by omega) (fun j' _ h => absurd h (Nat.not_lt_zero _))
      exact ⟨K + 1, by rw [go K, h1, if_pos rfl]; exact hK⟩
theorem may_eq : ∃ K, mooringref13_May.f K ep k m p d l = some (mayB ep k m p d l) := by
  unfold mooringref13_May.f mayB
  rw [within_eq, pool_eq]
  simp only [Option.bind_some]
  cases winB ep 1048576 with
  | false => exact ⟨1, rfl⟩
  | true =>
    cases poolB k m p d with
    | false => exact ⟨1, rfl⟩
    | true =>
      by_cases h : l.length ≤ 64
      · obtain ⟨K, hK⟩ := l0_all ep k m p d h l.length 0 (by omega) (fun i _ h => absurd h (Nat.not_lt_zero _))
        refine ⟨K + 1, ?_⟩
        rw [if_pos rfl, if_pos rfl, mooringref13_May.j0, decide_eq_false (show ¬ ((l.length : Int) > 64) by omega), decide_eq_true h, if_neg Bool.false_ne_true]
        exact hK
      · refine ⟨1, ?_⟩
        rw [if_pos rfl, if_pos rfl, mooringref13_May.j0, decide_eq_true (show ((l.length : Int) > 64) by omega), decide_eq_false h]
        rfl
end
theorem may_calls (ep k m p d : Int) (A : Option Addr) (c : Nat) (l : List Od) (w : World) (hx : kO.C w A l.length l) (hc : l.length ≤ c) :
    Calls Try.prog 15 #[.agg (boxM ep k m p d A c l)] w fun e w' => e = .returned (.bool (mayB ep k m p d l)) ∧ Below w.heap.size w w' := by
  obtain ⟨K, hK⟩ := may_eq ep k m p d (l := l)
  refine (mooringref13_May.calls K ep k m p d A c l _ w hx hc hK).mono ?_
  rintro e w1 ⟨rfl, hb⟩
  exact ⟨rfl, hb⟩
end Go.Proofs.Ytfikaekocgofoaa.MayP
namespace Go.Proofs.Ytfikaekocgofoaa.Awk
open Go Go.RowKit Go.Proofs.YtfikaekocgofoaaW.PrintWords Go.Proofs.YtfikaekocgofoaaW.PrintMore Mem PAll KW MixP MixW StrP StrW AtA Srt Grp Sl Dsc AtB Roo Rep Cho MayP
open CrP hiding Od
end Go.Proofs.Ytfikaekocgofoaa.Awk
namespace Go.Proofs.Ytfikaekocgofoaa.UpsP
open Go Go.RowKit Go.Proofs.YtfikaekocgofoaaW.PrintWords Go.Proofs.YtfikaekocgofoaaW.PrintMore Mem PAll KW MixP MixW StrP StrW AtA Srt Grp Sl Dsc AtB Roo Rep Cho MayP Awk
open CrP hiding Od
def nrm (o : Od) : Od := { o with f1 := false, f4 := 0 }
theorem groupF_nrm (lv : Nat) : ∀ (l : List Od) (g : List Wd), groupF lv g (l.map nrm) = groupF lv g l
  | [], _ => rfl
  | o :: r, g => groupF_nrm lv r (ins (keyN lv o) (wOf o) g)
theorem group_nrm (lv : Nat) (l : List Od) : group lv (l.map nrm) = group lv l := groupF_nrm lv l []
theorem lvl_nrm (x r : Int) (lv : Nat) (l : List Od) : lvl x r lv (l.map nrm) = (lvl x r lv l).map (List.map nrm) := by
  unfold lvl
  rw [group_nrm]
  split
  · rfl
  · rw [List.filter_map]
    rfl
theorem desc_nrm (x r : Int) (l : List Od) : desc x r (l.map nrm) = (desc x r l).map nrm := by
  unfold desc
  rw [lvl_nrm]
  cases lvl x r 1 l with
  | none => rfl
  | some l1 =>
    show ((lvl x r 2 (l1.map nrm)).bind (lvl x r 3)).bind List.head? = (((lvl x r 2 l1).bind (lvl x r 3)).bind List.head?).map nrm
    rw [lvl_nrm]
    cases lvl x r 2 l1 with
    | none => rfl
    | some l2 =>
      show (lvl x r 3 (l2.map nrm)).bind List.head? = ((lvl x r 3 l2).bind List.head?).map nrm
      rw [lvl_nrm]
      cases lvl x r 3 l2 with
      | none => rfl
      | some l3 => cases l3 <;> rfl
theorem tries_nrm (l : List Od) (x want place : Int) (lv : Nat) (taken : List Int) : ∀ m t, tries (l.map nrm) x want place lv taken m t = (tries l x want place lv taken m t).map nrm
  | 0, _ => rfl
  | m + 1, t => by
    simp only [tries]
    rw [desc_nrm]
    cases desc x (place + t * want) l with
    | none => exact tries_nrm l x want place lv taken m (t + 1)
    | some o =>
      show (if keyN lv (nrm o) ∈ taken then _ else _) = _
      rw [show keyN lv (nrm o) = keyN lv o from rfl]
      by_cases h : keyN lv o ∈ taken
      · simp only [if_pos h]; exact tries_nrm l x want place lv taken m (t + 1)
      · simp only [if_neg h]; rfl
theorem places_nrm (l : List Od) (x want : Int) (lv : Nat) : ∀ m p taken, places (l.map nrm) x want lv m p taken = places l x want lv m p taken
  | 0, _, _ => rfl
  | m + 1, p, taken => by
    simp only [places]
    rw [tries_nrm]
    cases tries l x want p lv taken 50 0 with
    | none => exact congrArg _ (places_nrm l x want lv m (p + 1) taken)
    | some o => exact congrArg _ (places_nrm l x want lv m (p + 1) (keyN lv o :: taken))
def off (j : Nat) (o : Od) : Od := { o with f1 := false, f4 := (j : Int) }
/-- The first i are down. -/
structure Downs (l xs : List Od) (i : Nat) : Prop where
  len : xs.length = l.length
  at_ : ∀ j o, l[j]? = some o → xs[j]? = some (if j < i then off j o else o)
theorem Downs.more {l xs : List Od} {i : Nat} {o : Od} (h : Downs l xs i) (ho : l[i]? = some o) : Downs l (xs.set i (off i o)) (i + 1) := by
  refine ⟨by rw [List.length_set]; exact h.len, fun j q hq => ?_⟩
  have hi := (List.getElem?_eq_some_iff.1 ho).1
  have hl := h.len
  rw [List.getElem?_set]
  by_cases e : i = j
  · subst e
    obtain rfl : o = q := Option.some.inj (ho.symm.trans hq)
    rw [if_pos rfl, if_pos (by omega), if_pos (Nat.lt_succ_self _)]
  · rw [if_neg e, h.at_ j q hq]
    by_cases h2 : j < i
    · rw [if_pos h2, if_pos (by omega)]
    · rw [if_neg h2, if_neg (by omega)]
theorem Downs.nrm_eq {l xs : List Od} {i : Nat} (h : Downs l xs i) : xs.map nrm = l.map nrm := by
  apply List.ext_getElem?
  intro j
  rw [List.getElem?_map, List.getElem?_map]
  rcases Nat.lt_or_ge j l.length with hj | hj
  · rw [h.at_ j _ (List.getElem?_eq_getElem hj), List.getElem?_eq_getElem hj]
    split <;> rfl
  · rw [List.getElem?_eq_none hj, List.getElem?_eq_none (by rw [h.len]; exact hj)]
theorem Downs.places {l xs : List Od} {i : Nat} (h : Downs l xs i) (x want : Int) (lv m p : Nat) (taken : List Int) : places xs x want lv m p taken = places l x want lv m p taken := by
  rw [← places_nrm xs, h.nrm_eq, places_nrm]
theorem osdB_off {o : Od} {j : Nat} (h : osdB o = true) (hj : j < 64) : osdB (off j o) = true := by
  unfold osdB at *
  simp only [Bool.and_eq_true] at h
  obtain ⟨h0, h6, h7, h3, _, h5, _⟩ := h
  have h4 : winB (j : Int) 2147483647 = true := decide_eq_true (by omega)
  show (winB o.f0 999 && (winB o.f6 999 && (winB o.f7 999 && (winB o.f3 16777216 && (winB (j : Int) 2147483647 && (winB o.f5 2147483647 && (!false || (decide (1 ≤ (j : Int)) && decide (1 ≤ o.f5))))))))) = true
  rw [h0, h6, h7, h3, h4, h5]
  rfl
theorem Downs.may {l xs : List Od} {ep k m p d : Int} (h : Downs l xs l.length) (hm : mayB ep k m p d l = true) : mayB 7 k m p d xs = true := by
  have hg := may_good hm
  have hG := goodB_iff.1 hg.2
  have hlen := h.len
  have at' : ∀ j o, xs[j]? = some o → ∃ q, l[j]? = some q ∧ o = off j q ∧ j < l.length := fun j o ho => by
    have hj := (List.getElem?_eq_some_iff.1 ho).1
    have e := h.at_ j _ (List.getElem?_eq_getElem (show j < l.length by omega))
    rw [if_pos (by omega)] at e
    exact ⟨_, List.getElem?_eq_getElem (by omega), Option.some.inj (ho.symm.trans e), by omega⟩
  have hgood : AtA.Good xs xs.length := fun i o _ ho => by
    obtain ⟨q, hq, rfl, hi⟩ := at' i o ho
    have hq2 := hG i q hi hq
    refine ⟨osdB_off hq2.1 (by omega), fun j p hj hp => ?_⟩
    obtain ⟨q', hq', rfl, hj'⟩ := at' j p hp
    exact hq2.2 j q' hj hq'
  unfold mayB at *
  rw [goodB_yes hgood, hlen]
  simp only [Bool.and_eq_true, decide_eq_true_eq] at *
  first | exact ⟨by decide, hm.2.1, hm.2.2.1⟩ | exact ⟨by decide, hm.2.1, hm.2.2.1, trivial⟩
theorem Downs.wf {l xs : List Od} {i : Nat} (h : Downs l xs i) (hw : WfL l) : WfL xs := fun o ho => by
  obtain ⟨j, hj, e⟩ := List.mem_iff_getElem.1 ho
  have hj' : j < l.length := by rw [← h.len]; exact hj
  have e2 := h.at_ j _ (List.getElem?_eq_getElem hj')
  rw [List.getElem?_eq_getElem hj, e] at e2
  have hw2 := hw l[j] (List.getElem_mem hj')
  rw [Option.some.inj e2]
  split
  · exact hw2
  · exact hw2
end Go.Proofs.Ytfikaekocgofoaa.UpsP
namespace Go.Proofs.Ytfikaekocgofoaa.WghP
open Go.RowKit Go.Proofs.YtfikaekocgofoaaW.PrintWords KW MixP MixW StrP PAll CrP
/-- The row in which the number has its place: it was there, or it is put there with no weight. -/
structure Put (g g1 : List Wd) (k : Int) (a : Nat) (wt : Int) : Prop where
  at_ : g1[a]? = some ⟨k, wt⟩
  ins_ : ∀ w, ins k w g = g1.set a ⟨k, wt + w⟩
end Go.Proofs.Ytfikaekocgofoaa.WghP
namespace Go.Proofs.Ytfikaekocgofoaa.Rds
open Go Go.RowKit Go.Proofs.YtfikaekocgofoaaW.PrintWords Go.Proofs.YtfikaekocgofoaaW.PrintMore Mem PAll KW MixP MixW StrP StrW AtA Srt Grp Sl Dsc AtB Roo Rep Cho MayP Awk
open CrP hiding Od
end Go.Proofs.Ytfikaekocgofoaa.Rds
namespace Go.Proofs.Ytfikaekocgofoaa.Wgh
open Go Go.RowKit Go.Proofs.YtfikaekocgofoaaW.PrintWords Go.Proofs.YtfikaekocgofoaaW.PrintMore Go.Proofs.YtfikaekocgofoaaW.PrintLast Mem PAll KW MixP MixW StrP StrW AtA Srt Grp Sl Dsc AtB Roo Rep Cho MayP Awk Rds WghP
open CrP hiding Od
set_option linter.unusedSimpArgs false
end Go.Proofs.Ytfikaekocgofoaa.Wgh
namespace Go.Proofs.Ytfikaekocgofoaa.LDe
open Go Go.RowKit Go.Proofs.YtfikaekocgofoaaW.PrintWords Go.Proofs.YtfikaekocgofoaaW.PrintMore Mem PAll KW MixP MixW StrP StrW AtA Srt Grp Sl Dsc AtB Roo Rep Cho MayP Awk Rds
open CrP hiding Od
end Go.Proofs.Ytfikaekocgofoaa.LDe
namespace Go.Proofs.Ytfikaekocgofoaa.Ups
open Go Go.RowKit Go.Proofs.YtfikaekocgofoaaW.PrintWords Go.Proofs.YtfikaekocgofoaaW.PrintMore Mem PAll KW MixP MixW StrP StrW AtA Srt Grp Sl Dsc AtB Roo Rep Cho MayP Awk UpsP
open CrP hiding Od
end Go.Proofs.Ytfikaekocgofoaa.Ups
namespace Go.Proofs.Ytfikaekocgofoaa.UpsO
open Go Go.RowKit Go.Proofs.YtfikaekocgofoaaW.PrintWords Opns PAll KW AtA Grp AtB Ups
instance : Inhabited S37 := ⟨⟨0, false, false, 0, 0, 0, 0, 0⟩⟩
end Go.Proofs.Ytfikaekocgofoaa.UpsO
namespace Go.Proofs.Ytfikaekocgofoaa.DeO
open Go Go.RowKit Go.Proofs.YtfikaekocgofoaaW.PrintWords Opns PAll AtA AtB Rds Wgh UpsO
end Go.Proofs.Ytfikaekocgofoaa.DeO
namespace Go.Proofs.Ytfikaekocgofoaa.Chr
open Go Go.RowKit Go.Proofs.YtfikaekocgofoaaW.PrintWords Go.Proofs.YtfikaekocgofoaaW.PrintMore Go.Proofs.YtfikaekocgofoaaW.PrintLast Mem PAll KW MixP MixW StrP StrW AtA Srt Grp Sl Dsc AtB Roo Rep Cho MayP Awk Rds WghP Wgh
open CrP hiding Od
abbrev kI : Kd Int := Kd.int .i64
/-- Two rows of the call's own, apart. -/
def I2 (w : World) (base : Nat) (u : Value) (xs : List Int) (v : Value) (ys : List Int) : Prop :=
  kI.R 3 w base (fun k => True ∧ some k ≠ v.ownBlock) u xs ∧ kI.R 3 w base (fun k => True ∧ some k ≠ u.ownBlock) v ys
theorem I2.below {w w1 : World} {base : Nat} {u v : Value} {xs ys : List Int} (h : I2 w base u xs v ys) (hb : Below w.heap.size w w1) : I2 w1 base u xs v ys := ⟨Kd.R_below h.1 hb, Kd.R_below h.2 hb⟩
set_option linter.unusedSimpArgs false
end Go.Proofs.Ytfikaekocgofoaa.Chr
namespace Go.Proofs.Ytfikaekocgofoaa.IntG
open Go Go.RowKit Go.Proofs.YtfikaekocgofoaaW.PrintWords Go.Proofs.YtfikaekocgofoaaW.PrintLast Go.Proofs.YtfikaekocgofoaaW.PrintMore PAll Chr UpsP MayP Cho
end Go.Proofs.Ytfikaekocgofoaa.IntG
namespace Go.Proofs.Ytfikaekocgofoaa.ApP
open Go Go.RowKit Go.Proofs.YtfikaekocgofoaaW.PrintWords KW MixP MixW StrP PAll AtA AtB Grp Dsc Roo Cho UpsP
open CrP hiding Od
def findO (l : List Od) (id : Int) : Option Od := l.find? fun o => o.f0 == id
end Go.Proofs.Ytfikaekocgofoaa.ApP
namespace Go.Proofs.Ytfikaekocgofoaa.Fnd
open Go Go.RowKit Go.Proofs.YtfikaekocgofoaaW.PrintWords Go.Proofs.YtfikaekocgofoaaW.PrintLast Go.Proofs.YtfikaekocgofoaaW.PrintMore PAll AtA AtB Dsc MayP ApP
open CrP hiding Od
section
variable (ep k m p d id : Int) (l : List Od)
end
end Go.Proofs.Ytfikaekocgofoaa.Fnd
namespace Go.Proofs.Ytfikaekocgofoaa.PlF
open Go Go.RowKit Go.Proofs.YtfikaekocgofoaaW.PrintWords Go.Proofs.YtfikaekocgofoaaW.PrintMore Mem PAll KW MixP MixW StrP AtA Srt Grp Sl Dsc ApP
open CrP hiding Od
abbrev fv (q : Nat) : Value := .func (.func 50) #[] #[.pointer (some ⟨q, 0, none⟩)]
theorem tell_calls (q : Nat) (id : Int) (o : Od) (W : World) (hq : W.cell? ⟨q, 0, none⟩ = some (.int .i64 id)) :
    Calls Try.prog 50 #[.agg (aggO o), .pointer (some ⟨q, 0, none⟩)] W fun e w' => e = .returned (.bool (o.f0 == id)) ∧ Below W.heap.size W w' := by
  have HB := Lib.hid (below_alloc (Below.refl W.heap.size W) (.cells (aggO o) 37))
  have hq2 := cell_alloc hq (.cells (aggO o) 37)
  clear hq
  go_enter Try.func50, Try.ntmps50
  go_wp2_with fail
  go_ret
  exact ⟨rfl, HB.out⟩
set_option maxHeartbeats 1600000 in
theorem findI_calls (q : Nat) (id : Int) (A : Option Addr) (c : Nat) (l : List Od) (w : World) (hx : kO.C w A l.length l) (hq : w.cell? ⟨q, 0, none⟩ = some (.int .i64 id)) :
    Calls Try.prog 49 #[.slice A l.length c, fv q] w fun e w' => ∃ n : Int, e = .returned (.int .i64 n) ∧ FirstOf (fun o => o.f0 == id) l n ∧ Below w.heap.size w w' := by
  have HC := Lib.hid hx
  have HQ0 := Lib.hid hq
  have hm : l.length ≤ 9223372036854775807 := hx.2.1
  have HB0 := Lib.hid (Below.refl w.heap.size w)
  clear hx hq
  go_enter Try.func49, Try.ntmps49
  go_wp2_with fail
  go_loopw [8] (fun i' wr => ∃ (n : Nat), i' = .int .i64 n ∧ Hid (n ≤ l.length ∧ ∀ o ∈ l.take n, (o.f0 == id) = false) ∧ Hid (Below w.heap.size w wr)) (fun i' _ => (l.length - intOf i').toNat)
  case atStart => exact ⟨0, rfl, Lib.hid ⟨Nat.zero_le _, fun o ho => by rw [List.take_zero] at ho; exact absurd ho List.not_mem_nil⟩, HB0⟩
  case round =>
    obtain ⟨n, rfl, HN, HB⟩ := hrel
    have hn := HN.out.1
    by_cases h : n < l.length
    · have hlt : decide (n < l.length) = true := decide_eq_true h
      have i0 : (0 : Int) ≤ n := by omega
      obtain ⟨ad, o, ho, hA, a0, a1, a2, a3, a4, a5, a6, a7⟩ := at_O (Kd.C_below HC.out HB.out) n h
      subst hA
      have HQ := Lib.hid ho
      obtain ⟨lk, hlk⟩ : ∃ lk, lk = (o.f0 == id) := ⟨_, rfl⟩
      have T := Lib.hid (tell_calls q id o wr ((HB.out.cell (World.block_lt_of_cell? _ _ HQ0.out)).trans HQ0.out))
      rw [← hlk] at T
      have HLK := Lib.hid hlk
      clear ho hlk
      go_wp2_with fail
      refine T.out.mono ?_
      rintro e w1 ⟨rfl, hb⟩
      have HB1 := Lib.hid (below_then HB.out HB.out.size hb)
      clear hb T HB
      cases lk
      · go_wp2_with fail
        go_roundw
        case rel =>
          refine ⟨n + 1, by go_num, Lib.hid ⟨by omega, fun z hz => ?_⟩, HB1⟩
          rw [List.take_succ_eq_append_getElem h, (List.getElem?_eq_some_iff.1 HQ.out).2] at hz
          rcases List.mem_append.1 hz with hz | hz
          · exact HN.out.2 z hz
          · rw [List.mem_singleton.1 hz]; exact HLK.out.symm
        case measure => simp only [intOf]; omega
      · go_wp2_with fail
        go_ret
        exact ⟨n, rfl, .inr ⟨n, rfl, h, HN.out.2, o, HQ.out, HLK.out.symm⟩, HB1.out⟩
    · obtain rfl : n = l.length := by omega
      have hlt : decide (l.length < l.length) = false := decide_eq_false (by omega)
      go_wp2_with fail
      go_ret
      exact ⟨-1, rfl, .inl ⟨rfl, by have := HN.out.2; rwa [List.take_length] at this⟩, HB.out⟩
theorem first_find {l : List Od} {id n : Int} (h : FirstOf (fun o => o.f0 == id) l n) : (n = -1 ∧ findO l id = none) ∨ ∃ (i : Nat) (o : Od), n = i ∧ l[i]? = some o ∧ findO l id = some o := by
  rcases h with ⟨rfl, h⟩ | ⟨i, rfl, hi, hb, o, ho, hd⟩
  · exact .inl ⟨rfl, List.find?_eq_none.2 (fun o ho => by have := h o ho; simpa using this)⟩
  · refine .inr ⟨i, o, rfl, ho, ?_⟩
    have e : l = l.take i ++ (o :: l.drop (i + 1)) := by
      rw [← (List.getElem?_eq_some_iff.1 ho).2, ← List.drop_eq_getElem_cons hi, List.take_append_drop]
    unfold findO
    rw [e, List.find?_append, List.find?_eq_none.2 (fun z hz => by have := hb z hz; simpa using this), Option.none_or, List.find?_cons, show (o.f0 == id) = true from hd]
set_option maxHeartbeats 4000000 in
set_option maxRecDepth 100000 in
theorem aFind_calls (ep k m p d : Int) (A : Option Addr) (c : Nat) (l : List Od) (id : Int) (w : World) (hx : kO.C w A l.length l) :
    Calls Try.prog 24 #[.agg (boxM ep k m p d A c l), .int .i64 id] w fun e w' => e = .returned (descV (findO l id)) ∧ Below w.heap.size w w' := by
  have hs1 : (w.alloc (.cells (boxM ep k m p d A c l) 28)).heap.size = w.heap.size + 1 := by simp only [World.alloc, Array.size_push]
  have hs2 : ((w.alloc (.cells (boxM ep k m p d A c l) 28)).alloc (.cells #[.int .i64 id] 3)).heap.size = w.heap.size + 2 := by simp only [World.alloc, Array.size_push]
  have HM1 : Hid ((((w.alloc (.cells (boxM ep k m p d A c l) 28)).alloc (.cells #[.int .i64 id] 3)).alloc (.cells zeroA 37)).heap[w.heap.size]? = some (.cells (boxM ep k m p d A c l) 28 (0, 0))) := Lib.hid (blk_below (blk_new _ _) (below_alloc (below_alloc (Below.refl _ _) _) _))
  have HI1 : Hid ((((w.alloc (.cells (boxM ep k m p d A c l) 28)).alloc (.cells #[.int .i64 id] 3)).alloc (.cells zeroA 37)).heap[w.heap.size + 1]? = some (.cells #[.int .i64 id] 3 (0, 0))) := Lib.hid (by
    have h := blk_new (w.alloc (.cells (boxM ep k m p d A c l) 28)) (.cells #[.int .i64 id] 3)
    rw [hs1] at h
    exact blk_below h (below_alloc (Below.refl _ _) _))
  have HR1 : Hid ((((w.alloc (.cells (boxM ep k m p d A c l) 28)).alloc (.cells #[.int .i64 id] 3)).alloc (.cells zeroA 37)).heap[w.heap.size + 2]? = some (.cells zeroA 37 (0, 0))) := Lib.hid (by
    have h := blk_new ((w.alloc (.cells (boxM ep k m p d A c l) 28)).alloc (.cells #[.int .i64 id] 3)) (.cells zeroA 37)
    rw [hs2] at h
    exact h)
  have HB1 := Lib.hid (below_alloc (below_alloc (below_alloc (Below.refl w.heap.size w) (.cells (boxM ep k m p d A c l) 28)) (.cells #[.int .i64 id] 3)) (.cells zeroA 37))
  have HC1 := Lib.hid (Kd.C_below hx HB1.out)
  obtain ⟨w1, hw1⟩ : ∃ w1, w1 = ((w.alloc (.cells (boxM ep k m p d A c l) 28)).alloc (.cells #[.int .i64 id] 3)).alloc (.cells zeroA 37) := ⟨_, rfl⟩
  have HWN := Lib.hid hw1
  rw [← hw1] at HM1 HI1 HR1 HB1 HC1
  clear hx hw1 hs1 hs2
  unfold boxM at *
  unfold zeroA at HWN
  go_enter Try.func24, Try.ntmps24
  go_wp2_with fail
  rw [← HWN.out]
  refine (findI_calls (w.heap.size + 1) id A c l w1 HC1.out (blk_cell HI1.out 0)).mono ?_
  rintro e w2 ⟨n, rfl, hf, hb⟩
  have HB2 := Lib.hid (below_then HB1.out HB1.out.size hb)
  have HM2 := Lib.hid (blk_below HM1.out hb)
  have HR2 := Lib.hid (blk_below HR1.out hb)
  have HC2 := Lib.hid (Kd.C_below HC1.out hb)
  clear hb HB1 HM1 HI1 HR1 HC1 HWN
  have m5 := blk_cell HM2.out 5
  obtain ⟨y0, y1, y2, y3, y4, y5, y6, y7⟩ := blkO (o := ⟨0, false, false, 0, 0, 0, 0, 0⟩) HR2.out
  have f0 := blk_frozen HR2.out 0
  have f1 := blk_frozen HR2.out 1
  have f2 := blk_frozen HR2.out 2
  have f3 := blk_frozen HR2.out 3
  have f4 := blk_frozen HR2.out 4
  have f5 := blk_frozen HR2.out 5
  have f6 := blk_frozen HR2.out 6
  have f7 := blk_frozen HR2.out 7
  rcases first_find hf with ⟨rfl, hn⟩ | ⟨i, o, rfl, ho, hfo⟩
  · have HFO := Lib.hid hn
    clear hf hn
    have HF := Lib.hid (put8_blk (q := ⟨0, false, false, 0, 0, 0, 0, 0⟩) HR2.out ⟨0, false, false, 0, 0, 0, 0, 0⟩)
    have HBF := Lib.hid (put8_below HB2.out (show w.heap.size ≤ w.heap.size + 2 by omega) ⟨0, false, false, 0, 0, 0, 0, 0⟩)
    obtain ⟨wf, hwf⟩ : ∃ wf, wf = put8 w2 (w.heap.size + 2) ⟨0, false, false, 0, 0, 0, 0, 0⟩ := ⟨_, rfl⟩
    rw [← hwf] at HF HBF
    simp only [put8] at hwf
    go_wp2_with fail
    rw [← hwf]
    clear hwf
    clear y0 y1 y2 y3 y4 y5 y6 y7 f0 f1 f2 f3 f4 f5 f6 f7
    refine bodyPost_ret (results_ct rfl _ _ (w.heap.size + 2) 37 (aggO ⟨0, false, false, 0, 0, 0, 0, 0⟩) (0, 0) _ rfl HF.out Try.underlying37 rfl (by kernel_rfl)) rfl ?_
    refine ⟨?_, HBF.out⟩
    rw [HFO.out]
    rfl
  · have HFO := Lib.hid hfo
    have hi := (List.getElem?_eq_some_iff.1 ho).1
    have hd : decide ((i : Int) < 0) = false := decide_eq_false (by omega)
    have hlt : decide (i < l.length) = true := decide_eq_true hi
    have i0 : (0 : Int) ≤ i := by omega
    have i1 : (i : Int) < l.length := by omega
    obtain ⟨ad, o', ho', rfl, a0, a1, a2, a3, a4, a5, a6, a7⟩ := at_O HC2.out i hi
    obtain rfl : o = o' := Option.some.inj (ho.symm.trans ho')
    clear hf hfo ho ho' hi
    have HF := Lib.hid (put8_blk (q := ⟨0, false, false, 0, 0, 0, 0, 0⟩) HR2.out o)
    have HBF := Lib.hid (put8_below HB2.out (show w.heap.size ≤ w.heap.size + 2 by omega) o)
    obtain ⟨wf, hwf⟩ : ∃ wf, wf = put8 w2 (w.heap.size + 2) o := ⟨_, rfl⟩
    rw [← hwf] at HF HBF
    simp only [put8] at hwf
    go_wp2_with fail
    rw [← hwf]
    clear hwf
    clear y0 y1 y2 y3 y4 y5 y6 y7 f0 f1 f2 f3 f4 f5 f6 f7
    refine bodyPost_ret (results_ct rfl _ _ (w.heap.size + 2) 37 (aggO o) (0, 0) _ rfl HF.out Try.underlying37 rfl (by kernel_rfl)) rfl ?_
    refine ⟨?_, HBF.out⟩
    rw [HFO.out]
    rfl
end Go.Proofs.Ytfikaekocgofoaa.PlF
namespace Go.Proofs.Ytfikaekocgofoaa.McW
open Go Go.RowKit Go.Proofs.YtfikaekocgofoaaW.PrintWords Go.Proofs.YtfikaekocgofoaaW.PrintLast Go.Proofs.YtfikaekocgofoaaW.PrintMore Mem PAll AtA AtB Dsc MayP ApP Fnd Roo Awk
open CrP hiding Od
def eqO (a b : Od) : Bool := (a.f0 == b.f0 && (a.f1 == b.f1 && (a.f2 == b.f2 && (a.f3 == b.f3 && (a.f4 == b.f4 && (a.f5 == b.f5 && (a.f6 == b.f6 && (a.f7 == b.f7))))))))
theorem eql_O (a b : Od) (W : World) : (binOp .eql 37 (.agg #[.int .i64 a.f0, .bool a.f1, .bool a.f2, .int .i64 a.f3, .int .i64 a.f4, .int .i64 a.f5, .int .i64 a.f6, .int .i64 a.f7]) (.agg #[.int .i64 b.f0, .bool b.f1, .bool b.f2, .int .i64 b.f3, .int .i64 b.f4, .int .i64 b.f5, .int .i64 b.f6, .int .i64 b.f7])).run Try.prog W = .ok (.bool (eqO a b)) W := by
  have h := fun d => eqA37 d W a.f0 b.f0 a.f1 b.f1 a.f2 b.f2 a.f3 b.f3 a.f4 b.f4 a.f5 b.f5 a.f6 b.f6 a.f7 b.f7
  unfold eqO
  go_simp
def within1 (a b : Int) : Bool := decide (1 ≤ a ∧ a ≤ b)
def mayC (kd : Int) (o : Od) : Bool :=
  if kd = 1 then osdB o
  else if kd = 2 then eqO o ⟨o.f0, false, false, 0, o.f4, o.f5, 0, 0⟩ && (winB o.f0 999 && (within1 o.f4 2147483647 && within1 o.f5 2147483647))
  else if kd = 6 then eqO o ⟨o.f0, false, false, o.f3, 0, 0, 0, 0⟩ && (winB o.f0 999 && winB o.f3 16777216)
  else if kd = 3 ∨ kd = 4 ∨ kd = 5 then eqO o ⟨o.f0, false, false, 0, 0, 0, 0, 0⟩ && winB o.f0 999
  else false
abbrev chA (kd : Int) (o : Od) : Array Value := #[.int .i64 kd, .int .i64 o.f0, .bool o.f1, .bool o.f2, .int .i64 o.f3, .int .i64 o.f4, .int .i64 o.f5, .int .i64 o.f6, .int .i64 o.f7]
theorem rwin_calls (a b : Int) (w : World) : Calls Try.prog 26 #[.int .i64 a, .int .i64 0, .int .i64 b] w fun e w' => e = .returned (.bool (winB a b)) ∧ Below w.heap.size w w' := by
  refine (mooringref13_within.calls a 0 b _ w (within_eq a b)).mono ?_
  rintro e w1 ⟨rfl, hd⟩
  exact ⟨rfl, hd.below⟩
theorem rwin1_calls (a b : Int) (w : World) : Calls Try.prog 26 #[.int .i64 a, .int .i64 1, .int .i64 b] w fun e w' => e = .returned (.bool (within1 a b)) ∧ Below w.heap.size w w' := by
  refine (mooringref13_within.calls a 1 b _ w (MayP.within1 a b)).mono ?_
  rintro e w1 ⟨rfl, hd⟩
  exact ⟨rfl, hd.below⟩
theorem rosd_calls (o : Od) (w : World) : Calls Try.prog 36 #[.agg #[.int .i64 o.f0, .bool o.f1, .bool o.f2, .int .i64 o.f3, .int .i64 o.f4, .int .i64 o.f5, .int .i64 o.f6, .int .i64 o.f7]] w fun e w' => e = .returned (.bool (osdB o)) ∧ Below w.heap.size w w' := mooringref13_Osd.calls o.f0 o.f1 o.f2 o.f3 o.f4 o.f5 o.f6 o.f7 _ w (osd_eq o)
set_option maxHeartbeats 8000000 in
set_option maxRecDepth 100000 in
theorem mayChange_calls (kd : Int) (o : Od) (w : World) : Calls Try.prog 27 #[.agg (chA kd o)] w fun e w' => e = .returned (.bool (mayC kd o)) ∧ Below w.heap.size w w' := by
  have HB1 := Lib.hid (below_alloc (below_alloc (Below.refl w.heap.size w) (.cells (chA kd o) 39)) (.cells (aggO ⟨o.f0, false, false, 0, 0, 0, 0, 0⟩) 37))
  have HC1 : Hid (((w.alloc (.cells (chA kd o) 39)).alloc (.cells (aggO ⟨o.f0, false, false, 0, 0, 0, 0, 0⟩) 37)).heap[w.heap.size]? = some (.cells (chA kd o) 39 (0, 0))) := Lib.hid (blk_below (blk_new _ _) (below_alloc (Below.refl _ _) _))
  have HO1 : Hid (((w.alloc (.cells (chA kd o) 39)).alloc (.cells (aggO ⟨o.f0, false, false, 0, 0, 0, 0, 0⟩) 37)).heap[w.heap.size + 1]? = some (.cells (aggO ⟨o.f0, false, false, 0, 0, 0, 0, 0⟩) 37 (0, 0))) := Lib.hid (by have h := blk_new (w.alloc (.cells (chA kd o) 39)) (.cells (aggO ⟨o.f0, false, false, 0, 0, 0, 0, 0⟩) 37); simp only [World.alloc, Array.size_push] at h ⊢; exact h)
  by_cases k1 : kd = 1
  · subst k1
    rw [show mayC 1 o = osdB o from rfl]
    have c0 := blk_cell HC1.out 0
    have c1 := blk_cell HC1.out 1
    have c2 := blk_cell HC1.out 2
    have c3 := blk_cell HC1.out 3
    have c4 := blk_cell HC1.out 4
    have c5 := blk_cell HC1.out 5
    have c6 := blk_cell HC1.out 6
    have c7 := blk_cell HC1.out 7
    have c8 := blk_cell HC1.out 8
    unfold chA at *
    go_enter Try.func27, Try.ntmps27
    go_wp2_with fail
    refine (rosd_calls o _).mono ?_
    rintro e w1 ⟨rfl, hb⟩
    have HB2 := Lib.hid (below_then HB1.out HB1.out.size hb)
    clear hb
    go_wp2_with fail
    go_ret
    exact ⟨rfl, HB2.out⟩
  by_cases k3 : kd = 3
  · clear k1
    subst k3
    rw [show mayC 3 o = (eqO o ⟨o.f0, false, false, 0, 0, 0, 0, 0⟩ && winB o.f0 999) from rfl]
    obtain ⟨q, hq⟩ : ∃ q, q = eqO o ⟨o.f0, false, false, 0, 0, 0, 0, 0⟩ := ⟨_, rfl⟩
    have hE := eql_O o ⟨o.f0, false, false, 0, 0, 0, 0, 0⟩
    rw [← hq] at hE ⊢
    clear hq
    obtain ⟨y0, y1, y2, y3, y4, y5, y6, y7⟩ := blkO HO1.out
    have c0 := blk_cell HC1.out 0
    have c1 := blk_cell HC1.out 1
    have c2 := blk_cell HC1.out 2
    have c3 := blk_cell HC1.out 3
    have c4 := blk_cell HC1.out 4
    have c5 := blk_cell HC1.out 5
    have c6 := blk_cell HC1.out 6
    have c7 := blk_cell HC1.out 7
    have c8 := blk_cell HC1.out 8
    unfold chA at *
    cases q with
    | false =>
      go_enter Try.func27, Try.ntmps27
      go_wp2_with fail
      go_ret
      exact ⟨rfl, HB1.out⟩
    | true =>
      go_enter Try.func27, Try.ntmps27
      go_wp2_with fail
      refine (rwin_calls _ _ _).mono ?_
      rintro e w1 ⟨rfl, hb⟩
      have HB2 := Lib.hid (below_then HB1.out HB1.out.size hb)
      clear hb
      go_wp2_with fail
      go_ret
      exact ⟨rfl, HB2.out⟩
  by_cases k4 : kd = 4
  · clear k1 k3
    subst k4
    rw [show mayC 4 o = (eqO o ⟨o.f0, false, false, 0, 0, 0, 0, 0⟩ && winB o.f0 999) from rfl]
    obtain ⟨q, hq⟩ : ∃ q, q = eqO o ⟨o.f0, false, false, 0, 0, 0, 0, 0⟩ := ⟨_, rfl⟩
    have hE := eql_O o ⟨o.f0, false, false, 0, 0, 0, 0, 0⟩
    rw [← hq] at hE ⊢
    clear hq
    obtain ⟨y0, y1, y2, y3, y4, y5, y6, y7⟩ := blkO HO1.out
    have c0 := blk_cell HC1.out 0
    have c1 := blk_cell HC1.out 1
    have c2 := blk_cell HC1.out 2
    have c3 := blk_cell HC1.out 3
    have c4 := blk_cell HC1.out 4
    have c5 := blk_cell HC1.out 5
    have c6 := blk_cell HC1.out 6
    have c7 := blk_cell HC1.out 7
    have c8 := blk_cell HC1.out 8
    unfold chA at *
    cases q with
    | false =>
      go_enter Try.func27, Try.ntmps27
      go_wp2_with fail
      go_ret
      exact ⟨rfl, HB1.out⟩
    | true =>
      go_enter Try.func27, Try.ntmps27
      go_wp2_with fail
      refine (rwin_calls _ _ _).mono ?_
      rintro e w1 ⟨rfl, hb⟩
      have HB2 := Lib.hid (below_then HB1.out HB1.out.size hb)
      clear hb
      go_wp2_with fail
      go_ret
      exact ⟨rfl, HB2.out⟩
  by_cases k5 : kd = 5
  · clear k1 k3 k4
    subst k5
    rw [show mayC 5 o = (eqO o ⟨o.f0, false, false, 0, 0, 0, 0, 0⟩ && winB o.f0 999) from rfl]
    obtain ⟨q, hq⟩ : ∃ q, q = eqO o ⟨o.f0, false, false, 0, 0, 0, 0, 0⟩ := ⟨_, rfl⟩
    have hE := eql_O o ⟨o.f0, false, false, 0, 0, 0, 0, 0⟩
    rw [← hq] at hE ⊢
    clear hq
    obtain ⟨y0, y1, y2, y3, y4, y5, y6, y7⟩ := blkO HO1.out
    have c0 := blk_cell HC1.out 0
    have c1 := blk_cell HC1.out 1
    have c2 := blk_cell HC1.out 2
    have c3 := blk_cell HC1.out 3
    have c4 := blk_cell HC1.out 4
    have c5 := blk_cell HC1.out 5
    have c6 := blk_cell HC1.out 6
    have c7 := blk_cell HC1.out 7
    have c8 := blk_cell HC1.out 8
    unfold chA at *
    cases q with
    | false =>
      go_enter Try.func27, Try.ntmps27
      go_wp2_with fail
      go_ret
      exact ⟨rfl, HB1.out⟩
    | true =>
      go_enter Try.func27, Try.ntmps27
      go_wp2_with fail
      refine (rwin_calls _ _ _).mono ?_
      rintro e w1 ⟨rfl, hb⟩
      have HB2 := Lib.hid (below_then HB1.out HB1.out.size hb)
      clear hb
      go_wp2_with fail
      go_ret
      exact ⟨rfl, HB2.out⟩
  by_cases k6 : kd = 6
  · clear k1 k3 k4 k5
    subst k6
    rw [show mayC 6 o = (eqO o ⟨o.f0, false, false, o.f3, 0, 0, 0, 0⟩ && (winB o.f0 999 && winB o.f3 16777216)) from rfl]
    obtain ⟨q, hq⟩ : ∃ q, q = eqO o ⟨o.f0, false, false, o.f3, 0, 0, 0, 0⟩ := ⟨_, rfl⟩
    have hE := eql_O o ⟨o.f0, false, false, o.f3, 0, 0, 0, 0⟩
    rw [← hq] at hE ⊢
    clear hq
    obtain ⟨y0, y1, y2, y3, y4, y5, y6, y7⟩ := blkO HO1.out
    have f3 := blk_frozen HO1.out 3
    have c0 := blk_cell HC1.out 0
    have c1 := blk_cell HC1.out 1
    have c2 := blk_cell HC1.out 2
    have c3 := blk_cell HC1.out 3
    have c4 := blk_cell HC1.out 4
    have c5 := blk_cell HC1.out 5
    have c6 := blk_cell HC1.out 6
    have c7 := blk_cell HC1.out 7
    have c8 := blk_cell HC1.out 8
    have HB2 := Lib.hid (below_alloc (below_alloc (Below.refl w.heap.size w) (.cells (chA 6 o) 39)) (.cells (aggO ⟨o.f0, false, false, o.f3, 0, 0, 0, 0⟩) 37))
    have HO2 : Hid (((w.alloc (.cells (chA 6 o) 39)).alloc (.cells (aggO ⟨o.f0, false, false, o.f3, 0, 0, 0, 0⟩) 37)).heap[w.heap.size + 1]? = some (.cells (aggO ⟨o.f0, false, false, o.f3, 0, 0, 0, 0⟩) 37 (0, 0))) := Lib.hid (by have h := blk_new (w.alloc (.cells (chA 6 o) 39)) (.cells (aggO ⟨o.f0, false, false, o.f3, 0, 0, 0, 0⟩) 37); simp only [World.alloc, Array.size_push] at h ⊢; exact h)
    obtain ⟨b0, hb0⟩ : ∃ b0, b0 = winB o.f0 999 := ⟨_, rfl⟩
    have T0 : Hid (∀ W, Calls Try.prog 26 #[.int .i64 o.f0, .int .i64 0, .int .i64 999] W fun e w' => e = .returned (.bool b0) ∧ Below W.heap.size W w') := Lib.hid (fun W => by rw [hb0]; exact rwin_calls _ _ W)
    rw [← hb0]
    clear hb0
    unfold chA at *
    cases q with
    | false =>
      go_enter Try.func27, Try.ntmps27
      go_wp2_with fail
      go_ret
      exact ⟨rfl, HB2.out⟩
    | true =>
      cases b0 with
      | false =>
        go_enter Try.func27, Try.ntmps27
        go_wp2_with fail
        refine (T0.out _).mono ?_
        rintro e w1 ⟨rfl, hb⟩
        have HB3 := Lib.hid (below_then HB2.out HB2.out.size hb)
        clear hb
        go_wp2_with fail
        go_ret
        exact ⟨rfl, HB3.out⟩
      | true =>
        go_enter Try.func27, Try.ntmps27
        go_wp2_with fail
        refine (T0.out _).mono ?_
        rintro e w1 ⟨rfl, hb⟩
        have HB3 := Lib.hid (below_then HB2.out HB2.out.size hb)
        have z3 := blk_cell (blk_below HO2.out hb) 3
        clear hb
        go_wp2_with fail
        refine (rwin_calls _ _ _).mono ?_
        rintro e w2 ⟨rfl, hb⟩
        have HB4 := Lib.hid (below_then HB3.out HB3.out.size hb)
        clear hb
        go_wp2_with fail
        go_ret
        exact ⟨rfl, HB4.out⟩
  by_cases k2 : kd = 2
  · clear k1 k3 k4 k5 k6
    subst k2
    rw [show mayC 2 o = (eqO o ⟨o.f0, false, false, 0, o.f4, o.f5, 0, 0⟩ && (winB o.f0 999 && (within1 o.f4 2147483647 && within1 o.f5 2147483647))) from rfl]
    obtain ⟨q, hq⟩ : ∃ q, q = eqO o ⟨o.f0, false, false, 0, o.f4, o.f5, 0, 0⟩ := ⟨_, rfl⟩
    have hE := eql_O o ⟨o.f0, false, false, 0, o.f4, o.f5, 0, 0⟩
    rw [← hq] at hE ⊢
    clear hq
    obtain ⟨y0, y1, y2, y3, y4, y5, y6, y7⟩ := blkO HO1.out
    have f4 := blk_frozen HO1.out 4
    have f5 := blk_frozen HO1.out 5
    have c0 := blk_cell HC1.out 0
    have c1 := blk_cell HC1.out 1
    have c2 := blk_cell HC1.out 2
    have c3 := blk_cell HC1.out 3
    have c4 := blk_cell HC1.out 4
    have c5 := blk_cell HC1.out 5
    have c6 := blk_cell HC1.out 6
    have c7 := blk_cell HC1.out 7
    have c8 := blk_cell HC1.out 8
    have HB2 := Lib.hid (below_alloc (below_alloc (Below.refl w.heap.size w) (.cells (chA 2 o) 39)) (.cells (aggO ⟨o.f0, false, false, 0, o.f4, o.f5, 0, 0⟩) 37))
    have HC2 : Hid (((w.alloc (.cells (chA 2 o) 39)).alloc (.cells (aggO ⟨o.f0, false, false, 0, o.f4, o.f5, 0, 0⟩) 37)).heap[w.heap.size]? = some (.cells (chA 2 o) 39 (0, 0))) := Lib.hid (blk_below (blk_new _ _) (below_alloc (Below.refl _ _) _))
    have HO2 : Hid (((w.alloc (.cells (chA 2 o) 39)).alloc (.cells (aggO ⟨o.f0, false, false, 0, o.f4, o.f5, 0, 0⟩) 37)).heap[w.heap.size + 1]? = some (.cells (aggO ⟨o.f0, false, false, 0, o.f4, o.f5, 0, 0⟩) 37 (0, 0))) := Lib.hid (by have h := blk_new (w.alloc (.cells (chA 2 o) 39)) (.cells (aggO ⟨o.f0, false, false, 0, o.f4, o.f5, 0, 0⟩) 37); simp only [World.alloc, Array.size_push] at h ⊢; exact h)
    obtain ⟨b0, hb0⟩ : ∃ b0, b0 = winB o.f0 999 := ⟨_, rfl⟩
    obtain ⟨b4, hb4⟩ : ∃ b4, b4 = within1 o.f4 2147483647 := ⟨_, rfl⟩
    have T0 : Hid (∀ W, Calls Try.prog 26 #[.int .i64 o.f0, .int .i64 0, .int .i64 999] W fun e w' => e = .returned (.bool b0) ∧ Below W.heap.size W w') := Lib.hid (fun W => by rw [hb0]; exact rwin_calls _ _ W)
    have T4 : Hid (∀ W, Calls Try.prog 26 #[.int .i64 o.f4, .int .i64 1, .int .i64 2147483647] W fun e w' => e = .returned (.bool b4) ∧ Below W.heap.size W w') := Lib.hid (fun W => by rw [hb4]; exact rwin1_calls _ _ W)
    have T5 : Hid (∀ W, Calls Try.prog 26 #[.int .i64 o.f5, .int .i64 1, .int .i64 2147483647] W fun e w' => e = .returned (.bool (within1 o.f5 2147483647)) ∧ Below W.heap.size W w') := Lib.hid (fun W => rwin1_calls _ _ W)
    rw [← hb0, ← hb4]
    clear hb0 hb4
    unfold chA at c0 c1 c2 c3 c4 c5 c6 c7 c8 HB1 HO1 HC1 y0 y1 y2 y3 y4 y5 y6 y7 ⊢
    cases q with
    | false =>
      go_enter Try.func27, Try.ntmps27
      go_wp2_with fail
      go_region
      obtain ⟨wz, hwz⟩ : ∃ wz, wz = ((w.alloc (.cells (chA 2 o) 39)).alloc (.cells (aggO ⟨o.f0, false, false, 0, o.f4, o.f5, 0, 0⟩) 37)).drew := ⟨_, rfl⟩
      have HWZ := Lib.hid hwz
      have HO3 : Hid (wz.heap[w.heap.size + 1]? = some (.cells (aggO ⟨o.f0, false, false, 0, o.f4, o.f5, 0, 0⟩) 37 (0, 0))) := Lib.hid (by rw [hwz]; exact HO2.out)
      have HC3 : Hid (wz.heap[w.heap.size]? = some (.cells (chA 2 o) 39 (0, 0))) := Lib.hid (by rw [hwz]; exact HC2.out)
      have HB3 : Hid (Below w.heap.size w wz) := Lib.hid (by rw [hwz]; exact below_drew HB2.out)
      unfold chA at HWZ HC3
      rw [← HWZ.out]
      clear hwz
      clear c0 c1 c2 c3 c4 c5 c6 c7 c8 y0 y1 y2 y3 y4 y5 y6 y7 f4 f5
      obtain ⟨y0, y1, y2, y3, y4, y5, y6, y7⟩ := blkO HO3.out
      have c0 := blk_cell HC3.out 0
      have c1 := blk_cell HC3.out 1
      have c2 := blk_cell HC3.out 2
      have c3 := blk_cell HC3.out 3
      have c4 := blk_cell HC3.out 4
      have c5 := blk_cell HC3.out 5
      have c6 := blk_cell HC3.out 6
      have c7 := blk_cell HC3.out 7
      have c8 := blk_cell HC3.out 8
      go_wp2_with fail
      go_ret
      exact ⟨rfl, HB3.out⟩
    | true =>
      cases b0 with
      | false =>
        go_enter Try.func27, Try.ntmps27
        go_wp2_with fail
        go_region
        obtain ⟨wz, hwz⟩ : ∃ wz, wz = ((w.alloc (.cells (chA 2 o) 39)).alloc (.cells (aggO ⟨o.f0, false, false, 0, o.f4, o.f5, 0, 0⟩) 37)).drew := ⟨_, rfl⟩
        have HWZ := Lib.hid hwz
        have HO3 : Hid (wz.heap[w.heap.size + 1]? = some (.cells (aggO ⟨o.f0, false, false, 0, o.f4, o.f5, 0, 0⟩) 37 (0, 0))) := Lib.hid (by rw [hwz]; exact HO2.out)
        have HC3 : Hid (wz.heap[w.heap.size]? = some (.cells (chA 2 o) 39 (0, 0))) := Lib.hid (by rw [hwz]; exact HC2.out)
        have HB3 : Hid (Below w.heap.size w wz) := Lib.hid (by rw [hwz]; exact below_drew HB2.out)
        unfold chA at HWZ HC3
        rw [← HWZ.out]
        clear hwz
        clear c0 c1 c2 c3 c4 c5 c6 c7 c8 y0 y1 y2 y3 y4 y5 y6 y7 f4 f5
        obtain ⟨y0, y1, y2, y3, y4, y5, y6, y7⟩ := blkO HO3.out
        have c0 := blk_cell HC3.out 0
        have c1 := blk_cell HC3.out 1
        have c2 := blk_cell HC3.out 2
        have c3 := blk_cell HC3.out 3
        have c4 := blk_cell HC3.out 4
        have c5 := blk_cell HC3.out 5
        have c6 := blk_cell HC3.out 6
        have c7 := blk_cell HC3.out 7
        have c8 := blk_cell HC3.out 8
        go_wp2_with fail
        refine (T0.out _).mono ?_
        rintro e w4 ⟨rfl, hb⟩
        have HB4 := Lib.hid (below_then HB3.out HB3.out.size hb)
        clear hb
        go_wp2_with fail
        go_ret
        exact ⟨rfl, HB4.out⟩
      | true =>
        cases b4 with
        | false =>
          go_enter Try.func27, Try.ntmps27
          go_wp2_with fail
          go_region
          obtain ⟨wz, hwz⟩ : ∃ wz, wz = ((w.alloc (.cells (chA 2 o) 39)).alloc (.cells (aggO ⟨o.f0, false, false, 0, o.f4, o.f5, 0, 0⟩) 37)).drew := ⟨_, rfl⟩
          have HWZ := Lib.hid hwz
          have HO3 : Hid (wz.heap[w.heap.size + 1]? = some (.cells (aggO ⟨o.f0, false, false, 0, o.f4, o.f5, 0, 0⟩) 37 (0, 0))) := Lib.hid (by rw [hwz]; exact HO2.out)
          have HC3 : Hid (wz.heap[w.heap.size]? = some (.cells (chA 2 o) 39 (0, 0))) := Lib.hid (by rw [hwz]; exact HC2.out)
          have HB3 : Hid (Below w.heap.size w wz) := Lib.hid (by rw [hwz]; exact below_drew HB2.out)
          unfold chA at HWZ HC3
          rw [← HWZ.out]
          clear hwz
          clear c0 c1 c2 c3 c4 c5 c6 c7 c8 y0 y1 y2 y3 y4 y5 y6 y7 f4 f5
          obtain ⟨y0, y1, y2, y3, y4, y5, y6, y7⟩ := blkO HO3.out
          have c0 := blk_cell HC3.out 0
          have c1 := blk_cell HC3.out 1
          have c2 := blk_cell HC3.out 2
          have c3 := blk_cell HC3.out 3
          have c4 := blk_cell HC3.out 4
          have c5 := blk_cell HC3.out 5
          have c6 := blk_cell HC3.out 6
          have c7 := blk_cell HC3.out 7
          have c8 := blk_cell HC3.out 8
          go_wp2_with fail
          refine (T0.out _).mono ?_
          rintro e w4 ⟨rfl, hb⟩
          have HB4 := Lib.hid (below_then HB3.out HB3.out.size hb)
          have z4 := blk_cell (blk_below HO3.out hb) 4
          have HO4 := Lib.hid (blk_below HO3.out hb)
          clear hb
          go_wp2_with fail
          refine (T4.out _).mono ?_
          rintro e w5 ⟨rfl, hb⟩
          have HB5 := Lib.hid (below_then HB4.out HB4.out.size hb)
          clear hb
          go_wp2_with fail
          go_ret
          exact ⟨rfl, HB5.out⟩
        | true =>
          go_enter Try.func27, Try.ntmps27
          go_wp2_with fail
          go_region
          obtain ⟨wz, hwz⟩ : ∃ wz, wz = ((w.alloc (.cells (chA 2 o) 39)).alloc (.cells (aggO ⟨o.f0, false, false, 0, o.f4, o.f5, 0, 0⟩) 37)).drew := ⟨_, rfl⟩
          have HWZ := Lib.hid hwz
          have HO3 : Hid (wz.heap[w.heap.size + 1]? = some (.cells (aggO ⟨o.f0, false, false, 0, o.f4, o.f5, 0, 0⟩) 37 (0, 0))) := Lib.hid (by rw [hwz]; exact HO2.out)
          have HC3 : Hid (wz.heap[w.heap.size]? = some (.cells (chA 2 o) 39 (0, 0))) := Lib.hid (by rw [hwz]; exact HC2.out)
          have HB3 : Hid (Below w.heap.size w wz) := Lib.hid (by rw [hwz]; exact below_drew HB2.out)
          unfold chA at HWZ HC3
          rw [← HWZ.out]
          clear hwz
          clear c0 c1 c2 c3 c4 c5 c6 c7 c8 y0 y1 y2 y3 y4 y5 y6 y7 f4 f5
          obtain ⟨y0, y1, y2, y3, y4, y5, y6, y7⟩ := blkO HO3.out
          have c0 := blk_cell HC3.out 0
          have c1 := blk_cell HC3.out 1
          have c2 := blk_cell HC3.out 2
          have c3 := blk_cell HC3.out 3
          have c4 := blk_cell HC3.out 4
          have c5 := blk_cell HC3.out 5
          have c6 := blk_cell HC3.out 6
          have c7 := blk_cell HC3.out 7
          have c8 := blk_cell HC3.out 8
          go_wp2_with fail
          refine (T0.out _).mono ?_
          rintro e w4 ⟨rfl, hb⟩
          have HB4 := Lib.hid (below_then HB3.out HB3.out.size hb)
          have z4 := blk_cell (blk_below HO3.out hb) 4
          have HO4 := Lib.hid (blk_below HO3.out hb)
          clear hb
          go_wp2_with fail
          refine (T4.out _).mono ?_
          rintro e w5 ⟨rfl, hb⟩
          have HB5 := Lib.hid (below_then HB4.out HB4.out.size hb)
          have z5 := blk_cell (blk_below HO4.out hb) 5
          clear hb
          go_wp2_with fail
          refine (T5.out _).mono ?_
          rintro e w6 ⟨rfl, hb⟩
          have HB6 := Lib.hid (below_then HB5.out HB5.out.size hb)
          clear hb
          go_wp2_with fail
          go_ret
          exact ⟨rfl, HB6.out⟩
  · have b1 : (kd == 1) = false := beq_eq_false_iff_ne.2 k1
    have b2 : (kd == 2) = false := beq_eq_false_iff_ne.2 k2
    have b3 : (kd == 3) = false := beq_eq_false_iff_ne.2 k3
    have b4 : (kd == 4) = false := beq_eq_false_iff_ne.2 k4
    have b5 : (kd == 5) = false := beq_eq_false_iff_ne.2 k5
    have b6 : (kd == 6) = false := beq_eq_false_iff_ne.2 k6
    have e : mayC kd o = false := by
      unfold mayC
      rw [if_neg k1, if_neg k2, if_neg k6, if_neg (by rintro (h | h | h); exact k3 h; exact k4 h; exact k5 h)]
    rw [e]
    clear e k1 k2 k3 k4 k5 k6
    have c0 := blk_cell HC1.out 0
    have c1 := blk_cell HC1.out 1
    have c2 := blk_cell HC1.out 2
    have c3 := blk_cell HC1.out 3
    have c4 := blk_cell HC1.out 4
    have c5 := blk_cell HC1.out 5
    have c6 := blk_cell HC1.out 6
    have c7 := blk_cell HC1.out 7
    have c8 := blk_cell HC1.out 8
    unfold chA at *
    go_enter Try.func27, Try.ntmps27
    go_wp2_with fail
    go_ret
    exact ⟨rfl, HB1.out⟩
end Go.Proofs.Ytfikaekocgofoaa.McW
set_option linter.unusedSimpArgs false
namespace Go.Proofs.Ytfikaekocgofoaa.ApY
open Go Go.RowKit Go.Proofs.YtfikaekocgofoaaW.PrintWords Go.Proofs.YtfikaekocgofoaaW.PrintLast Go.Proofs.YtfikaekocgofoaaW.PrintMore Mem PAll KW MixP MixW StrP AtA Srt Grp Sl Dsc AtB Roo Cho MayP Awk ApP Fnd McW
open CrP hiding Od
abbrev zM : Array Value := #[.int .i64 0, .int .i64 0, .int .i64 0, .int .i64 0, .int .i64 0, .slice none 0 0]
/-- One more, in its place. -/
def insA (o : Od) : List Od → List Od
  | [] => [o]
  | x :: r => if o.f0 < x.f0 then o :: x :: r else x :: insA o r
def chg (kd : Int) (o c : Od) : Od := if kd = 2 then { o with f1 := true, f4 := c.f4, f5 := c.f5 } else if kd = 3 then { o with f1 := false } else if kd = 4 then { o with f2 := true } else if kd = 5 then { o with f2 := false } else { o with f3 := c.f3 }
def setO (l : List Od) (id : Int) (o' : Od) : List Od := l.map fun x => if x.f0 = id then o' else x
/-- The map behind a change: its OSDs; or why there is none. -/
noncomputable def applyR (ep k m p d : Int) (l : List Od) (kd : Int) (c : Od) : Int × List Od :=
  if (mayB ep k m p d l && (mayC kd c && !(ep == 1048576))) = false then (1, [])
  else if kd = 1 then (if (findO l c.f0).isSome = true then (6, []) else if 64 ≤ l.length then (2, []) else if mayB (ep + 1) k m p d (insA c l) = true then (0, insA c l) else (1, []))
  else match findO l c.f0 with
    | none => (4, [])
    | some o => if eqO (chg kd o c) o = true then (6, []) else (0, setO l c.f0 (chg kd o c))
theorem grown_set (W : World) (b j : Nat) (v : Value) : W.grownBy (W.setCell ⟨b, j, none⟩ v) (some b) :=
  ⟨rfl, rfl, rfl, (by simp [World.setCell]), fun k _ hk => Below.heap_setCell _ _ _ k (fun e => hk (by rw [e]))⟩
end Go.Proofs.Ytfikaekocgofoaa.ApY
set_option linter.unusedSimpArgs false
namespace Go.Proofs.Ytfikaekocgofoaa.ApZ
open Go Go.RowKit Go.Proofs.YtfikaekocgofoaaW.PrintWords Go.Proofs.YtfikaekocgofoaaW.PrintLast Go.Proofs.YtfikaekocgofoaaW.PrintMore Mem PAll KW MixP MixW StrP AtA Srt Grp Sl Dsc AtB Roo Cho MayP Awk ApP Fnd McW ApY Ups
open CrP hiding Od
end Go.Proofs.Ytfikaekocgofoaa.ApZ
namespace Go.Proofs.Ytfikaekocgofoaa.ApW
open Go Go.RowKit Go.Proofs.YtfikaekocgofoaaW.PrintWords Mem PAll KW MixP MixW StrP AtA Srt Grp Sl Dsc AtB Roo Cho MayP Awk ApP Fnd McW ApY ApZ
open CrP hiding Od
theorem chg_f (kd : Int) (q o : Od) : (chg kd q o).f0 = q.f0 ∧ (chg kd q o).f6 = q.f6 ∧ (chg kd q o).f7 = q.f7 := by
  unfold chg
  split
  · exact ⟨rfl, rfl, rfl⟩
  · split
    · exact ⟨rfl, rfl, rfl⟩
    · split
      · exact ⟨rfl, rfl, rfl⟩
      · split
        · exact ⟨rfl, rfl, rfl⟩
        · exact ⟨rfl, rfl, rfl⟩
theorem within1_iff {a b : Int} : McW.within1 a b = true ↔ 1 ≤ a ∧ a ≤ b := by unfold McW.within1; exact decide_eq_true_iff
theorem kinds {kd : Int} {o : Od} (h : mayC kd o = true) : kd = 1 ∨ kd = 2 ∨ kd = 3 ∨ kd = 4 ∨ kd = 5 ∨ kd = 6 := by
  unfold mayC at h
  by_cases h1 : kd = 1
  · exact .inl h1
  by_cases h2 : kd = 2
  · exact .inr (.inl h2)
  by_cases h6 : kd = 6
  · exact .inr (.inr (.inr (.inr (.inr h6))))
  by_cases h3 : kd = 3 ∨ kd = 4 ∨ kd = 5
  · rcases h3 with h3 | h3 | h3
    · exact .inr (.inr (.inl h3))
    · exact .inr (.inr (.inr (.inl h3)))
    · exact .inr (.inr (.inr (.inr (.inl h3))))
  · rw [if_neg h1, if_neg h2, if_neg h6, if_neg h3] at h
    cases h
theorem osdB_chg {kd : Int} {q o : Od} (hq : osdB q = true) (hc : mayC kd o = true) (h1 : kd ≠ 1) : osdB (chg kd q o) = true := by
  rcases kinds hc with rfl | rfl | rfl | rfl | rfl | rfl
  · exact absurd rfl h1
  · have hc2 : (eqO o ⟨o.f0, false, false, 0, o.f4, o.f5, 0, 0⟩ && (winB o.f0 999 && (McW.within1 o.f4 2147483647 && McW.within1 o.f5 2147483647))) = true := hc
    simp only [Bool.and_eq_true, within1_iff] at hc2
    show osdB { q with f1 := true, f4 := o.f4, f5 := o.f5 } = true
    unfold osdB winB at *
    simp only [Bool.and_eq_true, decide_eq_true_eq, Bool.or_eq_true, Bool.not_eq_true'] at hq ⊢
    refine ⟨hq.1, hq.2.1, hq.2.2.1, hq.2.2.2.1, ⟨by omega, by omega⟩, ⟨by omega, by omega⟩, .inr ⟨by omega, by omega⟩⟩
  · show osdB { q with f1 := false } = true
    unfold osdB at *
    simp only [Bool.and_eq_true, Bool.not_false, Bool.true_or, and_true] at hq ⊢
    exact ⟨hq.1, hq.2.1, hq.2.2.1, hq.2.2.2.1, hq.2.2.2.2.1, hq.2.2.2.2.2.1⟩
  · exact hq
  · exact hq
  · have hc2 : (eqO o ⟨o.f0, false, false, o.f3, 0, 0, 0, 0⟩ && (winB o.f0 999 && winB o.f3 16777216)) = true := hc
    simp only [Bool.and_eq_true] at hc2
    show osdB { q with f3 := o.f3 } = true
    unfold osdB at *
    simp only [Bool.and_eq_true] at hq ⊢
    exact ⟨hq.1, hq.2.1, hq.2.2.1, hc2.2.2, hq.2.2.2.2⟩
theorem good_set {l : List Od} {j : Nat} {q q' : Od} (h : AtA.Good l l.length) (hj : l[j]? = some q) (ho : osdB q' = true) (e0 : q'.f0 = q.f0) (e6 : q'.f6 = q.f6) (e7 : q'.f7 = q.f7) : AtA.Good (l.set j q') (l.set j q').length := by
  have hjl := (List.getElem?_eq_some_iff.1 hj).1
  have key : ∀ (k : Nat) (o : Od), (l.set j q')[k]? = some o → ∃ o', l[k]? = some o' ∧ o.f0 = o'.f0 ∧ o.f6 = o'.f6 ∧ o.f7 = o'.f7 ∧ (osdB o' = true → osdB o = true) := by
    intro k o hk
    by_cases e : j = k
    · subst e
      rw [List.getElem?_set_self hjl] at hk
      obtain rfl := Option.some.inj hk
      exact ⟨q, hj, e0, e6, e7, fun _ => ho⟩
    · rw [List.getElem?_set_ne e] at hk
      exact ⟨o, hk, rfl, rfl, rfl, id⟩
  intro k o hk hko
  rw [List.length_set] at hk
  obtain ⟨o', h1, a0, a6, a7, ab⟩ := key k o hko
  obtain ⟨g1, g2⟩ := h k o' hk h1
  refine ⟨ab g1, fun i p hi hp => ?_⟩
  obtain ⟨p', p1, c0, c6, c7, _⟩ := key i p hp
  have := g2 i p' hi p1
  rw [a0, a6, a7, c0, c6, c7]
  exact this
theorem may_ep {ep k m p d : Int} {l : List Od} (h : mayB ep k m p d l = true) : 0 ≤ ep ∧ ep ≤ 1048576 := by
  unfold mayB winB at h
  simp only [Bool.and_eq_true, decide_eq_true_eq] at h
  omega
theorem may_next {ep k m p d : Int} {l : List Od} (h : mayB ep k m p d l = true) (hep : (ep == 1048576) = false) {l' : List Od} (hl : l'.length ≤ 64) (hg : goodB l' = true) : mayB (ep + 1) k m p d l' = true := by
  have h1 := may_ep h
  have h2 : ep ≠ 1048576 := fun e => by rw [e] at hep; cases hep
  unfold mayB winB at h ⊢
  simp only [Bool.and_eq_true, decide_eq_true_eq] at h ⊢
  exact ⟨by omega, h.2.1, hl, hg⟩
theorem may_set {ep k m p d : Int} {l : List Od} {kd : Int} {o q : Od} {j : Nat} (h : mayB ep k m p d l = true) (hep : (ep == 1048576) = false) (hc : mayC kd o = true) (h1 : kd ≠ 1) (hj : l[j]? = some q) : mayB (ep + 1) k m p d (l.set j (chg kd q o)) = true := by
  obtain ⟨g1, g2⟩ := may_good h
  obtain ⟨e0, e6, e7⟩ := chg_f kd q o
  refine may_next h hep (by rw [List.length_set]; exact g1) (goodB_yes (good_set (goodB_iff.1 g2) hj (osdB_chg (may_osd h q (List.mem_of_getElem? hj)) hc h1) e0 e6 e7))
end Go.Proofs.Ytfikaekocgofoaa.ApW
/- An OSD's numbers behind bytes: the program's putOsd and the document's. -/
set_option linter.unusedSimpArgs false
namespace Go.Proofs.Ytfikaekocgofoaa.Puo
open Go Go.RowKit Go.Proofs.YtfikaekocgofoaaW.PrintWords Go.Proofs.YtfikaekocgofoaaW.PrintLast Go.Proofs.YtfikaekocgofoaaW.PrintMore Mem PAll WireP UvW Put AtA
open CrP hiding Od
/-- 1 or 0. -/
def b2i (b : Bool) : Int := if b then 1 else 0
/-- An OSD's numbers. -/
abbrev osdL (o : Od) : List Int := [o.f0, b2i o.f1, b2i o.f2, o.f3, o.f4, o.f5, o.f6, o.f7]
theorem rbit_calls (b : Bool) (w : World) : Calls Try.prog 79 #[.bool b] w fun e w' => e = .returned (.int .i64 (b2i b)) ∧ Below w.heap.size w w' := by
  have HB := Lib.hid (Below.refl w.heap.size w)
  cases b
  · go_enter Try.func79, Try.ntmps79
    go_wp2_with fail
    go_ret
    exact ⟨rfl, HB.out⟩
  · go_enter Try.func79, Try.ntmps79
    go_wp2_with fail
    go_ret
    exact ⟨rfl, HB.out⟩
set_option maxHeartbeats 8000000 in
set_option maxRecDepth 100000 in
theorem rputOsd_calls (w0 : World) (base : Nat) (v : Value) (xs : List Int) (o : Od) (w : World) (hx : Ow .u8 5 w base v xs) (hb : Below base w0 w) (hbase : base ≤ w.heap.size) (hg : Nat63 (osdL o)) (hl : xs.length + 100 ≤ 140737488355328) :
    Calls Try.prog 48 #[v, .agg (aggO o)] w fun e w' => ∃ v', e = .returned v' ∧ Ow .u8 5 w' base v' (xs ++ uvs (osdL o)) ∧ Below base w0 w' := by
  have HX := Lib.hid hx
  have HB0 := Lib.hid hb
  have HBS := Lib.hid hbase
  have HG := Lib.hid hg
  have HL := Lib.hid hl
  have HB1 := Lib.hid (below_alloc (Below.refl w.heap.size w) (.cells (aggO o) 37))
  have HO1 : Hid ((w.alloc (.cells (aggO o) 37)).heap[w.heap.size]? = some (.cells (aggO o) 37 (0, 0))) := Lib.hid (blk_new _ _)
  obtain ⟨w1, hw1⟩ : ∃ w1, w1 = w.alloc (.cells (aggO o) 37) := ⟨_, rfl⟩
  have HWN := Lib.hid hw1
  rw [← hw1] at HB1 HO1
  obtain ⟨y0, y1, y2, y3, y4, y5, y6, y7⟩ := blkO HO1.out
  clear hw1 hg hl hx hb hbase
  go_enter Try.func48, Try.ntmps48
  go_wp2_with fail
  rw [← HWN.out]
  clear HWN
  have hB0 := Lib.hid (below_drew (Below.refl w1.heap.size w1))
  refine start_ (n := 22) (S := fun w' => Below w1.heap.size w1 w') (ds := [20]) #[false, false, false, false, false, false, false, false, false, false, false, false, false, false, false, false, false, false, false, false, false, false] (by kernel_rfl) rfl rfl hB0.out (fun hHeld => ?_)
  generalize w1.drew = wd at hB0 hHeld ⊢
  refine pure_ (i := 0) (N := some 5) (v := ?_) (a' := ?_) #[true, false, false, false, false, false, false, false, false, false, false, false, false, false, false, false, false, false, false, false, false, false] rfl rfl (by kernel_rfl) (fun _ _ _ h => h) (Or.inl ⟨by rfl, ?_⟩) ?_ ?_
  rotate_left
  · intro w'
    go_simp
    with_reducible rfl
  rotate_left
  · simp only [Act.put, List.setIfInBounds_toArray, List.set_cons_zero, List.set_cons_succ, i64_w, i32_w]
    rfl
  refine pure_ (i := 1) (N := some 6) (v := ?_) (a' := ?_) #[true, true, false, false, false, false, false, false, false, false, false, false, false, false, false, false, false, false, false, false, false, false] rfl rfl (by kernel_rfl) (fun _ _ _ h => h) (Or.inl ⟨by rfl, ?_⟩) ?_ ?_
  rotate_left
  · intro w'
    go_simp
    with_reducible rfl
  rotate_left
  · simp only [Act.put, List.setIfInBounds_toArray, List.set_cons_zero, List.set_cons_succ, i64_w, i32_w]
    rfl
  refine pure_ (i := 3) (N := some 8) (v := ?_) (a' := ?_) #[true, true, false, true, false, false, false, false, false, false, false, false, false, false, false, false, false, false, false, false, false, false] rfl rfl (by kernel_rfl) (fun _ _ _ h => h) (Or.inl ⟨by rfl, ?_⟩) ?_ ?_
  rotate_left
  · intro w'
    go_simp
    with_reducible rfl
  rotate_left
  · simp only [Act.put, List.setIfInBounds_toArray, List.set_cons_zero, List.set_cons_succ, i64_w, i32_w]
    rfl
  refine pure_ (i := 6) (N := some 11) (v := ?_) (a' := ?_) #[true, true, false, true, false, false, true, false, false, false, false, false, false, false, false, false, false, false, false, false, false, false] rfl rfl (by kernel_rfl) (fun _ _ _ h => h) (Or.inl ⟨by rfl, ?_⟩) ?_ ?_
  rotate_left
  · intro w'
    go_simp
    with_reducible rfl
  rotate_left
  · simp only [Act.put, List.setIfInBounds_toArray, List.set_cons_zero, List.set_cons_succ, i64_w, i32_w]
    rfl
  refine pure_ (i := 9) (N := some 14) (v := ?_) (a' := ?_) #[true, true, false, true, false, false, true, false, false, true, false, false, false, false, false, false, false, false, false, false, false, false] rfl rfl (by kernel_rfl) (fun _ _ _ h => h) (Or.inl ⟨by rfl, ?_⟩) ?_ ?_
  rotate_left
  · intro w'
    go_simp
    with_reducible rfl
  rotate_left
  · simp only [Act.put, List.setIfInBounds_toArray, List.set_cons_zero, List.set_cons_succ, i64_w, i32_w]
    rfl
  refine pure_ (i := 11) (N := some 16) (v := ?_) (a' := ?_) #[true, true, false, true, false, false, true, false, false, true, false, true, false, false, false, false, false, false, false, false, false, false] rfl rfl (by kernel_rfl) (fun _ _ _ h => h) (Or.inl ⟨by rfl, ?_⟩) ?_ ?_
  rotate_left
  · intro w'
    go_simp
    with_reducible rfl
  rotate_left
  · simp only [Act.put, List.setIfInBounds_toArray, List.set_cons_zero, List.set_cons_succ, i64_w, i32_w]
    rfl
  refine pure_ (i := 13) (N := some 18) (v := ?_) (a' := ?_) #[true, true, false, true, false, false, true, false, false, true, false, true, false, true, false, false, false, false, false, false, false, false] rfl rfl (by kernel_rfl) (fun _ _ _ h => h) (Or.inl ⟨by rfl, ?_⟩) ?_ ?_
  rotate_left
  · intro w'
    go_simp
    with_reducible rfl
  rotate_left
  · simp only [Act.put, List.setIfInBounds_toArray, List.set_cons_zero, List.set_cons_succ, i64_w, i32_w]
    rfl
  refine pure_ (i := 15) (N := some 20) (v := ?_) (a' := ?_) #[true, true, false, true, false, false, true, false, false, true, false, true, false, true, false, true, false, false, false, false, false, false] rfl rfl (by kernel_rfl) (fun _ _ _ h => h) (Or.inl ⟨by rfl, ?_⟩) ?_ ?_
  rotate_left
  · intro w'
    go_simp
    with_reducible rfl
  rotate_left
  · simp only [Act.put, List.setIfInBounds_toArray, List.set_cons_zero, List.set_cons_succ, i64_w, i32_w]
    rfl
  refine pure_ (i := 17) (N := some 22) (v := ?_) (a' := ?_) #[true, true, false, true, false, false, true, false, false, true, false, true, false, true, false, true, false, true, false, false, false, false] rfl rfl (by kernel_rfl) (fun _ _ _ h => h) (Or.inl ⟨by rfl, ?_⟩) ?_ ?_
  rotate_left
  · intro w'
    go_simp
    with_reducible rfl
  rotate_left
  · simp only [Act.put, List.setIfInBounds_toArray, List.set_cons_zero, List.set_cons_succ, i64_w, i32_w]
    rfl
  refine take_ (i := 2) (N := some 7) (v := ?_) (a' := ?_) #[true, true, true, true, false, false, true, false, false, true, false, true, false, true, false, true, false, true, false, false, false, false] rfl rfl (by kernel_rfl) (fun _ _ _ h => h) (Or.inl ⟨by rfl, ?_⟩) hHeld ?_ ?_
  rotate_left
  · rintro w' hS
    have c0 := (hS.cell (World.block_lt_of_cell? _ _ y0)).trans y0
    go_simp
    with_reducible rfl
  rotate_left
  · simp only [Act.put, List.setIfInBounds_toArray, List.set_cons_zero, List.set_cons_succ, i64_w, i32_w]
    rfl
  refine take_ (i := 4) (N := some 9) (v := ?_) (a' := ?_) #[true, true, true, true, true, false, true, false, false, true, false, true, false, true, false, true, false, true, false, false, false, false] rfl rfl (by kernel_rfl) (fun _ _ _ h => h) (Or.inl ⟨by rfl, ?_⟩) hHeld ?_ ?_
  rotate_left
  · rintro w' hS
    have c1 := (hS.cell (World.block_lt_of_cell? _ _ y1)).trans y1
    go_simp
    with_reducible rfl
  rotate_left
  · simp only [Act.put, List.setIfInBounds_toArray, List.set_cons_zero, List.set_cons_succ, i64_w, i32_w]
    rfl
  refine take_ (i := 7) (N := some 12) (v := ?_) (a' := ?_) #[true, true, true, true, true, false, true, true, false, true, false, true, false, true, false, true, false, true, false, false, false, false] rfl rfl (by kernel_rfl) (fun _ _ _ h => h) (Or.inl ⟨by rfl, ?_⟩) hHeld ?_ ?_
  rotate_left
  · rintro w' hS
    have c2 := (hS.cell (World.block_lt_of_cell? _ _ y2)).trans y2
    go_simp
    with_reducible rfl
  rotate_left
  · simp only [Act.put, List.setIfInBounds_toArray, List.set_cons_zero, List.set_cons_succ, i64_w, i32_w]
    rfl
  refine take_ (i := 10) (N := some 15) (v := ?_) (a' := ?_) #[true, true, true, true, true, false, true, true, false, true, true, true, false, true, false, true, false, true, false, false, false, false] rfl rfl (by kernel_rfl) (fun _ _ _ h => h) (Or.inl ⟨by rfl, ?_⟩) hHeld ?_ ?_
  rotate_left
  · rintro w' hS
    have c3 := (hS.cell (World.block_lt_of_cell? _ _ y3)).trans y3
    go_simp
    with_reducible rfl
  rotate_left
  · simp only [Act.put, List.setIfInBounds_toArray, List.set_cons_zero, List.set_cons_succ, i64_w, i32_w]
    rfl
  refine take_ (i := 12) (N := some 17) (v := ?_) (a' := ?_) #[true, true, true, true, true, false, true, true, false, true, true, true, true, true, false, true, false, true, false, false, false, false] rfl rfl (by kernel_rfl) (fun _ _ _ h => h) (Or.inl ⟨by rfl, ?_⟩) hHeld ?_ ?_
  rotate_left
  · rintro w' hS
    have c4 := (hS.cell (World.block_lt_of_cell? _ _ y4)).trans y4
    go_simp
    with_reducible rfl
  rotate_left
  · simp only [Act.put, List.setIfInBounds_toArray, List.set_cons_zero, List.set_cons_succ, i64_w, i32_w]
    rfl
  refine take_ (i := 14) (N := some 19) (v := ?_) (a' := ?_) #[true, true, true, true, true, false, true, true, false, true, true, true, true, true, true, true, false, true, false, false, false, false] rfl rfl (by kernel_rfl) (fun _ _ _ h => h) (Or.inl ⟨by rfl, ?_⟩) hHeld ?_ ?_
  rotate_left
  · rintro w' hS
    have c5 := (hS.cell (World.block_lt_of_cell? _ _ y5)).trans y5
    go_simp
    with_reducible rfl
  rotate_left
  · simp only [Act.put, List.setIfInBounds_toArray, List.set_cons_zero, List.set_cons_succ, i64_w, i32_w]
    rfl
  refine take_ (i := 16) (N := some 21) (v := ?_) (a' := ?_) #[true, true, true, true, true, false, true, true, false, true, true, true, true, true, true, true, true, true, false, false, false, false] rfl rfl (by kernel_rfl) (fun _ _ _ h => h) (Or.inl ⟨by rfl, ?_⟩) hHeld ?_ ?_
  rotate_left
  · rintro w' hS
    have c6 := (hS.cell (World.block_lt_of_cell? _ _ y6)).trans y6
    go_simp
    with_reducible rfl
  rotate_left
  · simp only [Act.put, List.setIfInBounds_toArray, List.set_cons_zero, List.set_cons_succ, i64_w, i32_w]
    rfl
  refine take_ (i := 18) (N := some 23) (v := ?_) (a' := ?_) #[true, true, true, true, true, false, true, true, false, true, true, true, true, true, true, true, true, true, true, false, false, false] rfl rfl (by kernel_rfl) (fun _ _ _ h => h) (Or.inl ⟨by rfl, ?_⟩) hHeld ?_ ?_
  rotate_left
  · rintro w' hS
    have c7 := (hS.cell (World.block_lt_of_cell? _ _ y7)).trans y7
    go_simp
    with_reducible rfl
  rotate_left
  · simp only [Act.put, List.setIfInBounds_toArray, List.set_cons_zero, List.set_cons_succ, i64_w, i32_w]
    rfl
  refine one_ (i := 5) (N := some 10) #[true, true, true, true, true, true, true, true, false, true, true, true, true, true, true, true, true, true, true, false, false, false] rfl rfl (by kernel_rfl) (by decide) (fun K hK => ?_)
  refine goes_ Try.func79 (by kernel_rfl) rfl #[.bool o.f1] (by rfl) rfl rfl (by (try simp only [List.map_toArray, List.map_cons, List.map_nil]); first | done | rfl | (go_simp; done) | (go_simp; rfl)) ?_
  refine (rbit_calls o.f1 _).mono ?_
  rintro e wb1 ⟨rfl, hb⟩
  refine ⟨_, rfl, ?_⟩
  have hB1 := Lib.hid (below_then hB0.out hB0.out.size hb)
  clear hb hB0
  refine hK.out _ _ hB1.out (fun hHeld => ?_)
  clear hK K
  refine norm_ (a' := ?_) ?_ ?_
  rotate_left
  · show Act.put _ (some 10) _ = _
    simp only [Act.put, List.setIfInBounds_toArray, List.set_cons_zero, List.set_cons_succ, i64_w, i32_w]
    rfl
  refine one_ (i := 8) (N := some 13) #[true, true, true, true, true, true, true, true, true, true, true, true, true, true, true, true, true, true, true, false, false, false] rfl rfl (by kernel_rfl) (by decide) (fun K hK => ?_)
  refine goes_ Try.func79 (by kernel_rfl) rfl #[.bool o.f2] (by rfl) rfl rfl (by (try simp only [List.map_toArray, List.map_cons, List.map_nil]); first | done | rfl | (go_simp; done) | (go_simp; rfl)) ?_
  refine (rbit_calls o.f2 _).mono ?_
  rintro e wb2 ⟨rfl, hb⟩
  refine ⟨_, rfl, ?_⟩
  have hB2 := Lib.hid (below_then hB1.out hB1.out.size hb)
  clear hb hB1
  refine hK.out _ _ hB2.out (fun hHeld => ?_)
  clear hK K
  refine norm_ (a' := ?_) ?_ ?_
  rotate_left
  · show Act.put _ (some 13) _ = _
    simp only [Act.put, List.setIfInBounds_toArray, List.set_cons_zero, List.set_cons_succ, i64_w, i32_w]
    rfl
  refine one_ (i := 19) (N := some 24) #[true, true, true, true, true, true, true, true, true, true, true, true, true, true, true, true, true, true, true, true, false, false] rfl rfl (by kernel_rfl) (by decide) (fun K hK => ?_)
  refine value_ (w1 := ?_) (v := ?_) (by rfl) rfl ?_ ?_
  rotate_left 2
  · go_simp
    constructor
    · rfl
    · rfl
  refine hK.out _ _ (below_alloc hB2.out _) (fun hHeld => ?_)
  clear hK K
  refine norm_ (a' := ?_) ?_ ?_
  rotate_left
  · show Act.put _ (some 24) _ = _
    simp only [Act.put, List.setIfInBounds_toArray, List.set_cons_zero, List.set_cons_succ, i64_w, i32_w]
    rfl
  refine last_ (i := 20) (N := some 25) #[true, true, true, true, true, true, true, true, true, true, true, true, true, true, true, true, true, true, true, true, true, false] rfl rfl (by kernel_rfl) (by decide) (fun K hK => ?_)
  refine goes_ Try.func47 (by kernel_rfl) rfl #[v, .slice (some ⟨wb2.heap.size, 0, none⟩) 8 8] (by rfl) rfl rfl (by (try simp only [List.map_toArray, List.map_cons, List.map_nil]); first | done | rfl | (go_simp; done) | (go_simp; rfl)) ?_
  have HB2 := Lib.hid (below_then HB1.out HB1.out.size hB2.out)
  have HX2 := Lib.hid (Ow.below HX.out HB2.out)
  have HBW := Lib.hid (below_then HB0.out HBS.out HB2.out)
  have HBS2 : Hid (base ≤ wb2.heap.size) := Lib.hid (Nat.le_trans HBS.out HB2.out.size)
  refine (rput_calls w0 base wb2.heap.size v xs #[.int .i64 o.f0, .int .i64 (b2i o.f1), .int .i64 (b2i o.f2), .int .i64 o.f3, .int .i64 o.f4, .int .i64 o.f5, .int .i64 o.f6, .int .i64 o.f7] (osdL o) _ (Kd.R_mono (Kd.R_alloc (Kd.R_bound HX2.out) _) (fun k hk => by have := hk.2.2.1; omega)) (blk_new _ _) rfl (below_then HBW.out HBS2.out (below_alloc (Below.refl _ _) _)) (Nat.le_trans HBS2.out (below_alloc (Below.refl wb2.heap.size wb2) _).size) HG.out (by have := HL.out; simp only [List.length_cons, List.length_nil]; omega)).mono ?_
  rintro e w25 ⟨v', rfl, ho, hb⟩
  refine ⟨_, rfl, ?_⟩
  have HO3 := Lib.hid ho
  have HB3 := Lib.hid hb
  clear ho hb HB2 HX2 HBW HBS2 hB2
  refine hK.out _ _ ?_
  clear hK K
  refine norm_ (a' := ?_) ?_ ?_
  rotate_left
  · show Act.put _ (some 25) _ = _
    simp only [Act.put, List.setIfInBounds_toArray, List.set_cons_zero, List.set_cons_succ, i64_w, i32_w]
    rfl
  refine pure_ (i := 21) (N := some 4) (v := ?_) (a' := ?_) #[true, true, true, true, true, true, true, true, true, true, true, true, true, true, true, true, true, true, true, true, true, true] rfl rfl (by kernel_rfl) (fun _ _ _ h => h) (Or.inl ⟨by rfl, ?_⟩) ?_ ?_
  rotate_left
  · intro w'
    go_simp
    with_reducible rfl
  rotate_left
  · simp only [Act.put, List.setIfInBounds_toArray, List.set_cons_zero, List.set_cons_succ, i64_w, i32_w]
    rfl
  refine done_ (by kernel_rfl) ?_
  go_wp2_with fail
  go_ret
  exact ⟨v', rfl, HO3.out, HB3.out⟩
end Go.Proofs.Ytfikaekocgofoaa.Puo
/- A store into a block that is known whole: the block behind it, all else as it was. -/
namespace Go.Proofs.Ytfikaekocgofoaa.Stb
open Go Go.RowKit Go.Proofs.YtfikaekocgofoaaW.PrintWords Go.Proofs.YtfikaekocgofoaaW.PrintLast Go.Proofs.YtfikaekocgofoaaW.PrintMore
section
variable {P : Program} {ops : Array Oper} {rest : List Oper} {o : Oper} {a : Act} {Q : Exit → Act → World → Prop} {Kc : Act → World → Prop}
theorem store_run {W : World} (t : TypeId) (p x : Operand) (ho : o.op = .store t p x) {g j : Nat} {e : TypeId} {cur cur' : Array Value} {u : Value} (seg : List Value)
    (hh : W.heap[g]? = some (.cells cur e (0, 0))) (haddr : a.eval p = .pointer (some ⟨g, j, none⟩)) (hx : a.eval x = u) (hu : u.cells.toList = seg) (ht : (P.info? t).map (·.size) = some seg.length) (hfit : j + seg.length ≤ cur.size) (h1 : seg.all (fun q => q.oneCell') = true)
    (hc : cur'.toList = cur.toList.take j ++ seg ++ cur.toList.drop (j + seg.length)) :
    ∃ w1, (execOp a.eval o).run P W = .ok .skip w1 ∧ w1.heap[g]? = some (.cells cur' e (0, 0)) ∧ W.grownBy w1 (some g) ∧ w1.heap.size = W.heap.size := by
  have h1' : ∀ q ∈ seg, q.oneCell' = true := fun q hq => List.all_eq_true.1 h1 q hq
  have hrun := run_store_run (P := P) (o := j) t u seg hh hu ht hfit h1'
  obtain ⟨c2, k1, k2, k3⟩ := setCells_row seg j W cur hh hfit
  obtain ⟨s1, s2, s3, s4⟩ := setCells_same g seg j W
  have e2 : c2 = cur' := by rw [← Array.toList_inj, k3, hc]
  subst e2
  refine ⟨W.setCells g j seg, ?_, k1, ⟨s1, s2, s3, by rw [s4]; exact Nat.le_refl _, fun k _ hk => setCells_far _ _ k (fun he => hk (by rw [he]))⟩, s4⟩
  unfold execOp
  simp only [ho, haddr, hx, Sem.run_bind, Sem.run_pure, Result.andThen_ok, hrun]
/-- In a region that draws its order. -/
theorem store_step {W : World} (hw : Region.wanted o (yielded ops a.tmps) = true) (hN : o.dst = none) (t : TypeId) (p x : Operand) (ho : o.op = .store t p x) {g j : Nat} {e : TypeId} {cur cur' : Array Value} {u : Value} (seg : List Value)
    (hh : W.heap[g]? = some (.cells cur e (0, 0))) (haddr : a.eval p = .pointer (some ⟨g, j, none⟩)) (hx : a.eval x = u) (hu : u.cells.toList = seg) (ht : (P.info? t).map (·.size) = some seg.length) (hfit : j + seg.length ≤ cur.size) (h1 : seg.all (fun q => q.oneCell') = true)
    (hc : cur'.toList = cur.toList.take j ++ seg ++ cur.toList.drop (j + seg.length))
    (h : ∀ w1, w1.heap[g]? = some (.cells cur' e (0, 0)) → W.grownBy w1 (some g) → w1.heap.size = W.heap.size → Kc (a.put none undef) w1) : if Region.wanted o (yielded ops a.tmps) = true then Oper.wp P o a W Kc Q else Kc (a.put none undef) W := by
  obtain ⟨w1, hrun, k1, k2, k3⟩ := store_run (P := P) t p x ho seg hh haddr hx hu ht hfit h1 hc
  exact skip_ hw hN hrun (h w1 k1 k2 k3)
/-- In a plain region, as an arm: 'hd' is the operation itself. -/
theorem store_list {W : World} (hgd : o.guard = none) (hN : o.dst = none) (t : TypeId) (p x : Operand) (ho : o.op = .store t p x) {g j : Nat} {e : TypeId} {cur cur' : Array Value} {u : Value} (seg : List Value)
    (hh : W.heap[g]? = some (.cells cur e (0, 0))) (haddr : a.eval p = .pointer (some ⟨g, j, none⟩)) (hx : a.eval x = u) (hu : u.cells.toList = seg) (ht : (P.info? t).map (·.size) = some seg.length) (hfit : j + seg.length ≤ cur.size) (h1 : seg.all (fun q => q.oneCell') = true)
    (hc : cur'.toList = cur.toList.take j ++ seg ++ cur.toList.drop (j + seg.length))
    (h : ∀ w1, w1.heap[g]? = some (.cells cur' e (0, 0)) → W.grownBy w1 (some g) → w1.heap.size = W.heap.size → wpList P ops Q rest a w1) : wpList P ops Q (o :: rest) a W := by
  obtain ⟨w1, hrun, k1, k2, k3⟩ := store_run (P := P) t p x ho seg hh haddr hx hu ht hfit h1 hc
  refine wpList_plain hgd fun K hK => ?_
  unfold Oper.wp
  rw [hrun]
  show K (a.put o.dst undef) w1
  rw [hN]
  exact hK _ _ (h w1 k1 k2 k3)
end
theorem below_grown1 {w0 w w1 : World} {B g : Nat} (h : Below B w0 w) (hg : w.grownBy w1 (some g)) (hb : B ≤ g) (hB : B ≤ w.heap.size) : Below B w0 w1 := h.grown hg hB (by intro k hk; injection hk with hk; omega)
end Go.Proofs.Ytfikaekocgofoaa.Stb
/- A map that a literal makes: its block known whole. -/
namespace Go.Proofs.Ytfikaekocgofoaa.Mlt
open Go Go.RowKit Go.Proofs.YtfikaekocgofoaaW.PrintWords Go.Proofs.YtfikaekocgofoaaW.PrintLast Go.Proofs.YtfikaekocgofoaaW.PrintMore Go.MapKept
section
variable {P : Program} {ops : Array Oper} {rest : List Oper} {o : Oper} {a : Act} {Q : Exit → Act → World → Prop} {Kc : Act → World → Prop}
theorem isKey_int (k : IntKind) (n : Int) : IsKey (.int k) (.int k n) := by simp [IsKey]
theorem update_run {W : World} {b : Nat} {es : Array MapEntry} {clock : Nat} {t kt et : TypeId} {q : IntKind} {k : Int} {v : Value} (ht : P.underlying t = some (.map kt et)) (hk : P.underlying kt = some (.int q)) (hb : W.heap[b]? = some (.map es clock)) (hn : Instr.findNow (.int q) (.int q k) es.toList 0 = some none) :
    ∃ w1, (Instr.mapUpdate t (.map (some b)) (.int q k) v).run P W = .ok () w1 ∧ w1.heap[b]? = some (.map (es.push ⟨.int q k, v, clock⟩) (clock + 1)) ∧ W.grownBy w1 (some b) ∧ w1.heap.size = W.heap.size := by
  refine ⟨{ W with heap := W.heap.setIfInBounds b (.map (es.push ⟨.int q k, v, clock⟩) (clock + 1)) }, ?_, (heap_set hb).1, ⟨rfl, rfl, rfl, by simp, fun j _ hj => (heap_set hb).2 j (fun e => hj (by rw [e]))⟩, by simp⟩
  simp [Instr.mapUpdate, run_underlying ht, Go.MapKept.run_getObj_map hb, run_checkKey hk (isKey_int q k), run_findKey hk hn, run_setObj_map _ hb, Result.andThen]
/-- One entry more, by a literal. -/
theorem insert_list {W : World} (hgd : o.guard = none) (hN : o.dst = none) (t : TypeId) (m x u : Operand) (ho : o.op = .insert t m x u) {b : Nat} {es : Array MapEntry} {clock : Nat} {kt et : TypeId} {q : IntKind} {k : Int} {v : Value}
    (hm : a.eval m = .map (some b)) (hx : a.eval x = .int q k) (hu : a.eval u = v) (ht : P.underlying t = some (.map kt et)) (hk : P.underlying kt = some (.int q)) (hb : W.heap[b]? = some (.map es clock)) (hn : Instr.findNow (.int q) (.int q k) es.toList 0 = some none)
    (h : ∀ w1, w1.heap[b]? = some (.map (es.push ⟨.int q k, v, clock⟩) (clock + 1)) → W.grownBy w1 (some b) → w1.heap.size = W.heap.size → wpList P ops Q rest a w1) : wpList P ops Q (o :: rest) a W := by
  obtain ⟨w1, hrun, k1, k2, k3⟩ := update_run (v := v) ht hk hb hn
  refine wpList_plain hgd fun K hK => ?_
  unfold Oper.wp
  simp only [execOp, ho, hm, hx, hu, Sem.run_bind, hrun, Result.andThen_ok, Sem.run_pure]
  show K (a.put o.dst undef) w1
  rw [hN]
  exact hK _ _ (h w1 k1 k2 k3)
theorem lookup_yes {W : World} {b : Nat} {es : Array MapEntry} {clock : Nat} {t kt et : TypeId} {q : IntKind} {k : Int} {v : Value} {i : Nat} (c : Bool) (ht : P.underlying t = some (.map kt et)) (hk : P.underlying kt = some (.int q)) (hb : W.heap[b]? = some (.map es clock)) (hn : Instr.findNow (.int q) (.int q k) es.toList 0 = some (some (i, v))) :
    (Instr.lookup t (.map (some b)) (.int q k) c).run P W = .ok (if c then .tuple #[v, .bool true] else v) W := by
  simp [Instr.lookup, run_underlying ht, Go.MapKept.run_getObj_map hb, run_checkKey hk (isKey_int q k), run_findKey hk hn, Result.andThen]
theorem lookup_no {W : World} {b : Nat} {es : Array MapEntry} {clock : Nat} {t kt et : TypeId} {q : IntKind} {k : Int} {z : Value} (c : Bool) (ht : P.underlying t = some (.map kt et)) (hk : P.underlying kt = some (.int q)) (hz : (zeroValue et).run P W = .ok z W) (hb : W.heap[b]? = some (.map es clock)) (hn : Instr.findNow (.int q) (.int q k) es.toList 0 = some none) :
    (Instr.lookup t (.map (some b)) (.int q k) c).run P W = .ok (if c then .tuple #[z, .bool false] else z) W := by
  simp [Instr.lookup, run_underlying ht, Go.MapKept.run_getObj_map hb, run_checkKey hk (isKey_int q k), run_findKey hk hn, hz, Result.andThen]
/-- The look-up itself, as an event. -/
theorem lookup_ev {W : World} {t : TypeId} {m x : Operand} {c : Bool} {mv kv r : Value} (ho : o.op = .lookup t m x c) (hm : a.eval m = mv) (hx : a.eval x = kv) (h : (Instr.lookup t mv kv c).run P W = .ok r W) : (execOp a.eval o).run P W = .ok (.value r) W := by
  simp only [execOp, ho, hm, hx, Sem.run_bind, h, Result.andThen_ok, Sem.run_pure]
end
end Go.Proofs.Ytfikaekocgofoaa.Mlt
