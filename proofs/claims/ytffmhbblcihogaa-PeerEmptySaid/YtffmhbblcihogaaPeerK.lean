import Derived.Test.YtffmhbblcihogaaPeerL
import Derived.Test.YtffmhbblcihogaaOpen
import Derived.Test.YtffmhbblcihogaaMem
/- How intervals and infos lie in memory. -/
namespace Go.Proofs.Ytffmhbblcihogaa.PeerK
open Go.RowKit Go.Proofs.YtffmhbblcihogaaW.PrintWords PAll PeerP Opns Mem
def slK : Kd (Option Addr × Nat × Nat) := Kd.scalar (fun p => .slice p.1 p.2.1 p.2.2) (fun _ => rfl)
/-- An info whose list lies elsewhere. -/
def kE : Kd Ie := Kd.iso (Kd.pair (Kd.int .i64) (Kd.pair (Kd.int .i64) (Kd.pair (Kd.int .i64) (Kd.pair (Kd.int .i64) slK)))) (fun p : Ie => (p.x.osd, p.x.life, p.x.now, p.x.head, (p.A, p.x.next.length, p.c)))
def cellsE (p : Ie) : List Value := [.int .i64 p.x.osd, .int .i64 p.x.life, .int .i64 p.x.now, .int .i64 p.x.head, .slice p.A p.x.next.length p.c]
abbrev aggE (p : Ie) : Array Value := #[.int .i64 p.x.osd, .int .i64 p.x.life, .int .i64 p.x.now, .int .i64 p.x.head, .slice p.A p.x.next.length p.c]
theorem kE_open {w : World} {x : Ie} {cs : List Value} (h : kE.K w x cs) : cs = cellsE x := by
  obtain ⟨_, _, rfl, rfl, ⟨_, _, rfl, rfl, ⟨_, _, rfl, rfl, ⟨_, _, rfl, rfl, rfl⟩⟩⟩⟩ := h
  exact rfl
theorem kE_mkM (w : World) (base : Nat) (ok : Nat → Prop) (x : Ie) : kE.M w base ok x (cellsE x) :=
  ⟨[.int .i64 x.x.osd], [.int .i64 x.x.life, .int .i64 x.x.now, .int .i64 x.x.head, .slice x.A x.x.next.length x.c], rfl, rfl, ⟨[.int .i64 x.x.life], [.int .i64 x.x.now, .int .i64 x.x.head, .slice x.A x.x.next.length x.c], rfl, rfl, ⟨[.int .i64 x.x.now], [.int .i64 x.x.head, .slice x.A x.x.next.length x.c], rfl, rfl, ⟨[.int .i64 x.x.head], [.slice x.A x.x.next.length x.c], rfl, rfl, rfl⟩⟩⟩⟩
theorem kE_mk (w : World) (x : Ie) : kE.K w x (cellsE x) := kE.K_of_M (kE_mkM w 0 (fun _ => True) x)
/-- An info's list is there. -/
def GoodE (w : World) (p : Ie) : Prop := p.x.next.length ≤ p.c ∧ k52.C w p.A p.x.next.length p.x.next
theorem GoodE.below {w w1 : World} {p : Ie} (h : GoodE w p) (hb : Below w.heap.size w w1) : GoodE w1 p := ⟨h.1, Kd.C_below h.2 hb⟩
theorem at_E {w : World} {A : Option Addr} {n : Nat} {xs : List Ie} (h : kE.C w A n xs) (i : Nat) (h1 : i < n) : ∃ ad x, xs[i]? = some x ∧ A = some ad ∧ w.cell? (ad.add (i * 5)) = some (.int .i64 x.x.osd) ∧ w.cell? ⟨(ad.add (i * 5)).block, (ad.add (i * 5)).off + 1, none⟩ = some (.int .i64 x.x.life) ∧ w.cell? ⟨(ad.add (i * 5)).block, (ad.add (i * 5)).off + 2, none⟩ = some (.int .i64 x.x.now) ∧ w.cell? ⟨(ad.add (i * 5)).block, (ad.add (i * 5)).off + 3, none⟩ = some (.int .i64 x.x.head) ∧ w.cell? ⟨(ad.add (i * 5)).block, (ad.add (i * 5)).off + 4, none⟩ = some (.slice x.A x.x.next.length x.c) := by
  obtain ⟨hl, hm, hC⟩ := h
  obtain ⟨ad, e, hj⟩ := hC (by omega)
  have hi : i < xs.length := by omega
  obtain ⟨c, hc, hK, hcell⟩ := hj i xs[i] (List.getElem?_eq_getElem hi)
  obtain rfl := kE_open hK
  have hcell' : ∀ j u, (cellsE xs[i])[j]? = some u → w.cell? (ad.add (i * 5 + j)) = some u := hcell
  exact ⟨ad, xs[i], List.getElem?_eq_getElem hi, e, hcell' 0 _ rfl, by rw [← add_field _ _ 1 (by omega)]; exact hcell' 1 _ rfl, by rw [← add_field _ _ 2 (by omega)]; exact hcell' 2 _ rfl, by rw [← add_field _ _ 3 (by omega)]; exact hcell' 3 _ rfl, by rw [← add_field _ _ 4 (by omega)]; exact hcell' 4 _ rfl⟩
theorem infoE : (Try.prog.info? 38).map (fun i => (i.zero, i.size, i.bytes)) = some (some (.agg #[.int .i64 0, .int .i64 0, .int .i64 0, .int .i64 0, .slice none 0 0]), kE.sz, 56) := by kernel_rfl
/-- An interval's cells. -/
structure Xe where
  x : Iv
  A2 : Option Addr
  c2 : Nat
  A3 : Option Addr
  c3 : Nat
  A4 : Option Addr
  c4 : Nat
abbrev aggX (p : Xe) : Array Value := #[.int .i64 p.x.fr, .int .i64 p.x.til, .slice p.A2 p.x.act.length p.c2, .slice p.A3 p.x.lives.length p.c3, .slice p.A4 p.x.boots.length p.c4, .int .i64 p.x.prim]
structure GoodX (w : World) (p : Xe) : Prop where
  l2 : p.x.act.length ≤ p.c2
  g2 : (Kd.int .i64).C w p.A2 p.x.act.length p.x.act
  l3 : p.x.lives.length ≤ p.c3
  g3 : (Kd.int .i64).C w p.A3 p.x.lives.length p.x.lives
  l4 : p.x.boots.length ≤ p.c4
  g4 : (Kd.int .i64).C w p.A4 p.x.boots.length p.x.boots
theorem GoodX.below {w w1 : World} {p : Xe} (h : GoodX w p) (hb : Below w.heap.size w w1) : GoodX w1 p :=
  ⟨h.l2, Kd.C_below h.g2 hb, h.l3, Kd.C_below h.g3 hb, h.l4, Kd.C_below h.g4 hb⟩
def kX : Kd Xe := Kd.iso (Kd.pair (Kd.int .i64) (Kd.pair (Kd.int .i64) (Kd.pair slK (Kd.pair slK (Kd.pair slK (Kd.int .i64)))))) (fun p : Xe => (p.x.fr, p.x.til, (p.A2, p.x.act.length, p.c2), (p.A3, p.x.lives.length, p.c3), (p.A4, p.x.boots.length, p.c4), p.x.prim))
theorem kX_open {w : World} {x : Xe} {cs : List Value} (h : kX.K w x cs) : cs = (aggX x).toList := by
  obtain ⟨_, _, rfl, rfl, ⟨_, _, rfl, rfl, ⟨_, _, rfl, rfl, ⟨_, _, rfl, rfl, ⟨_, _, rfl, rfl, rfl⟩⟩⟩⟩⟩ := h
  exact rfl
theorem kX_mk (w : World) (x : Xe) : kX.K w x (aggX x).toList :=
  ⟨[_], [_, _, _, _, _], rfl, rfl, ⟨[_], [_, _, _, _], rfl, rfl, ⟨[_], [_, _, _], rfl, rfl, ⟨[_], [_, _], rfl, rfl, ⟨[_], [_], rfl, rfl, rfl⟩⟩⟩⟩⟩
theorem at_X {w : World} {A : Option Addr} {n : Nat} {xs : List Xe} (h : kX.C w A n xs) (i : Nat) (h1 : i < n) : ∃ ad x, xs[i]? = some x ∧ A = some ad ∧ w.cell? (ad.add (i * 6)) = some (.int .i64 x.x.fr) ∧ w.cell? ⟨(ad.add (i * 6)).block, (ad.add (i * 6)).off + 1, none⟩ = some (.int .i64 x.x.til) ∧ w.cell? ⟨(ad.add (i * 6)).block, (ad.add (i * 6)).off + 2, none⟩ = some (.slice x.A2 x.x.act.length x.c2) ∧ w.cell? ⟨(ad.add (i * 6)).block, (ad.add (i * 6)).off + 3, none⟩ = some (.slice x.A3 x.x.lives.length x.c3) ∧ w.cell? ⟨(ad.add (i * 6)).block, (ad.add (i * 6)).off + 4, none⟩ = some (.slice x.A4 x.x.boots.length x.c4) ∧ w.cell? ⟨(ad.add (i * 6)).block, (ad.add (i * 6)).off + 5, none⟩ = some (.int .i64 x.x.prim) := by
  obtain ⟨hl, hm, hC⟩ := h
  obtain ⟨ad, e, hj⟩ := hC (by omega)
  have hi : i < xs.length := by omega
  obtain ⟨c, hc, hK, hcell⟩ := hj i xs[i] (List.getElem?_eq_getElem hi)
  obtain rfl := kX_open hK
  have hcell' : ∀ j u, (aggX xs[i]).toList[j]? = some u → w.cell? (ad.add (i * 6 + j)) = some u := hcell
  exact ⟨ad, xs[i], List.getElem?_eq_getElem hi, e, hcell' 0 _ rfl, by rw [← add_field _ _ 1 (by omega)]; exact hcell' 1 _ rfl, by rw [← add_field _ _ 2 (by omega)]; exact hcell' 2 _ rfl, by rw [← add_field _ _ 3 (by omega)]; exact hcell' 3 _ rfl, by rw [← add_field _ _ 4 (by omega)]; exact hcell' 4 _ rfl, by rw [← add_field _ _ 5 (by omega)]; exact hcell' 5 _ rfl⟩
theorem blkX {w : World} {g : Nat} {p : Xe} (h : w.heap[g]? = some (.cells (aggX p) 33 (0, 0))) : w.cell? ⟨g, 0, none⟩ = some (.int .i64 p.x.fr) ∧ w.cell? ⟨g, 1, none⟩ = some (.int .i64 p.x.til) ∧ w.cell? ⟨g, 2, none⟩ = some (.slice p.A2 p.x.act.length p.c2) ∧ w.cell? ⟨g, 3, none⟩ = some (.slice p.A3 p.x.lives.length p.c3) ∧ w.cell? ⟨g, 4, none⟩ = some (.slice p.A4 p.x.boots.length p.c4) ∧ w.cell? ⟨g, 5, none⟩ = some (.int .i64 p.x.prim) :=
  ⟨blk_cell h 0, blk_cell h 1, blk_cell h 2, blk_cell h 3, blk_cell h 4, blk_cell h 5⟩
theorem blkE {w : World} {g : Nat} {p : Ie} (h : w.heap[g]? = some (.cells (aggE p) 38 (0, 0))) : w.cell? ⟨g, 0, none⟩ = some (.int .i64 p.x.osd) ∧ w.cell? ⟨g, 1, none⟩ = some (.int .i64 p.x.life) ∧ w.cell? ⟨g, 2, none⟩ = some (.int .i64 p.x.now) ∧ w.cell? ⟨g, 3, none⟩ = some (.int .i64 p.x.head) ∧ w.cell? ⟨g, 4, none⟩ = some (.slice p.A p.x.next.length p.c) :=
  ⟨blk_cell h 0, blk_cell h 1, blk_cell h 2, blk_cell h 3, blk_cell h 4⟩
/-! ### the printed functions, at these -/
section
variable (p : Xe) (q : Ie) (w : World) (hp : GoodX w p) (hq : GoodE w q)
include hp hq
theorem counts_calls : Calls Try.prog 21 #[.agg (aggX p), .agg (aggE q)] w fun e w' => e = .returned (.bool (cnt p.x q.x)) ∧ Below w.heap.size w w' :=
  peer_counts.calls _ _ _ _ _ _ _ _ _ _ _ _ _ _ _ _ _ _ _ _ _ w hp.g2 hp.l2 hp.g3 hp.l3 hp.g4 hp.l4 hq.2 hq.1 (counts_f p.x q.x hp.g2.2.1 _ (Nat.lt_succ_self _))
theorem has_calls : Calls Try.prog 15 #[.agg (aggX p), .agg (aggE q)] w fun e w' => e = .returned (.tuple #[.int .i64 (hasV (hasO p.x q.x)).1, .bool (hasV (hasO p.x q.x)).2]) ∧ Below w.heap.size w w' :=
  peer_Has.calls _ _ _ _ _ _ _ _ _ _ _ _ _ _ _ _ _ _ _ _ _ _ w hp.g2 hp.l2 hp.g3 hp.l3 hp.g4 hp.l4 hq.2 hq.1 (has_f p.x q.x hp.g2.2.1 hq.2.2.1 (p.x.act.length + q.x.next.length + 1) (by omega) (by omega))
theorem lacks_calls : Calls Try.prog 19 #[.agg (aggX p), .agg (aggE q)] w fun e w' => e = .returned (.bool (lacks p.x q.x)) ∧ Below w.heap.size w w' :=
  peer_Lacks.calls _ _ _ _ _ _ _ _ _ _ _ _ _ _ _ _ _ _ _ _ _ w hp.g2 hp.l2 hp.g3 hp.l3 hp.g4 hp.l4 hq.2 hq.1 (lacks_f p.x q.x hp.g2.2.1 hq.2.2.1 (p.x.act.length + q.x.next.length + 1) (by omega) (by omega))
theorem lcounts_calls : Calls Try.prog 9 #[.agg (aggX p), .agg (aggE q)] w fun e w' => e = .returned (.bool (cnt p.x q.x)) ∧ Below w.heap.size w w' :=
  mooringlaw22_counts.calls _ _ _ _ _ _ _ _ _ _ _ _ _ _ _ _ _ _ _ _ _ w hp.g2 hp.l2 hp.g3 hp.l3 hp.g4 hp.l4 hq.2 hq.1 (lcounts_f p.x q.x hp.g2.2.1 (2 * p.x.act.length + 2) (by omega))
theorem rhas_calls : Calls Try.prog 11 #[.agg (aggX p), .agg (aggE q)] w fun e w' => e = .returned (.tuple #[.int .i64 (hasV (hasO p.x q.x)).1, .bool (hasV (hasO p.x q.x)).2]) ∧ Below w.heap.size w w' :=
  mooringref22_Has.calls _ _ _ _ _ _ _ _ _ _ _ _ _ _ _ _ _ _ _ _ _ _ w hp.g2 hp.l2 hp.g3 hp.l3 hp.g4 hp.l4 hq.2 hq.1 (rhas_f p.x q.x hp.g2.2.1 hq.2.2.1 (2 * p.x.act.length + q.x.next.length + 2) (by omega) (by omega))
theorem rlacks_calls : Calls Try.prog 12 #[.agg (aggX p), .agg (aggE q)] w fun e w' => e = .returned (.bool (lacks p.x q.x)) ∧ Below w.heap.size w w' :=
  mooringref22_Lacks.calls _ _ _ _ _ _ _ _ _ _ _ _ _ _ _ _ _ _ _ _ _ w hp.g2 hp.l2 hp.g3 hp.l3 hp.g4 hp.l4 hq.2 hq.1 (rlacks_f p.x q.x hp.g2.2.1 hq.2.2.1 (2 * p.x.act.length + q.x.next.length + 2) (by omega) (by omega))
omit hq
theorem enough_calls (m : Int) : Calls Try.prog 13 #[.agg (aggX p), .int .i64 m] w fun e w' => e = .returned (.bool (decide (many p.x.act ≥ m))) ∧ Below w.heap.size w w' :=
  interval_Enough.calls _ _ _ _ _ _ _ _ _ _ _ _ _ _ _ w hp.g2 hp.l2 hp.g3 hp.l3 hp.g4 hp.l4 (enough_f p.x m hp.g2.2.1 _ (Nat.lt_succ_self _))
theorem count_calls : Calls Try.prog 7 #[.agg (aggX p)] w fun e w' => e = .returned (.int .i64 (many p.x.act)) ∧ Below w.heap.size w w' :=
  mooringref17_Count.calls _ _ _ _ _ _ _ _ _ _ _ _ _ _ w hp.g2 hp.l2 hp.g3 hp.l3 hp.g4 hp.l4 (count_f p.x hp.g2.2.1 _ (Nat.lt_succ_self _))
end
end Go.Proofs.Ytffmhbblcihogaa.PeerK
