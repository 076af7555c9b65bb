import Derived.Test.YtffmhbblcihogaaPeerM
/- How the laws' arguments are told; PeerKeeps. -/
namespace Go.Proofs.Ytffmhbblcihogaa.PeerO
open Go.RowKit Go.Proofs.YtffmhbblcihogaaW.PrintWords PAll PeerP Opns Mem PeerK PeerT PeerF PeerS PeerC PeerA PeerM
instance : Inhabited S52 := ⟨⟨0, 0⟩⟩
instance : Inhabited Iv := ⟨⟨0, 0, [], [], [], 0⟩⟩
instance : Inhabited In := ⟨⟨0, 0, 0, 0, []⟩⟩
instance : Inhabited Ie := ⟨⟨default, none, 0⟩⟩
instance : Inhabited Xe := ⟨⟨default, none, 0, none, 0, none, 0⟩⟩
theorem C_conv {α β : Type} [Inhabited β] {d : Kd α} {d' : Kd β} {f : β → α} {G : World → β → Prop} (hsz : d.sz = d'.sz) (h : ∀ w x cs, d.K w x cs → ∃ y, f y = x ∧ d'.K w y cs ∧ G w y) {w : World} {A : Option Addr} {xs : List α} (hc : d.C w A xs.length xs) :
    ∃ ys : List β, ys.map f = xs ∧ d'.C w A ys.length ys ∧ ∀ y ∈ ys, G w y := by
  rcases Nat.eq_zero_or_pos xs.length with h0 | h0
  · obtain rfl := List.eq_nil_of_length_eq_zero h0
    exact ⟨[], rfl, ⟨rfl, Nat.zero_le _, fun hp => absurd hp (Nat.lt_irrefl 0)⟩, fun y hy => absurd hy List.not_mem_nil⟩
  · obtain ⟨_, hm, hC⟩ := hc
    obtain ⟨ad, rfl, hj⟩ := hC h0
    obtain ⟨Y, hY⟩ := Go.Deep.choose_lt (α := β) (n := xs.length) (p := fun i y => xs[i]? = some (f y) ∧ G w y ∧ ∃ c, c.length = d'.sz ∧ d'.K w y c ∧ ∀ j u, c[j]? = some u → w.cell? (ad.add (i * d'.sz + j)) = some u) (fun i hi => by
      obtain ⟨c, h1, h2, h3⟩ := hj i _ (List.getElem?_eq_getElem hi)
      obtain ⟨y, h4, h5, h6⟩ := h w _ _ h2
      exact ⟨y, by rw [h4, List.getElem?_eq_getElem hi], h6, c, hsz ▸ h1, h5, hsz ▸ h3⟩)
    have hlen : ((List.range xs.length).map Y).length = xs.length := by simp
    refine ⟨(List.range xs.length).map Y, ?_, ⟨rfl, by rw [hlen]; exact hm, fun _ => ⟨ad, rfl, fun j p hp => ?_⟩⟩, fun y hy => ?_⟩
    · apply List.ext_getElem?
      intro i
      rcases Nat.lt_or_ge i xs.length with hi | hi
      · rw [(hY i hi).1]
        simp [hi]
      · rw [List.getElem?_eq_none (by simpa using hi), List.getElem?_eq_none hi]
    · have hjl : j < xs.length := by
        have := (List.getElem?_eq_some_iff.1 hp).1
        simpa using this
      have e : Y j = p := by simpa [hjl] using hp
      rw [← e]
      exact (hY j hjl).2.2
    · obtain ⟨i, hi, rfl⟩ := List.mem_map.1 hy
      exact (hY i (List.mem_range.1 hi)).2.1
def kIv : Kd Iv := Kd.iso (Kd.pair (Kd.int .i64) (Kd.pair (Kd.int .i64) (Kd.pair (Kd.slice 3 (Kd.int .i64)) (Kd.pair (Kd.slice 3 (Kd.int .i64)) (Kd.pair (Kd.slice 3 (Kd.int .i64)) (Kd.int .i64)))))) (fun x : Iv => (x.fr, x.til, x.act, x.lives, x.boots, x.prim))
def kIn : Kd In := Kd.iso (Kd.pair (Kd.int .i64) (Kd.pair (Kd.int .i64) (Kd.pair (Kd.int .i64) (Kd.pair (Kd.int .i64) (Kd.slice 52 k52))))) (fun x : In => (x.osd, x.life, x.now, x.head, x.next))
theorem conv_Iv (w : World) (x : Iv) (cs : List Value) (h : kIv.K w x cs) : ∃ y : Xe, y.x = x ∧ kX.K w y cs ∧ GoodX w y := by
  obtain ⟨_, _, rfl, rfl, ⟨_, _, rfl, rfl, ⟨_, _, rfl, ⟨A2, c2, rfl, l2, g2⟩, ⟨_, _, rfl, ⟨A3, c3, rfl, l3, g3⟩, ⟨_, _, rfl, ⟨A4, c4, rfl, l4, g4⟩, rfl⟩⟩⟩⟩⟩ := h
  exact ⟨⟨x, A2, c2, A3, c3, A4, c4⟩, rfl, kX_mk w ⟨x, A2, c2, A3, c3, A4, c4⟩, l2, g2, l3, g3, l4, g4⟩
theorem conv_In (w : World) (x : In) (cs : List Value) (h : kIn.K w x cs) : ∃ y : Ie, y.x = x ∧ kE.K w y cs ∧ GoodE w y := by
  obtain ⟨_, _, rfl, rfl, ⟨_, _, rfl, rfl, ⟨_, _, rfl, rfl, ⟨_, _, rfl, rfl, ⟨A4, c4, rfl, l4, g4⟩⟩⟩⟩⟩ := h
  exact ⟨⟨x, A4, c4⟩, rfl, kE_mk w ⟨x, A4, c4⟩, l4, g4⟩
abbrev wfI (n : Int) : Prop := (Lit.int .i64 n).wf = true
abbrev wfIs (l : List Int) : Prop := (∀ y ∈ l, wfI y) ∧ l.length * 8 ≤ reachBytes
def goodIv (x : Iv) : Prop := wfI x.fr ∧ wfI x.til ∧ wfIs x.act ∧ wfIs x.lives ∧ wfIs x.boots ∧ wfI x.prim
def goodS (x : S52) : Prop := wfI x.f0 ∧ wfI x.f1
def goodIn (x : In) : Prop := wfI x.osd ∧ wfI x.life ∧ wfI x.now ∧ wfI x.head ∧ (∀ y ∈ x.next, goodS y) ∧ x.next.length * 16 ≤ reachBytes
theorem op_i : Opens 3 (Kd.int .i64) (fun n => wfI n) (fun _ => 1) := opens_int Try.underlying3
theorem op_is : Opens 25 (Kd.slice 3 (Kd.int .i64)) wfIs (fun xs => lbulk (fun _ => 1) xs + 1) := opens_slice Try.underlying25 (by kernel_rfl) (by kernel_rfl) op_i
theorem opens_S : Opens 52 k52 goodS (fun _ => 1 + 1 + 1) :=
  (opens_struct (g := fun x : S52 => (x.f0, x.f1)) (gi := fun p => ⟨p.1, p.2⟩) (fun _ => rfl) Try.underlying52 (by kernel_rfl)
    (opensF_cons (off := 1) (by kernel_rfl) rfl op_i (opensF_one (by kernel_rfl) op_i))).imp (fun _ h => h) (fun _ => Nat.le_refl _)
theorem opens_Ss : Opens 36 (Kd.slice 52 k52) (fun xs => (∀ x ∈ xs, goodS x) ∧ xs.length * 16 ≤ reachBytes) (fun xs => lbulk (fun _ => 1 + 1 + 1) xs + 1) := opens_slice Try.underlying36 (by kernel_rfl) (by kernel_rfl) opens_S
theorem opens_Iv : Opens 33 kIv goodIv (fun _ => 0) :=
  (opens_struct (g := fun x : Iv => (x.fr, x.til, x.act, x.lives, x.boots, x.prim)) (gi := fun p => ⟨p.1, p.2.1, p.2.2.1, p.2.2.2.1, p.2.2.2.2.1, p.2.2.2.2.2⟩) (fun _ => rfl) Try.underlying33 (by kernel_rfl)
    (opensF_cons (off := 1) (by kernel_rfl) rfl op_i (opensF_cons (off := 2) (by kernel_rfl) rfl op_i (opensF_cons (off := 3) (by kernel_rfl) rfl op_is (opensF_cons (off := 4) (by kernel_rfl) rfl op_is (opensF_cons (off := 5) (by kernel_rfl) rfl op_is (opensF_one (by kernel_rfl) op_i))))))).imp (fun _ h => h) (fun _ => Nat.zero_le _)
theorem opens_In : Opens 38 kIn goodIn (fun _ => 1) :=
  (opens_struct (g := fun x : In => (x.osd, x.life, x.now, x.head, x.next)) (gi := fun p => ⟨p.1, p.2.1, p.2.2.1, p.2.2.2.1, p.2.2.2.2⟩) (fun _ => rfl) Try.underlying38 (by kernel_rfl)
    (opensF_cons (off := 1) (by kernel_rfl) rfl op_i (opensF_cons (off := 2) (by kernel_rfl) rfl op_i (opensF_cons (off := 3) (by kernel_rfl) rfl op_i (opensF_cons (off := 4) (by kernel_rfl) rfl op_i (opensF_one (by kernel_rfl) opens_Ss)))))).imp (fun _ h => h) (fun _ => by simp only [lbulk]; omega)
theorem opens_Ivs : Opens 22 (Kd.slice 33 kIv) (fun xs => (∀ x ∈ xs, goodIv x) ∧ xs.length * 96 ≤ reachBytes) (fun xs => lbulk (fun _ => 0) xs + 1) := opens_slice Try.underlying22 (by kernel_rfl) (by kernel_rfl) opens_Iv
theorem opens_Ins : Opens 23 (Kd.slice 38 kIn) (fun xs => (∀ x ∈ xs, goodIn x) ∧ xs.length * 56 ≤ reachBytes) (fun xs => lbulk (fun _ => 1) xs + 1) := opens_slice Try.underlying23 (by kernel_rfl) (by kernel_rfl) opens_In
theorem three_of {α : Type} : ∀ {xs : List α}, xs.length = 3 → ∃ a b c, xs = [a, b, c]
  | [a, b, c], _ => ⟨a, b, c, rfl⟩
  | [], h => by simp at h
  | [_], h => by simp at h
  | [_, _], h => by simp at h
  | _ :: _ :: _ :: _ :: _, h => by simp at h
/-- An array of three whole numbers. -/
theorem opens_array3 {t e : TypeId} {k : IntKind} (ht : Try.prog.underlying t = some (.array 3 e)) (hc : Try.prog.cellsOf t = 3) (he : Try.prog.cellsOf e = 1) (hi : Try.prog.underlying e = some (.int k)) :
    Opens t (Kd.pair (Kd.int k) (Kd.pair (Kd.int k) (Kd.int k))) (fun x => (Lit.int k x.1).wf = true ∧ (Lit.int k x.2.1).wf = true ∧ (Lit.int k x.2.2).wf = true) (fun _ => 1) := by
  refine ⟨?_⟩
  intro H enc w fuel cs y ps h hw
  cases fuel with
  | zero => simp [DataW.trod] at h
  | succ m =>
    unfold DataW.trod at h
    rw [ht] at h
    simp only at h
    split at h
    · rename_i hl
      obtain ⟨xs, hxs, hx⟩ := Option.map_eq_some_iff.1 h
      have e1 := (congrArg Prod.fst hx).symm
      clear hx
      subst e1
      have hlen := mapM_some_length hxs
      have g0 := mapM_some_get hxs 0 0 rfl
      have g1 := mapM_some_get hxs 1 1 rfl
      have g2 := mapM_some_get hxs 2 2 rfl
      obtain ⟨⟨y0, p0⟩, ⟨y1, p1⟩, ⟨y2, p2⟩, rfl⟩ := three_of (xs := xs) (by simpa using hlen)
      rw [hc] at hl
      rw [he] at g0 g1 g2
      simp only [DataW.weights, ht, DataW.weightsAll, List.map_cons, List.map_nil, List.mem_append] at hw
      have h1 : Opens e (Kd.int k) (fun n => (Lit.int k n).wf = true) (fun _ => 1) := opens_int hi
      obtain ⟨x0, a1, a2, a3⟩ := h1.out enc w m _ y0 p0 g0 (fun q hq => hw q (.inl hq))
      obtain ⟨x1, b1, b2, b3⟩ := h1.out enc w m _ y1 p1 g1 (fun q hq => hw q (.inr (.inl hq)))
      obtain ⟨x2, c1, c2, c3⟩ := h1.out enc w m _ y2 p2 g2 (fun q hq => hw q (.inr (.inr (.inl hq))))
      refine ⟨(x0, x1, x2), ?_, ⟨a2, b2, c2⟩, one_le _⟩
      obtain ⟨v0, v1, v2, rfl⟩ := three_of hl
      have d0 : [v0] = [Value.int k x0] := a1
      have d1 : [v1] = [Value.int k x1] := b1
      have d2 : [v2] = [Value.int k x2] := c1
      injection d0 with d0 _; injection d1 with d1 _; injection d2 with d2 _
      subst d0 d1 d2
      exact ⟨[_], [_, _], rfl, rfl, [_], [_], rfl, rfl, rfl⟩
    · cases h
theorem opens_a3 : Opens 24 (Kd.pair (Kd.int .i64) (Kd.pair (Kd.int .i64) (Kd.int .i64))) (fun x => wfI x.1 ∧ wfI x.2.1 ∧ wfI x.2.2) (fun _ => 1) := opens_array3 Try.underlying24 (by kernel_rfl) (by kernel_rfl) Try.underlying3
theorem a3_open {w : World} {x : Int × Int × Int} {cs : Array Value} (h : (Kd.pair (Kd.int .i64) (Kd.pair (Kd.int .i64) (Kd.int .i64))).K w x cs.toList) : cs = #[.int .i64 x.1, .int .i64 x.2.1, .int .i64 x.2.2] := by
  obtain ⟨_, _, h1, rfl, _, _, rfl, rfl, rfl⟩ := h
  exact Array.ext' h1
theorem walkKeeps (A0 : Option Addr) (c0 : Nat) (x0 : List Iv) (A1 : Option Addr) (c1 : Nat) (x1 : List In) (cs2 : Array Value) (x2 : Int × Int × Int) (w : World) (_ : x0.length ≤ c0) (h0 : kIv.C w A0 x0.length x0) (_ : (∀ x ∈ x0, goodIv x) ∧ x0.length * 96 ≤ reachBytes)
    (_ : x1.length ≤ c1) (h1 : kIn.C w A1 x1.length x1) (g1 : (∀ x ∈ x1, goodIn x) ∧ x1.length * 56 ≤ reachBytes) (h2 : (Kd.pair (Kd.int .i64) (Kd.pair (Kd.int .i64) (Kd.int .i64))).K w x2 cs2.toList) (_ : wfI x2.1 ∧ wfI x2.2.1 ∧ wfI x2.2.2) :
    Calls Try.prog 3 #[.slice A0 x0.length c0, .slice A1 x1.length c1, .agg cs2] w fun e w' => e = .returned (.bool true) ∧ Below w.heap.size w w' := by
  obtain ⟨l, rfl, hl, hgl⟩ := C_conv (d' := kX) (f := fun y : Xe => y.x) (G := GoodX) rfl conv_Iv h0
  obtain ⟨es, rfl, he, hge⟩ := C_conv (d' := kE) (f := fun y : Ie => y.x) (G := GoodE) rfl conv_In h1
  obtain rfl := a3_open h2
  simp only [List.length_map] at g1 ⊢
  by_cases hk : 1 ≤ x2.2.2
  · obtain ⟨k, hk2⟩ := Int.eq_ofNat_of_zero_le (show 0 ≤ x2.2.2 by omega)
    cases hf : falls (xs_ l)
    · exact keeps_bad A0 c0 l A1 c1 es w x2.1 x2.2.1 x2.2.2 hl (.inr hf)
    · rw [hk2]
      refine keeps_good A0 c0 l A1 c1 es w x2.1 x2.2.1 k hl hgl he (fun i hi => ⟨hge i hi, (g1.1 _ (List.mem_map.2 ⟨i, hi, rfl⟩)).1⟩) ?_ (by omega) hf
      have := g1.2
      simp only [reachBytes] at this
      omega
  · exact keeps_bad A0 c0 l A1 c1 es w x2.1 x2.2.1 x2.2.2 hl (.inl (by omega))
end Go.Proofs.Ytffmhbblcihogaa.PeerO
