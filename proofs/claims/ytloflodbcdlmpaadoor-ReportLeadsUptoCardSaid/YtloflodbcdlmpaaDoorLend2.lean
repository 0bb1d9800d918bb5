/- copy of whole elements (DRAFT, under way). || dowelbook.LendSpans: a copy in new memory, with its holder's two nodes behind the end. Conditions: a list of at most 2^21 nodes. || What a law's statement gives of a list of nodes that it takes: its length, its numbers. || dowelbook.KeptSpans of a list that was lent and left alone answers true. Conditions: a list of at most 2^21 nodes. || What was lent, as a row of its holder's own; a block that was just made. -/
import Derived.Test.YtloflodbcdlmpaaDoorQallx2
import Derived.Laws.CopyRow
namespace Go.Proofs.YtloflodbcdlmpaaDoor.Lend
open Go.RowKit Go.Proofs.YtloflodbcdlmpaaDoor.Qall Go.Proofs.YtloflodbcdlmpaaDoorW.PrintWords Go.Proofs.YtloflodbcdlmpaaDoorW.PrintLast Go.Proofs.YtloflodbcdlmpaaDoorW.PrintMore
set_option linter.unusedSimpArgs false
set_option linter.unusedVariables false
variable {P : Program}
theorem run_copy_rowN (sz : Nat) (w : World) (dT sT ty elem : TypeId) (g o dLen dCap : Nat) (a : Addr) (sLen sCap : Nat) (cur : Array Value) (t : TypeId) (cs : List Value)
    (hu : P.underlying dT = some (.slice elem)) (hs : (P.info? elem).map (·.size) = some sz)
    (hg : w.heap[g]? = some (.cells cur t (0, 0))) (hn : cs.length = Nat.min sLen dLen * sz)
    (hsrc : ∀ j v, cs[j]? = some v → w.cell? (a.add j) = some v) (hfit : o + cs.length ≤ cur.size) (h1 : ∀ v ∈ cs, v.oneCell' = true) :
    (Builtin.copy_ #[dT, sT] ty #[.slice (some ⟨g, o, none⟩) dLen dCap, .slice (some a) sLen sCap]).run P w =
      .ok (goInt (Nat.min sLen dLen)) (w.setRow g (cur.toList.take o ++ cs ++ cur.toList.drop (o + cs.length)).toArray) := by
  have hl := run_loadCells_list (P := P) w a cs hsrc
  have hst := run_storeCells_at P g o t cs 0 cur w hg (by simpa using hfit) h1
  cases hq : P.info? elem with
  | none => simp [hq] at hs
  | some i =>
    have hi : i.size = sz := by simpa [hq] using hs
    simp [Builtin.copy_, run_underlying hu, Builtin.lenOf, Builtin.firstCells, sizeOf, typeInfo, hq, hi, ← hn, hl, hst]
theorem run_copy_zero (sz : Nat) (w : World) (dT sT ty elem : TypeId) (d : Addr) (dLen dCap : Nat) (A : Option Addr) (sCap : Nat)
    (hu : P.underlying dT = some (.slice elem)) (hs : (P.info? elem).map (·.size) = some sz) :
    (Builtin.copy_ #[dT, sT] ty #[.slice (some d) dLen dCap, .slice A 0 sCap]).run P w = .ok (goInt 0) w := by
  cases hq : P.info? elem with
  | none => simp [hq] at hs
  | some i =>
    cases A with
    | none => simp [Builtin.copy_, run_underlying hu, Builtin.lenOf, Builtin.firstCells, sizeOf, typeInfo, hq, storeCells]
    | some a =>
      have hl := run_loadCells_list (P := P) w a [] (by simp)
      simp only [List.length_nil] at hl
      simp [Builtin.copy_, run_underlying hu, Builtin.lenOf, Builtin.firstCells, sizeOf, typeInfo, hq, storeCells, hl]
/-- The cells of nodes. -/
def cells1 (x : S60) : List Value := [.string x.f0, .int .i64 x.f1, .int .i64 x.f2, .int .i64 x.f3]
def cellsOf (l : List S60) : List Value := l.flatMap cells1
theorem cellsOf_length (l : List S60) : (cellsOf l).length = l.length * 4 := by
  induction l with
  | nil => rfl
  | cons x l ih => simp [cellsOf, cells1] at *; omega
theorem cellsOf_append (l m : List S60) : cellsOf (l ++ m) = cellsOf l ++ cellsOf m := by simp [cellsOf]
theorem cellsOf_one (l : List S60) : ∀ v ∈ cellsOf l, v.oneCell' = true := by
  intro v hv
  simp only [cellsOf, List.mem_flatMap, cells1] at hv
  obtain ⟨x, _, hx⟩ := hv
  simp at hx
  rcases hx with rfl | rfl | rfl | rfl <;> rfl
theorem cellsOf_get (l : List S60) : ∀ i (h : i < l.length), ((cellsOf l).drop (i * 4)).take 4 = cells1 l[i] := by
  induction l with
  | nil => intro i h; simp at h
  | cons x l ih =>
    intro i h
    cases i with
    | zero => simp [cellsOf, cells1]
    | succ i =>
      have e : (cellsOf (x :: l)).drop ((i + 1) * 4) = (cellsOf l).drop (i * 4) := by
        rw [show cellsOf (x :: l) = cells1 x ++ cellsOf l from rfl, Nat.succ_mul, Nat.add_comm, ← List.drop_drop]
        rfl
      rw [e, ih i (by simpa using h)]
      rfl
/-- A row of one's own, from its block. -/
theorem R_of (W : World) (base : Nat) (ok : Nat → Prop) (g cap : Nat) (cur : Array Value) (xs : List S60) (hg : W.heap[g]? = some (.cells cur 60 (0, 0))) (hb : base ≤ g) (hok : ok g) (hn : xs.length ≤ cap) (hm : cap ≤ maxLen) (hs : cur.size = cap * 4)
    (ht : cur.toList.take (xs.length * 4) = cellsOf xs) : Kd.R k60 60 W base ok (.slice (some ⟨g, 0, none⟩) xs.length cap) xs := by
  refine ⟨fun k hk => by simp [Value.ownBlock] at hk; subst hk; exact hok, cellsOf xs, ⟨cellsOf_length xs, .inr ⟨g, cap, cur, rfl, hb, hg, hn, hm, hs, ht⟩⟩, ⟨cellsOf_length xs, fun j p hp => ?_⟩⟩
  obtain ⟨hlt, rfl⟩ := List.getElem?_eq_some_iff.1 hp
  show k60.M W base _ xs[j] (((cellsOf xs).drop (j * 4)).take 4)
  rw [cellsOf_get xs j hlt]
  exact k60_mkM W base _ xs[j]
/-- What is read of a list, cell by cell. -/
theorem C_cells {W : World} {A : Option Addr} {l : List S60} (h : Kd.C k60 W A l.length l) (hp : 0 < l.length) : ∃ ad, A = some ad ∧ ∀ j v, (cellsOf l)[j]? = some v → W.cell? (ad.add j) = some v := by
  obtain ⟨ad, _, rfl, _⟩ := Kd.C_get h z60 0 (by omega) (by omega)
  refine ⟨ad, rfl, fun j v hv => ?_⟩
  have hj : j < (cellsOf l).length := (List.getElem?_eq_some_iff.1 hv).1
  rw [cellsOf_length] at hj
  have hi : j / 4 < l.length := by omega
  obtain ⟨ad2, c, e, _, hK, hc⟩ := Kd.C_get h z60 ((j / 4 : Nat) : Int) (by omega) (by omega)
  obtain rfl : ad = ad2 := Option.some.inj e
  rw [Int.toNat_natCast] at hK hc
  have e2 : l.getD (j / 4) z60 = l[j / 4] := by rw [List.getD_eq_getElem?_getD, List.getElem?_eq_getElem hi]; rfl
  rw [e2] at hK
  have hk := k60_open hK
  have e3 := cellsOf_get l (j / 4) hi
  have e4 : c[j % 4]? = some v := by
    rw [hk]
    show (cells1 l[j / 4])[j % 4]? = some v
    rw [← e3, List.getElem?_take, if_pos (by omega), List.getElem?_drop, show j / 4 * 4 + j % 4 = j by omega]
    exact hv
  have := hc (j % 4) v e4
  rw [show k60.sz = 4 from rfl, show j / 4 * 4 + j % 4 = j by omega] at this
  exact this
end Go.Proofs.YtloflodbcdlmpaaDoor.Lend
namespace Go.Proofs.YtloflodbcdlmpaaDoor.Lend
open Go.RowKit Go.Proofs.YtloflodbcdlmpaaDoor.Qall Go.Proofs.YtloflodbcdlmpaaDoorW.PrintWords Go.Proofs.YtloflodbcdlmpaaDoorW.PrintLast Go.Proofs.YtloflodbcdlmpaaDoorW.PrintMore
set_option linter.unusedSimpArgs false
set_option linter.unusedVariables false
theorem wpList_storeN {P : Program} {W : World} {ops : Array Oper} {rest : List Oper} {o : Oper} {a : Act} {Q : Exit → Act → World → Prop} (hN : o.dst = none) (hgd : o.guard = none) (t : TypeId) (p x : Operand) (ho : o.op = .store t p x) (e : TypeId) (g off : Nat) (u : Value) (seg : List Value) (cur : Array Value)
    (haddr : a.eval p = .pointer (some ⟨g, off, none⟩)) (hx : a.eval x = u) (hu : u.cells.toList = seg) (ht : (P.info? t).map (·.size) = some seg.length) (h1 : ∀ q ∈ seg, q.oneCell' = true) (hh : W.heap[g]? = some (.cells cur e (0, 0))) (hfit : off + seg.length ≤ cur.size)
    (h : ∀ w1 cur', w1.heap[g]? = some (.cells cur' e (0, 0)) → cur'.size = cur.size → cur'.toList = cur.toList.take off ++ seg ++ cur.toList.drop (off + seg.length) → W.grownBy w1 (some g) → wpList P ops Q rest a w1) : wpList P ops Q (o :: rest) a W := by
  have hrun := run_store_run (P := P) t u seg hh hu ht hfit h1
  obtain ⟨cur', h3, h4, h5⟩ := setCells_row seg off W cur hh hfit
  obtain ⟨s1, s2, s3, s4⟩ := setCells_same g seg off W
  refine wpList_plain hgd fun K hK => ?_
  unfold Oper.wp execOp
  simp only [ho, haddr, hx, Sem.run_bind, Sem.run_pure, Result.andThen_ok, hrun]
  show K (a.put o.dst undef) _
  rw [hN]
  exact hK _ _ (h _ cur' h3 h4 h5 ⟨s1, s2, s3, by rw [s4]; exact Nat.le_refl _, fun k _ hk => setCells_far seg _ k (fun he => hk (by rw [he]))⟩)
/-- What stands behind the end of a list that was lent. -/
def lent : List S60 := [⟨⟨#[]⟩, 0, 0, -78⟩, ⟨⟨#[]⟩, 0, 0, -100077⟩]
theorem copy_run (P : Program) (W : World) (dT ty elem : TypeId) (hu : P.underlying dT = some (.slice elem)) (hs : (P.info? elem).map (·.size) = some 4) (g cap dLen : Nat) (cur : Array Value) (l : List S60) (A : Option Addr) (c0 : Nat) (hC : Kd.C k60 W A l.length l) (hd : l.length ≤ dLen) (hcap : dLen ≤ cap) (hg : W.heap[g]? = some (.cells cur elem (0, 0))) (hcs : cur.size = cap * 4) :
    ∃ W' cur', (Builtin.copy_ #[dT, dT] ty #[.slice (some ⟨g, 0, none⟩) dLen cap, .slice A l.length c0]).run P W = .ok (goInt l.length) W' ∧ W'.heap[g]? = some (.cells cur' elem (0, 0)) ∧ cur'.toList = cellsOf l ++ cur.toList.drop (l.length * 4) ∧ W.grownBy W' (some g) := by
  by_cases h0 : l.length = 0
  · refine ⟨W, cur, ?_, hg, ?_, World.grownBy.refl W _⟩
    · rw [h0]; exact run_copy_zero 4 W dT dT ty elem ⟨g, 0, none⟩ dLen cap A c0 hu hs
    · rw [h0, List.eq_nil_of_length_eq_zero h0]; rfl
  · obtain ⟨ad, rfl, hsrc⟩ := C_cells hC (by omega)
    have hmin : Nat.min l.length dLen = l.length := Nat.min_eq_left hd
    have hr := run_copy_rowN (P := P) 4 W dT dT ty elem g 0 dLen cap ad l.length c0 cur elem (cellsOf l) hu hs hg (by rw [hmin]; exact cellsOf_length l) hsrc (by rw [cellsOf_length]; omega) (cellsOf_one l)
    rw [hmin] at hr
    refine ⟨_, _, hr, setRow_heap W g cur _ elem _ hg, ?_, ⟨rfl, rfl, rfl, by simp [World.setRow], fun k _ hk => setRow_other W g k _ (fun e => hk (by rw [e]))⟩⟩
    simp [cellsOf_length]
set_option maxRecDepth 100000 in
set_option maxHeartbeats 4000000 in
theorem lend (l : List S60) (A : Option Addr) (c0 : Nat) (w : World) (hC : Kd.C k60 w A l.length l) (hl : l.length ≤ 2097152) :
    Calls Tryd.prog 23 #[.slice A l.length c0] w fun e w' => ∃ g cap cur, w.heap.size ≤ g ∧ e = .returned (.slice (some ⟨g, 0, none⟩) l.length cap) ∧ l.length + 2 ≤ cap ∧ cap ≤ maxLen ∧ w'.heap[g]? = some (.cells cur 60 (0, 0)) ∧ cur.size = cap * 4 ∧ cur.toList.take ((l.length + 2) * 4) = cellsOf (l ++ lent) ∧ Below w.heap.size w w' := by
  have hw2 : wrap64 ((l.length : Int) + 2) = (l.length : Int) + 2 := by unfold wrap64; omega
  go_enter Tryd.func23, Tryd.ntmps23
  go_wp2_with (first | ((with_reducible refine gate_dst (N := 7) rfl ?_); (try (refine gate_guard (by rfl) ?_; dsimp only)); refine Kd.R_make k60 _ 60 rfl (N := 7) rfl 22 _ _ rfl ((l.length : Int) + 2) rfl rfl Tryd.underlying22 (.agg #[(.string ⟨#[]⟩), (.int .i64 0), (.int .i64 0), (.int .i64 0)]) 40 info60 rfl (by decide) (by omega) z60 (ok := fun _ => True) (okp := fun _ => True) (k60_mkM _ _ _ z60) (fun _ hk => hk) trivial (by omega) (by omega) (Below.refl _ _) (Nat.le_refl _) ?_; intro v1 w4 ho hb hg hnew))
  obtain ⟨inner, hlen, hcase⟩ := Kd.R_own ho
  have hlr : (List.replicate ((l.length : Int) + 2).toNat z60).length = l.length + 2 := by rw [List.length_replicate]; omega
  rw [hlr] at hcase
  obtain ⟨g, cap, cur, rfl, hbg, hcur, hcap, hmax, hcs, htake⟩ := hcase.resolve_left (fun h => by omega)
  obtain ⟨w5, cur5, hrun, hcur5, hl5, hg5⟩ := copy_run Tryd.prog w4 22 3 60 Tryd.underlying22 (by kernel_rfl) g cap (l.length + 2) cur l A c0 (Kd.C_below hC hb) (by omega) hcap hcur hcs
  clear ho hlen hnew
  rw [hrun]
  clear hw2 hrun htake
  have HM := Aside0.mk hmax
  clear hmax
  have HC := Aside0.mk hcs
  clear hcs
  have HL := Aside0.mk hl5
  clear hl5 hcur
  have hm1 : dowelbook_spansMark.f 77 = some (⟨#[]⟩, 0, 0, -78) := by decide +kernel
  have hm2 : dowelbook_spansMore.f 77 = some (⟨#[]⟩, 0, 0, -100077) := by decide +kernel
  have h5lt : g < w5.heap.size := (Array.getElem?_eq_some_iff.1 hcur5).1
  have h5s : cur5.size = cap * 4 := by
    have q1 := congrArg List.length HL.out
    simp only [Array.length_toList, List.length_append, cellsOf_length, List.length_drop] at q1
    have q2 : cur.size = cap * 4 := HC.out
    omega
  go_wp2_with (first
    | (go_at_call 33; refine (dowelbook_spansMark.calls 77 _ _ _ _ _ hm1).mono ?_; rintro e w6 ⟨rfl, hb6⟩; have hcur6 := (hb6.block g h5lt).trans hcur5)
    | (refine gate_ (.store 60 (.tmp 15) (.tmp 14)) rfl ?_; refine wpList_storeN rfl rfl 60 _ _ rfl 60 g (l.length * 4) _ (cells1 ⟨⟨#[]⟩, 0, 0, -78⟩) cur5 rfl rfl rfl (by kernel_rfl) (by decide) hcur6 (by simp [cells1]; omega) ?_; intro w7 cur7 hcur7 hs7 hl7 hg7; have h7lt : g < w7.heap.size := (Array.getElem?_eq_some_iff.1 hcur7).1; have HL7 := Aside0.mk hl7; clear hl7)
    | (go_at_call 34; refine (dowelbook_spansMore.calls 77 _ _ _ _ _ hm2).mono ?_; rintro e w8 ⟨rfl, hb8⟩; have hcur8 := (hb8.block g h7lt).trans hcur7)
    | (refine gate_ (.store 60 (.tmp 21) (.tmp 20)) rfl ?_; refine wpList_storeN rfl rfl 60 _ _ rfl 60 g ((l.length + 1) * 4) _ (cells1 ⟨⟨#[]⟩, 0, 0, -100077⟩) cur7 rfl rfl rfl (by kernel_rfl) (by decide) hcur8 (by simp [cells1]; omega) ?_; intro w9 cur9 hcur9 hs9 hl9 hg9; have HL9 := Aside0.mk hl9; clear hl9))
  go_ret
  have b5 := hb.grown hg5 hb.size (fun k e => by cases e; exact hbg)
  have b6 := b5.trans (hb6.mono b5.size)
  have b7 := b6.grown hg7 b6.size (fun k e => by cases e; exact hbg)
  have b8 := b7.trans (hb8.mono b7.size)
  have b9 := b8.grown hg9 b8.size (fun k e => by cases e; exact hbg)
  refine ⟨g, cap, cur9, hbg, rfl, hcap, HM.out, hcur9, by omega, ?_, b9⟩
  have e5 : cur5.toList.take (l.length * 4) = cellsOf l := by rw [HL.out, ← cellsOf_length, List.take_left]
  have c1 : (cells1 (⟨⟨#[]⟩, 0, 0, -78⟩ : S60)).length = 4 := rfl
  have c2 : (cells1 (⟨⟨#[]⟩, 0, 0, -100077⟩ : S60)).length = 4 := rfl
  have e7 : cur7.toList.take ((l.length + 1) * 4) = cellsOf l ++ cells1 ⟨⟨#[]⟩, 0, 0, -78⟩ := by
    rw [HL7.out, e5, List.take_left' (by rw [List.length_append, cellsOf_length, c1]; omega)]
  rw [HL9.out, e7, List.take_left' (by simp only [List.length_append, cellsOf_length, c1, c2]; omega), cellsOf_append, List.append_assoc]
  rfl
end Go.Proofs.YtloflodbcdlmpaaDoor.Lend
namespace Go.Proofs.YtloflodbcdlmpaaDoor.Lend
open Go.RowKit Go.Proofs.YtloflodbcdlmpaaDoor.Qall Go.Proofs.YtloflodbcdlmpaaDoorW.PrintWords Go.Proofs.YtloflodbcdlmpaaDoorW.PrintLast Go.Proofs.YtloflodbcdlmpaaDoorW.PrintMore
theorem wf_le {i : Int} (h : (Lit.int .i64 i).wf = true) : i ≤ 9223372036854775807 := by
  have h2 : -9223372036854775808 ≤ i ∧ i ≤ 9223372036854775807 := by simp [Lit.wf, IntKind.min, IntKind.max, IntKind.signed, IntKind.bits] at h; exact h
  exact h2.2
theorem wf_ge {i : Int} (h : (Lit.int .i64 i).wf = true) : -9223372036854775808 ≤ i := by
  have h2 : -9223372036854775808 ≤ i ∧ i ≤ 9223372036854775807 := by simp [Lit.wf, IntKind.min, IntKind.max, IntKind.signed, IntKind.bits] at h; exact h
  exact h2.1
end Go.Proofs.YtloflodbcdlmpaaDoor.Lend
namespace Go.Proofs.YtloflodbcdlmpaaDoor.Lend
open Go.RowKit Go.Proofs.YtloflodbcdlmpaaDoor.Qall Go.Proofs.YtloflodbcdlmpaaDoorW.PrintWords Go.Proofs.YtloflodbcdlmpaaDoorW.PrintLast Go.Proofs.YtloflodbcdlmpaaDoorW.PrintMore
set_option linter.unusedSimpArgs false
set_option linter.unusedVariables false
theorem wrap_of {i : Int} (h0 : -9223372036854775808 ≤ i) (h1 : i ≤ 9223372036854775807) : wrap64 i = i := by
  unfold wrap64
  omega
end Go.Proofs.YtloflodbcdlmpaaDoor.Lend
namespace Go.Proofs.YtloflodbcdlmpaaDoor.Free
open Go.RowKit Go.Proofs.YtloflodbcdlmpaaDoor.Qall Go.Proofs.YtloflodbcdlmpaaDoorW.PrintWords Go.Proofs.YtloflodbcdlmpaaDoorW.PrintLast Go.Proofs.YtloflodbcdlmpaaDoorW.PrintMore
set_option linter.unusedSimpArgs false
set_option linter.unusedVariables false
theorem heap_new (W : World) (o : Obj) : (W.alloc o).heap[W.heap.size]? = some o := Array.getElem?_push_size
theorem heap_new1 (W : World) (o p : Obj) : ((W.alloc p).alloc o).heap[W.heap.size + 1]? = some o := by
  have := heap_new (W.alloc p) o
  rw [World.size_alloc] at this
  exact this
/-- What was lent, as a row of its holder's own. -/
theorem own_R (W : World) (base g cap : Nat) (cur : Array Value) (l : List S60) (hg : W.heap[g]? = some (.cells cur 60 (0, 0))) (hb : base ≤ g) (hcap : l.length + 2 ≤ cap) (hmax : cap ≤ maxLen) (hs : cur.size = cap * 4) (ht : cur.toList.take ((l.length + 2) * 4) = Lend.cellsOf (l ++ Lend.lent)) :
    Kd.R k60 60 W base (fun _ => True) (.slice (some ⟨g, 0, none⟩) l.length cap) l := by
  refine Lend.R_of W base (fun _ => True) g cap cur l hg hb trivial (by omega) hmax hs ?_
  have h1 := congrArg (List.take (l.length * 4)) ht
  rw [List.take_take, Nat.min_eq_left (by omega), Lend.cellsOf_append, List.take_left' (Lend.cellsOf_length l)] at h1
  exact h1
end Go.Proofs.YtloflodbcdlmpaaDoor.Free
