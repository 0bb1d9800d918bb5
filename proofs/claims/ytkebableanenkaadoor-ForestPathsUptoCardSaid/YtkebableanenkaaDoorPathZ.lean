/- forest.Find of a path that is too long. Conditions: a right forest of at most 2^20 nodes. || forest.Find of any path, over a right forest: what it tells. Conditions: at most 2^20 nodes. || Facts that the law ForestPaths asks of its answers: the plain law. || The walk over a forest that the law ForestPaths makes: what its body keeps. -/
import Derived.Test.YtkebableanenkaaDoorFind2
import Derived.Test.YtkebableanenkaaDoorPathX
import Derived.Test.YtkebableanenkaaDoorPathY
import Derived.Test.YtkebableanenkaaDoorIts
import Derived.Test.YtkebableanenkaaDoorText2
namespace Go.Proofs.YtkebableanenkaaDoor.Fi
open Go.RowKit Go.Proofs.YtkebableanenkaaDoor.Qall Go.Proofs.YtkebableanenkaaDoor.Fo Go.Proofs.YtkebableanenkaaDoor.Chk Go.Proofs.YtkebableanenkaaDoorW.PrintWords Go.Proofs.YtkebableanenkaaDoorW.PrintLast Go.Proofs.YtkebableanenkaaDoorW.PrintMore
set_option linter.unusedSimpArgs false
set_option linter.unusedVariables false
set_option maxRecDepth 100000 in
set_option maxHeartbeats 4000000 in
theorem find_long (f : List SC) (hn : f.length ≤ 2097152) (M : Nat) (hM : ∀ x ∈ f, x.f0.size ≤ M) (hM2 : M ≤ 1073741824) (t : ByteArray) (hcke : chkAns f 65536 = 0) (hbig : 65536 < t.size)
    (Af : Option Addr) (cf : Nat) (W : World) (hCf : Kd.C k37 W Af f.length f) (hcf : f.length ≤ cf) :
    Calls Tryd.prog 21 #[.slice Af f.length cf, .string t] W fun e w' => ∃ v, e = .returned (.tuple #[v, .agg #[.int .i64 0, .int .i64 1]]) ∧ Kd.R (Kd.int .i64) 3 w' W.heap.size (fun _ => True) v [] ∧ Below W.heap.size W w' := by
  have hu := Tryd.underlying25
  have hck := fun W' (hC : Kd.C k37 W' Af f.length f) => check_calls f hn 65536 M hM hM2 Af cf W' hC hcf
  rw [hcke] at hck
  have HCK := Aside0.mk hck
  have HC := Aside0.mk hCf
  clear hck hcke hM
  have p1 : decide (65536 < (t.size : Int)) = true := decide_eq_true (by omega)
  have p2 : decide (65536 < t.size) = true := decide_eq_true hbig
  clear hbig
  go_enter Tryd.func21, Tryd.ntmps21
  go_wp2_with (first | ((with_reducible refine gate_dst (N := 5) rfl ?_); (try (refine gate_guard (by rfl) ?_; dsimp only)); refine box_event ?hg (N := 5) ?hd (cs := #[.int .i64 0, .int .i64 0]) (t := 25) ?hr ?_; (case hd => rfl); (case hg => rfl); (case hr => first | (go_simp; done) | (go_simp; rfl)); intro gf hg0 w3 hbox hb0; have GF := Aside0.mk (Nat.le_of_eq hg0.symm : W.heap.size ≤ gf); have HB3 := Aside0.mk hb0; have BF := Aside0.mk hbox; have k0 := (blk_cell hbox 0).trans rfl; have k1 := (blk_cell hbox 1).trans rfl; have z0 := blk_frozen hbox 0; have z1 := blk_frozen hbox 1; clear hg0 hbox hb0))
  go_at_call 20
  refine (HCK.out w3 (Kd.C_below HC.out HB3.out)).mono ?_
  rintro e_ w4 ⟨rfl, hb4⟩
  have k0 := (blk_cell ((hb4.block gf (lt_of_some BF.out)).trans BF.out) 0).trans rfl
  have k1 := (blk_cell ((hb4.block gf (lt_of_some BF.out)).trans BF.out) 1).trans rfl
  have z0 := blk_frozen ((hb4.block gf (lt_of_some BF.out)).trans BF.out) 0
  have z1 := blk_frozen ((hb4.block gf (lt_of_some BF.out)).trans BF.out) 1
  have BF4 := (hb4.block gf (lt_of_some BF.out)).trans BF.out
  have HB4 := HB3.out.trans (hb4.mono HB3.out.size)
  clear hb4
  go_wp2
  refine bodyPost_ret (results_tc rfl _ _ gf 25 #[.int .i64 0, .int .i64 1] (0, 0) _ rfl (blk_put (blk_put BF4 0 _ rfl) 1 _ rfl) hu rfl (by kernel_rfl)) rfl ?_
  exact ⟨_, rfl, Kd.R_nil _ _ _ _ _, (HB4.setCell (p := ⟨gf, 0, none⟩) GF.out _).setCell (p := ⟨gf, 1, none⟩) GF.out _⟩
end Go.Proofs.YtkebableanenkaaDoor.Fi
namespace Go.Proofs.YtkebableanenkaaDoor.Pe
open Go.RowKit Go.Proofs.YtkebableanenkaaDoor.Qall Go.Proofs.YtkebableanenkaaDoor.Fo Go.Proofs.YtkebableanenkaaDoor.Chk Go.Proofs.YtkebableanenkaaDoor.Fi Go.Proofs.YtkebableanenkaaDoorW.PrintWords Go.Proofs.YtkebableanenkaaDoorW.PrintLast Go.Proofs.YtkebableanenkaaDoorW.PrintMore
set_option linter.unusedSimpArgs false
set_option linter.unusedVariables false
def findP (f : List SC) (t : ByteArray) : List Int × Int × Int := if 65536 < t.size then ([], 0, 1) else if (Pa.pathAns t).2.2 = 0 then (stepsAns f (Pa.pathAns t).1 [-1], 0, 0) else ([], (Pa.pathAns t).2.1, (Pa.pathAns t).2.2)
theorem find_p (f : List SC) (hn : f.length ≤ 2097152) (M : Nat) (hM : ∀ x ∈ f, x.f0.size ≤ M) (hM2 : M ≤ 1073741824) (hck : chkAns f 65536 = 0) (t : ByteArray)
    (Af : Option Addr) (cf : Nat) (W : World) (hCf : Kd.C k37 W Af f.length f) (hcf : f.length ≤ cf) :
    Calls Tryd.prog 21 #[.slice Af f.length cf, .string t] W fun e w' => ∃ v, e = .returned (.tuple #[v, .agg #[.int .i64 (findP f t).2.1, .int .i64 (findP f t).2.2]]) ∧ Kd.R (Kd.int .i64) 3 w' W.heap.size (fun _ => True) v (findP f t).1 ∧ Below W.heap.size W w' := by
  by_cases hbig : 65536 < t.size
  · have h : findP f t = ([], 0, 1) := by unfold findP; rw [if_pos hbig]
    rw [h]
    exact find_long f hn M hM hM2 t hck hbig Af cf W hCf hcf
  · obtain ⟨⟨KP, hKP⟩, hl⟩ := Pa.path_ev t (by omega)
    obtain ⟨⟨pl, pa, pc⟩, hx⟩ : ∃ x, Pa.pathAns t = x := ⟨_, rfl⟩
    rw [hx] at hKP hl
    have h : findP f t = findAns f t (pl, pa, pc) := by
      unfold findP findAns
      rw [if_pos hck, if_neg hbig, if_neg hbig, hx]
    rw [h]
    exact find_calls f hn M hM hM2 t KP pl pa pc hKP (by dsimp only at hl; omega) Af cf W hCf hcf
theorem findP_small (f : List SC) (t : ByteArray) (pl : List Pa.ST) (ht : t.size ≤ 65536) (h : Pa.pathAns t = (pl, 0, 0)) : findP f t = (stepsAns f pl [-1], 0, 0) := by
  unfold findP
  rw [if_neg (by omega), h, if_pos rfl]
/-- A fault, or an answer. -/
theorem findP_cases (f : List SC) (t : ByteArray) : ((findP f t).2.1 = 0 ∧ (findP f t).2.2 = 0 ∧ t.size ≤ 65536 ∧ ∃ pl pa, Pa.pathAns t = (pl, pa, 0) ∧ findP f t = (stepsAns f pl [-1], 0, 0)) ∨ ((findP f t).1 = [] ∧ (findP f t).2.2 ≠ 0) := by
  unfold findP
  by_cases hbig : 65536 < t.size
  · right
    rw [if_pos hbig]
    exact ⟨rfl, by decide⟩
  · obtain ⟨⟨pl, pa, pc⟩, hx⟩ : ∃ x, Pa.pathAns t = x := ⟨_, rfl⟩
    rw [if_neg hbig, hx]
    by_cases hpc : pc = 0
    · left
      subst hpc
      rw [if_pos rfl]
      exact ⟨rfl, rfl, by omega, pl, pa, rfl, rfl⟩
    · right
      rw [if_neg hpc]
      exact ⟨rfl, hpc⟩
end Go.Proofs.YtkebableanenkaaDoor.Pe
namespace Go.Proofs.YtkebableanenkaaDoor.Pg
open Go.RowKit Go.Proofs.YtkebableanenkaaDoor.Qall Go.Proofs.YtkebableanenkaaDoor.Fo Go.Proofs.YtkebableanenkaaDoor.Chk Go.Proofs.YtkebableanenkaaDoor.Fi Go.Proofs.YtkebableanenkaaDoor.Nsa Go.Proofs.YtkebableanenkaaDoor.Tra Go.Proofs.YtkebableanenkaaDoorW.PrintWords Go.Proofs.YtkebableanenkaaDoorW.PrintLast Go.Proofs.YtkebableanenkaaDoorW.PrintMore
set_option linter.unusedSimpArgs false
set_option linter.unusedVariables false
theorem ints_l0 (l : List Int) (hn : l.length ≤ 2097152) : ∀ d i, i + d = l.length → ∃ k, dowelbook_Ints.l0 k l l (i : Int) = some true
  | 0, i, h => ⟨1, by rw [dowelbook_Ints.l0, if_neg (by omega)]⟩
  | d + 1, i, h => by
    obtain ⟨k, hk⟩ := ints_l0 l hn d (i + 1) (by omega)
    refine ⟨k + 1, ?_⟩
    rw [dowelbook_Ints.l0, if_pos (by omega), if_pos (by omega), if_pos (by omega), if_pos rfl, Fo.wrap_of (by omega) (by omega)]
    exact hk
theorem ints_self (l : List Int) (hn : l.length ≤ 2097152) : ∃ k, dowelbook_Ints.f k l l = some true := by
  obtain ⟨k, hk⟩ := ints_l0 l hn l.length 0 (by omega)
  refine ⟨k, ?_⟩
  unfold dowelbook_Ints.f
  rw [if_pos rfl]
  exact hk
def pj (a : ByteArray) (j : Nat) : Bool := (a.toList == ([42] : List UInt8)) || Pa.isL (bt a (j : Int)) || Pa.isD (bt a (j : Int))
def oneUp (a : ByteArray) (k : Nat) : Bool := (List.range k).all (pj a)
theorem oneUp_succ (a : ByteArray) (k : Nat) : oneUp a (k + 1) = (oneUp a k && pj a k) := by
  unfold oneUp
  rw [List.range_succ, List.all_append]
  simp
theorem star_list (a : ByteArray) (h : (a.toList == ([42] : List UInt8)) = true) : a = ⟨#[42]⟩ := by
  have h2 := beq_iff_eq.1 h
  rw [Lib.toList_data] at h2
  exact ByteArray.ext (Array.toList_inj.1 h2)
theorem one_deep (t a : ByteArray) (ht : t.data.toList = [47, 47] ++ (a.data.toList ++ [])) (ho : oneUp a a.size = true) (pl : List Pa.ST) (pa : Int) (h : Pa.pathAns t = (pl, pa, 0)) :
    pl = [⟨true, a, 0⟩] ∧ ((a.toList == ([42] : List UInt8)) = false → Pb.Plain a ∧ Pa.isL (bt a 0) = true ∧ 1 ≤ a.size ∧ a.size ≤ 64) := by
  by_cases hs : (a.toList == ([42] : List UInt8)) = true
  · obtain rfl := star_list a hs
    have htt : t = ⟨#[47, 47, 42]⟩ := by
      apply ByteArray.ext
      apply Array.toList_inj.1
      rw [ht]
      rfl
    rw [htt, Pb.path_all] at h
    injection h with h1 _
    exact ⟨h1.symm, fun h2 => by rw [hs] at h2; cases h2⟩
  · have hp : Pb.Plain a := fun j hj => by
      unfold oneUp at ho
      have h1 := List.all_eq_true.1 ho j (List.mem_range.2 hj)
      unfold pj at h1
      rw [Bool.eq_false_iff.2 hs, Bool.false_or, Bool.or_eq_true] at h1
      exact h1
    obtain ⟨g1, g2, g3, g4⟩ := Pb.path_deep t a ht hp pl pa h
    exact ⟨g4, fun _ => ⟨hp, g1, g2, g3⟩⟩
theorem out_true : ∀ (n k : Nat), (outFrom (List.replicate n true) k).length = n
  | 0, k => rfl
  | n + 1, k => by rw [List.replicate_succ, outFrom, if_pos rfl, List.length_cons, out_true n]
theorem all_len (f : List SC) (h : chkAns f 65536 = 0) : ∃ L : List Int, Pe.findP f ⟨#[47, 47, 42]⟩ = (L, 0, 0) ∧ L.length = f.length := by
  refine ⟨_, Pe.findP_small f _ _ (by decide) Pb.path_all, ?_⟩
  rw [Pc.next_all f h ⟨true, ⟨#[42]⟩, 0⟩ rfl rfl]
  unfold Pc.outP
  have : (List.range f.length).map (fun x => fits ⟨true, ⟨#[42]⟩, 0⟩ (nd f x)) = List.replicate f.length true := by
    have hf : ∀ c, fits ⟨true, ⟨#[42]⟩, 0⟩ c = true := fun c => by
      unfold fits
      have : (⟨#[42]⟩ : ByteArray).toList = [42] := by rw [Lib.toList_data]
      rw [this]
      rfl
    rw [List.map_congr_left (g := fun _ => true) (fun x _ => hf _), List.map_const']
    simp
  rw [this, out_true]
theorem outP_len (n : Nat) (p : Nat → Bool) : (Pc.outP n p).length ≤ n := by
  have := outFrom_length ((List.range n).map p) 0
  rw [List.length_map, List.length_range] at this
  exact this
theorem steps_le (f : List SC) (pl : List Pa.ST) (s : Pa.ST) : (stepsAns f (s :: pl) [-1]).length ≤ f.length := by
  have h : ∀ (pl : List Pa.ST) (set : List Int), set.length ≤ f.length → (stepsAns f pl set).length ≤ f.length := by
    intro pl
    induction pl with
    | nil => intro set h; exact h
    | cons s pl ih => intro set h; exact ih _ (nextAns_ok f (elOf f) s set).1
  exact h pl _ (nextAns_ok f (elOf f) s [-1]).1
/-- Of a list that holds another one, both rising: where the other's next stands. -/
theorem stand (z : List Int) (hz : z.Pairwise (· < ·)) (v : Int) (hv : v ∈ z) (at_ : Nat) (hat : ∀ j, j < at_ → ∀ x, z[j]? = some x → x < v) : ∃ p, at_ ≤ p ∧ p < z.length ∧ z[p]? = some v := by
  obtain ⟨p, hp, rfl⟩ := List.mem_iff_getElem.1 hv
  refine ⟨p, ?_, hp, List.getElem?_eq_getElem hp⟩
  refine Nat.le_of_not_lt (fun hlt => ?_)
  have := hat p hlt z[p] (List.getElem?_eq_getElem hp)
  omega
end Go.Proofs.YtkebableanenkaaDoor.Pg
namespace Go.Proofs.YtkebableanenkaaDoor.Ph
open Go.RowKit Go.Shelf Go.Proofs.YtkebableanenkaaDoor.Qall Go.Proofs.YtkebableanenkaaDoor.Fo Go.Proofs.YtkebableanenkaaDoor.Chk Go.Proofs.YtkebableanenkaaDoor.Fi Go.Proofs.YtkebableanenkaaDoor.Nsa Go.Proofs.YtkebableanenkaaDoorW.PrintWords Go.Proofs.YtkebableanenkaaDoorW.PrintLast Go.Proofs.YtkebableanenkaaDoorW.PrintMore
set_option linter.unusedSimpArgs false
set_option linter.unusedVariables false
/-- The iterator's box and its levels stay. -/
def KpL (Bs : Nat) (v : Value) (W W' : World) : Prop := ∀ (k : Nat) (o : Obj), (k = Bs ∨ v.ownBlock = some k) → W.heap[k]? = some o → W'.heap[k]? = some o
theorem KpL.refl (Bs : Nat) (v : Value) (W : World) : KpL Bs v W W := fun _ _ _ h => h
theorem KpL.trans {Bs : Nat} {v : Value} {A B C : World} (h : KpL Bs v A B) (k : KpL Bs v B C) : KpL Bs v A C := fun i o hi h1 => k i o hi (h i o hi h1)
theorem KpL.put {Bs : Nat} {v : Value} (W : World) (l n : Nat) (o' : Obj) (hb : Bs < n) (hv : ∀ k, v.ownBlock = some k → k < n) (hl : n ≤ l) : KpL Bs v W (W.putObj l o') := fun i o hi h1 => by
  have hi2 : i < n := by
    rcases hi with h | h
    · omega
    · exact hv i h
  rw [World.putObj_heap_other (by omega)]
  exact h1
theorem walk_stopsL (F : Fence) (n : Nat) (hf : F.fn 47) (hro : F.round = none) (hn : 1 ≤ n) (Bs base : Nat) (A : Option Addr) (cap : Nat) (zs : List Int) (hz : zs.length ≤ 2097152) (w : World) (ok : Nat → Prop)
    (hBs : Boxed w Bs 49 (.slice A zs.length cap)) (hR : Kd.R (Kd.int .i64) 3 w base ok (.slice A zs.length cap) zs) :
    SeqStopsK F n Tryd.prog 47 #[.pointer (some ⟨Bs, 0, none⟩)] (fun x : Fin zs.length => #[Value.int .i64 (x.1 : Int), Value.int .i64 (zs[x.1]?.getD 0)]) (KpL Bs (.slice A zs.length cap)) (fun ys => ys = upF zs.length zs.length)
      (fun pre => ∃ k, k ≤ zs.length ∧ pre = upF zs.length k) zs.length w := fun l J Jx W hW _ _ hY h0 => by
  refine walk1_inF F n hf hro hn l Bs (KpL Bs (.slice A zs.length cap)) (KpL.refl Bs _) KpL.trans A cap zs hz J Jx hY W ((hW.cell (p := ⟨Bs, 0, none⟩) hBs.lt).trans hBs.cell) (fun j hj => ?_) h0
  have hRW := Kd.R_below hR hW
  have hRW' : ∀ W', KpL Bs (.slice A zs.length cap) W W' → Kd.R (Kd.int .i64) 3 W' base (fun _ => True) (.slice A zs.length cap) zs := fun W' hk => by
    refine Kd.R_mono (Kd.R_move (Kd.R_bound (Kd.R_tight rfl hRW)) (fun k hk2 => ?_)) (fun _ _ => trivial)
    obtain ⟨h1, _, h3, q, hq, cells, hc⟩ := hk2
    rw [hc]
    exact hk k _ (.inr (by first | exact h1 | exact h1.symm)) hc
  obtain ⟨ad, rfl, _⟩ := Kd.at_int (Kd.R_reads' (hRW' W (KpL.refl _ _ _))).2.2 (j : Int) (by omega) (by omega)
  refine ⟨ad, rfl, fun W' hk => ?_⟩
  obtain ⟨ad2, e2, hx⟩ := Kd.at_int (Kd.R_reads' (hRW' W' hk)).2.2 (j : Int) (by omega) (by omega)
  cases e2
  rw [Int.toNat_natCast] at hx
  rw [hx]
  unfold rd
  rw [Int.toNat_natCast, List.getD_eq_getElem?_getD]
/-- The root, and what was collected, behind some nodes. -/
def rootF (zs : List Int) : List Nat → Int := List.foldl (fun r x => if zs[x]?.getD 0 = 0 then (x : Int) else r) (-1)
def hitF (f : List SC) (a b : ByteArray) (r : Int) (x : Nat) : Bool := ((rd_T37 f r).f0.toList == a.toList) && ((nd f x).f0.toList == b.toList)
def stF (f : List SC) (zs : List Int) (a b : ByteArray) (s : Int × List Int) (x : Nat) : Int × List Int := if zs[x]?.getD 0 = 0 then ((x : Int), s.2) else (s.1, if hitF f a b s.1 x = true then s.2 ++ [(x : Int)] else s.2)
def goF (f : List SC) (zs : List Int) (a b : ByteArray) (l : List Nat) : Int × List Int := l.foldl (stF f zs a b) (-1, [])
theorem goF_snoc (f : List SC) (zs : List Int) (a b : ByteArray) (l : List Nat) (x : Nat) : goF f zs a b (l ++ [x]) = stF f zs a b (goF f zs a b l) x := by
  unfold goF
  rw [List.foldl_append]
  rfl
theorem goF_len (f : List SC) (zs : List Int) (a b : ByteArray) : ∀ l : List Nat, (goF f zs a b l).2.length ≤ l.length := by
  have h : ∀ (l : List Nat) (s : Int × List Int), (l.foldl (stF f zs a b) s).2.length ≤ s.2.length + l.length := by
    intro l
    induction l with
    | nil => intro s; simp
    | cons x l ih =>
      intro s
      have h1 := ih (stF f zs a b s x)
      have h2 : (stF f zs a b s x).2.length ≤ s.2.length + 1 := by
        unfold stF
        split
        · simp
        · split <;> simp
      rw [List.foldl_cons, List.length_cons]
      omega
  intro l
  have := h l (-1, [])
  simpa [goF] using this
theorem goF_root (f : List SC) (zs : List Int) (a b : ByteArray) (n : Nat) : ∀ l : List Nat, (∀ x ∈ l, x < n) → -1 ≤ (goF f zs a b l).1 ∧ (goF f zs a b l).1 < (max n 0 : Nat) := by
  have h : ∀ (l : List Nat) (s : Int × List Int), (∀ x ∈ l, x < n) → (-1 ≤ s.1 ∧ s.1 < (max n 0 : Nat)) → -1 ≤ (l.foldl (stF f zs a b) s).1 ∧ (l.foldl (stF f zs a b) s).1 < (max n 0 : Nat) := by
    intro l
    induction l with
    | nil => intro s _ hs; exact hs
    | cons x l ih =>
      intro s hl hs
      have hx := hl x (List.mem_cons_self ..)
      refine ih _ (fun y hy => hl y (List.mem_cons_of_mem _ hy)) ?_
      unfold stF
      split
      · exact ⟨by show (-1 : Int) ≤ (x : Int); omega, by show (x : Int) < _; omega⟩
      · exact hs
  intro l hl
  refine h l (-1, []) hl ⟨by decide, ?_⟩
  show (-1 : Int) < _
  omega
theorem outP_succ (n : Nat) (p : Nat → Bool) : Pc.outP (n + 1) p = if p n = true then Pc.outP n p ++ [(n : Int)] else Pc.outP n p := by
  have h : ∀ (l : List Bool) (k : Nat) (b : Bool), outFrom (l ++ [b]) k = outFrom l k ++ (if b = true then [((k + l.length : Nat) : Int)] else []) := by
    intro l
    induction l with
    | nil => intro k b; cases b <;> simp [outFrom]
    | cons c l ih =>
      intro k b
      rw [List.cons_append, outFrom, outFrom, ih, List.length_cons, show k + 1 + l.length = k + (l.length + 1) by omega]
      split <;> simp
  unfold Pc.outP
  rw [List.range_succ, List.map_append, List.map_cons, List.map_nil, h, List.length_map, List.length_range, Nat.zero_add]
  split <;> simp
/-- Behind the first nodes in their row. -/
theorem goF_up (f : List SC) (zs : List Int) (a b : ByteArray) : ∀ k, goF f zs a b (List.range k) = (Pd.rootAt zs k, Pc.outP k (Pd.wantP f zs a b))
  | 0 => rfl
  | k + 1 => by
    rw [List.range_succ, goF_snoc, goF_up f zs a b k, outP_succ]
    unfold stF
    show (if _ then _ else _) = ((if zs[k]?.getD 0 = 0 then (k : Int) else Pd.rootAt zs k), _)
    by_cases h : zs[k]?.getD 0 = 0
    · rw [if_pos h, if_pos h]
      have hw : Pd.wantP f zs a b k = false := by unfold Pd.wantP; rw [decide_eq_true h]; rfl
      rw [if_neg (by rw [hw]; decide)]
    · rw [if_neg h, if_neg h]
      have hw : Pd.wantP f zs a b k = hitF f a b (Pd.rootAt zs k) k := by unfold Pd.wantP hitF; rw [decide_eq_false h]; rfl
      rw [hw]
abbrev enc : Int → Value := .int .i64
/-- Between two rounds. -/
def PI (f : List SC) (zs : List Int) (a b : ByteArray) (gw gr : Nat) (wo : World) (n1 : Nat) (pre : List (Fin zs.length)) (W : World) : Prop :=
  Boxed W gr 3 (.int .i64 (goF f zs a b (pre.map (·.1))).1) ∧ Below wo.heap.size wo W ∧ n1 ≤ W.heap.size ∧
    ∃ v, Boxed W gw 49 v ∧ W.ownsRow n1 3 1 v (goF f zs a b (pre.map (·.1))).2.length ((goF f zs a b (pre.map (·.1))).2.map enc) ∧ True
theorem PI_own (f : List SC) (zs : List Int) (a b : ByteArray) (gw gr : Nat) (wo : World) (n1 B : Nat) (hB : wo.heap.size ≤ B) : OwnFrom B (PI f zs a b gw gr wo n1) := fun pre X Y row hs hg hr =>
  ⟨(Own.from (boxed_own gr _ (fun pre : List (Fin zs.length) => .int .i64 (goF f zs a b (pre.map (·.1))).1)) B) pre X Y row hs.1 hg hr,
    (ownFrom_below (β := List (Fin zs.length)) (Nat.le_refl _) hB) pre X Y row hs.2.1 hg hr, Nat.le_trans hs.2.2.1 hg.size,
    (Own.from (holdsRow_own (β := List (Fin zs.length)) n1 gw 49 3 1 (fun pre => (goF f zs a b (pre.map (·.1))).2.length) (fun pre => (goF f zs a b (pre.map (·.1))).2.map enc) (fun _ _ => True)) B) pre X Y row hs.2.2.2 hg hr⟩
/-- A node that is no root, ahead of all roots: the walk tells none. -/
def Bad (f : List SC) (zs : List Int) (a b : ByteArray) (pre : List (Fin zs.length)) : Prop := ∃ (q : List (Fin zs.length)) (x : Fin zs.length), pre = q ++ [x] ∧ zs[x.1]?.getD 0 ≠ 0 ∧ (goF f zs a b (q.map (·.1))).1 < 0
theorem not_bad (f : List SC) (h : chkAns f 65536 = 0) (a b : ByteArray) (zs : List Int) (hz : walkAns f = zs) (k : Nat) (hk : k ≤ zs.length) (hb : Bad f zs a b (upF zs.length k)) : False := by
  obtain ⟨q, x, e, h1, h2⟩ := hb
  have hl := congrArg List.length e
  rw [upF_length _ _ hk, List.length_append, List.length_singleton] at hl
  subst hl
  rw [upF_succ _ _ (by omega)] at e
  obtain ⟨e1, e2⟩ := List.append_inj' e rfl
  injection e2 with e2 _
  subst e2
  have hm : (upF zs.length q.length).map (·.1) = List.range q.length := (upF_map zs.length id q.length (by omega)).trans (List.map_id _)
  rw [e1] at hm
  rw [hm, goF_up] at h2
  have hlen := (Pd.levels_of f h).1
  rw [hz] at hlen
  obtain ⟨r, g1, _, _, _⟩ := Pd.root_ge f h q.length (by omega) (by rw [hz]; exact h1)
  rw [hz] at g1
  have h3 : Pd.rootAt zs q.length < 0 := h2
  omega
theorem up_all (zs : List Int) : (upF zs.length zs.length).map (·.1) = List.range zs.length := by
  exact (upF_map zs.length id zs.length (Nat.le_refl _)).trans (List.map_id _)
end Go.Proofs.YtkebableanenkaaDoor.Ph
