/- The walk of dowellaw12.walked: of the levels of a list it answers true, and what lay ahead of the call lies as it lay. Conditions: lists of at most 2^21 entries. -/
import Derived.Test.YtkebableanenkaaWalkedA
namespace Go.Proofs.Ytkebableanenkaa.Walked
open Go.RowKit Go.Shelf Go.Proofs.Ytkebableanenkaa.Qall Go.Proofs.Ytkebableanenkaa.Fo Go.Proofs.YtkebableanenkaaW.PrintWords Go.Proofs.YtkebableanenkaaW.PrintLast Go.Proofs.YtkebableanenkaaW.PrintMore
set_option linter.unusedSimpArgs false
set_option linter.unusedVariables false
attribute [local go_sem] Oper.semAt_some
def mk (D : Nat) : Deferred := { target := .collected D, args := #[] }
/-- Marks with nothing collected are taken, one behind the other. -/
theorem leaves_all {F : Fence} {n : Nat} {P : Program} {fn : Func} {tm : Array Value} {R : Ending → World → Prop} (J : World → Prop) : ∀ (Ds : List Nat) (W : World), (∀ D ∈ Ds, W.heap[D]? = some (.deferred (some []))) → Ds.Nodup → J W →
    (∀ X D, D ∈ Ds → X.heap[D]? = some (.deferred (some [])) → J X → J (X.putObj D (.deferred none))) → (∀ X, J X → ∃ v, (results fn tm).run P X = .ok v X ∧ R (.returned v) X) → LeavesInM F n P fn tm R (Ds.map mk) .returning W
  | [], W, _, _, hJ, _, hE => hE W hJ
  | D :: Ds, W, hD, hN, hJ, hp, hE => by
    have hk := hD D (List.mem_cons_self ..)
    have hN' := List.nodup_cons.1 hN
    refine ⟨by simp, .inl ⟨D, _, rfl, run_takeDeferred hk, ?_⟩⟩
    refine leaves_all J Ds _ (fun E hE' => ?_) hN'.2 (hp W D (List.mem_cons_self ..) hk hJ) (fun X E hE' => hp X E (List.mem_cons_of_mem _ hE')) hE
    rw [World.putObj_heap_other (fun e => hN'.1 (by rw [← e]; exact hE'))]
    exact hD E (List.mem_cons_of_mem _ hE')
/-- How many rounds are left. -/
def left (a : Act) (W : World) : Nat := match a.tmps.getD 10 undef with
  | .pointer (some ad) => match W.cell? ad with
    | some (.int _ i) => (2 - i).toNat
    | _ => 0
  | _ => 0
/-- Ahead of each round of the outer loop. -/
def Inv (f : List S34) (Af : Option Addr) (cf : Nat) (Al : Option Addr) (cl : Nat) (zs : List Int) (st ir : Int) (w w1 : World) (fb : Nat) (a : Act) (W : World) : Prop := ∃ (tv Bt : Nat) (Ds : List Nat) (u : Nat → Value), (tv ≤ 2 ∧ w1.heap.size + 1 ≤ Bt ∧ Boxed W Bt 3 (.int .i64 (tv : Int)) ∧ Boxed W w1.heap.size 31 (.func (.func 31) #[] #[.pointer (some ⟨fb, 0, none⟩)]) ∧ Below w1.heap.size w1 W ∧ (∀ D ∈ Ds, W.heap[D]? = some (.deferred (some [])) ∧ w1.heap.size ≤ D) ∧ Ds.Nodup) ∧
    a = { tmps := #[.slice Af f.length cf, .slice Al zs.length cl, .int .i64 st, .int .i64 ir, undef, .pointer (some ⟨w.heap.size, 0, none⟩), .pointer (some ⟨w.heap.size + 1, 0, none⟩), .pointer (some ⟨w.heap.size + 1 + 1, 0, none⟩), .pointer (some ⟨w.heap.size + 1 + 1 + 1, 0, none⟩), .pointer (some ⟨w1.heap.size, 0, none⟩), .pointer (some ⟨Bt, 0, none⟩), u 11, u 12, u 13, u 14, u 15, u 16, .slice Af f.length cf, .func (.func 31) #[] #[.pointer (some ⟨fb, 0, none⟩)], .func (.func 31) #[] #[.pointer (some ⟨fb, 0, none⟩)], .bool false, u 21, u 22, u 23, u 24, u 25, u 26, u 27, u 28, u 29, u 30, u 31, u 32, u 33, u 34, u 35, u 36, u 37, u 38, u 39, u 40, u 41, u 42, u 43, u 44, u 45, u 46, u 47, u 48, u 49, u 50, u 51, u 52, u 53, u 54, u 55, u 56, u 57, u 58, u 59, u 60, u 61, u 62, u 63, u 64, u 65, u 66, u 67, u 68, u 69, u 70, u 71, u 72, u 73, u 74, u 75, u 76, u 77, u 78, u 79, u 80, u 81, u 82, u 83, u 84, u 85, u 86, u 87, u 88, u 89, u 90, u 91, u 92, u 93, u 94, u 95, u 96, u 97, u 98, u 99, u 100, u 101, u 102], defers := Ds.map mk }
theorem Inv.intro {f : List S34} {Af : Option Addr} {cf : Nat} {Al : Option Addr} {cl : Nat} {zs : List Int} {st ir : Int} {w w1 : World} {fb : Nat} {a : Act} {W : World} (tv Bt : Nat) (Ds : List Nat) (h : tv ≤ 2 ∧ w1.heap.size + 1 ≤ Bt ∧ Boxed W Bt 3 (.int .i64 (tv : Int)) ∧ Boxed W w1.heap.size 31 (.func (.func 31) #[] #[.pointer (some ⟨fb, 0, none⟩)]) ∧ Below w1.heap.size w1 W ∧ (∀ D ∈ Ds, W.heap[D]? = some (.deferred (some [])) ∧ w1.heap.size ≤ D) ∧ Ds.Nodup)
    (e : a = { tmps := #[.slice Af f.length cf, .slice Al zs.length cl, .int .i64 st, .int .i64 ir, undef, .pointer (some ⟨w.heap.size, 0, none⟩), .pointer (some ⟨w.heap.size + 1, 0, none⟩), .pointer (some ⟨w.heap.size + 1 + 1, 0, none⟩), .pointer (some ⟨w.heap.size + 1 + 1 + 1, 0, none⟩), .pointer (some ⟨w1.heap.size, 0, none⟩), .pointer (some ⟨Bt, 0, none⟩), (a.tmps.getD 11 undef), (a.tmps.getD 12 undef), (a.tmps.getD 13 undef), (a.tmps.getD 14 undef), (a.tmps.getD 15 undef), (a.tmps.getD 16 undef), .slice Af f.length cf, .func (.func 31) #[] #[.pointer (some ⟨fb, 0, none⟩)], .func (.func 31) #[] #[.pointer (some ⟨fb, 0, none⟩)], .bool false, (a.tmps.getD 21 undef), (a.tmps.getD 22 undef), (a.tmps.getD 23 undef), (a.tmps.getD 24 undef), (a.tmps.getD 25 undef), (a.tmps.getD 26 undef), (a.tmps.getD 27 undef), (a.tmps.getD 28 undef), (a.tmps.getD 29 undef), (a.tmps.getD 30 undef), (a.tmps.getD 31 undef), (a.tmps.getD 32 undef), (a.tmps.getD 33 undef), (a.tmps.getD 34 undef), (a.tmps.getD 35 undef), (a.tmps.getD 36 undef), (a.tmps.getD 37 undef), (a.tmps.getD 38 undef), (a.tmps.getD 39 undef), (a.tmps.getD 40 undef), (a.tmps.getD 41 undef), (a.tmps.getD 42 undef), (a.tmps.getD 43 undef), (a.tmps.getD 44 undef), (a.tmps.getD 45 undef), (a.tmps.getD 46 undef), (a.tmps.getD 47 undef), (a.tmps.getD 48 undef), (a.tmps.getD 49 undef), (a.tmps.getD 50 undef), (a.tmps.getD 51 undef), (a.tmps.getD 52 undef), (a.tmps.getD 53 undef), (a.tmps.getD 54 undef), (a.tmps.getD 55 undef), (a.tmps.getD 56 undef), (a.tmps.getD 57 undef), (a.tmps.getD 58 undef), (a.tmps.getD 59 undef), (a.tmps.getD 60 undef), (a.tmps.getD 61 undef), (a.tmps.getD 62 undef), (a.tmps.getD 63 undef), (a.tmps.getD 64 undef), (a.tmps.getD 65 undef), (a.tmps.getD 66 undef), (a.tmps.getD 67 undef), (a.tmps.getD 68 undef), (a.tmps.getD 69 undef), (a.tmps.getD 70 undef), (a.tmps.getD 71 undef), (a.tmps.getD 72 undef), (a.tmps.getD 73 undef), (a.tmps.getD 74 undef), (a.tmps.getD 75 undef), (a.tmps.getD 76 undef), (a.tmps.getD 77 undef), (a.tmps.getD 78 undef), (a.tmps.getD 79 undef), (a.tmps.getD 80 undef), (a.tmps.getD 81 undef), (a.tmps.getD 82 undef), (a.tmps.getD 83 undef), (a.tmps.getD 84 undef), (a.tmps.getD 85 undef), (a.tmps.getD 86 undef), (a.tmps.getD 87 undef), (a.tmps.getD 88 undef), (a.tmps.getD 89 undef), (a.tmps.getD 90 undef), (a.tmps.getD 91 undef), (a.tmps.getD 92 undef), (a.tmps.getD 93 undef), (a.tmps.getD 94 undef), (a.tmps.getD 95 undef), (a.tmps.getD 96 undef), (a.tmps.getD 97 undef), (a.tmps.getD 98 undef), (a.tmps.getD 99 undef), (a.tmps.getD 100 undef), (a.tmps.getD 101 undef), (a.tmps.getD 102 undef)], defers := Ds.map mk }) : Inv f Af cf Al cl zs st ir w w1 fb a W := ⟨tv, Bt, Ds, fun n => a.tmps.getD n undef, h, e⟩
theorem left_eq (a : Act) (W : World) (b : Nat) (i : Int) (h : a.tmps.getD 10 undef = .pointer (some ⟨b, 0, none⟩)) (hc : W.cell? ⟨b, 0, none⟩ = some (.int .i64 i)) : left a W = (2 - i).toNat := by
  unfold left
  rw [h]
  simp only [hc]
set_option maxRecDepth 100000 in
set_option maxHeartbeats 4000000 in
theorem walked_walk (f : List S34) (hn : f.length ≤ 2097152) (Af : Option Addr) (cf : Nat) (Al : Option Addr) (cl : Nat) (zs : List Int) (hzs : walkAns f = zs) (hzl : zs.length ≤ 2097152) (st ir : Int) (w : World) (hCf : Kd.C k34 w Af f.length f) (hcf : f.length ≤ cf) (hCl : Kd.C (Kd.int .i64) w Al zs.length zs) (hcl : zs.length ≤ cl) :
    Calls Try.prog 10 #[.slice Af f.length cf, .slice Al zs.length cl, .int .i64 st, .int .i64 ir] w fun e w' => e = .returned (.bool true) ∧ Below w.heap.size w w' := by
  refine (callsIn_wide (n := 12)).1 ?_
  refine callsIn_of_wp_marks Try.func10 rfl trivial ?_ rfl
  simp only [Try.ntmps10, List.size_toArray, List.length_cons, List.length_nil, Nat.reduceAdd, Nat.reduceSub, Array.replicate_succ, Array.replicate_zero, List.push_toArray, List.append_toArray, List.nil_append, List.cons_append]
  have eqf : ∀ (b : Nat) (W : World), (binOp .eql 31 (.func (.func 31) #[] #[.pointer (some ⟨b, 0, none⟩)]) .nilFunc).run Try.prog W = .ok (.bool false) W := fun _ _ => by kernel_rfl
  have stf : ∀ (X : World) (b : Nat), (store ⟨X.heap.size, 0, none⟩ (.func (.func 31) #[] #[.pointer (some ⟨b, 0, none⟩)])).run Try.prog (X.alloc (.cells #[.nilFunc] 31)) = .ok () (X.alloc (.cells #[.func (.func 31) #[] #[.pointer (some ⟨b, 0, none⟩)]] 31)) := fun X b => by
    have hb := Boxed.new X 31 .nilFunc
    rw [run_store _ _ _ _ _ rfl, hb.cell]
    simp only [hb.frozen]
    rw [World.setCell_alloc_at _ _ _ _ _ rfl]
    rfl
  have hCf4 := Kd.C_alloc (Kd.C_alloc (Kd.C_alloc (Kd.C_alloc hCf (.cells #[.slice Al zs.length cl] 24)) (.cells #[.int .i64 st] 3)) (.cells #[.int .i64 ir] 3)) (.cells #[.bool false] 4)
  have hwk := fwalk_calls f hn Af cf _ hCf4 hcf
  rw [hzs] at hwk
  have HWK := Aside0.mk hwk
  clear hwk hCf4
  gi_wp2_with (refine ⟨trivial, ?_⟩; gi_at_call 12; refine (callsIn_wide.2 HWK.out).mono ?_; rintro e w1 ⟨fb, v0, rfl, hfb, bF, hR1, hb1⟩)
  have hz : zs.length ≤ 2097152 := hzl
  have bA := (Boxed.new w1 31 (.func (.func 31) #[] #[.pointer (some ⟨fb, 0, none⟩)])).alloc (.cells #[.int .i64 0] 3)
  have bT := Boxed.new (w1.alloc (.cells #[.func (.func 31) #[] #[.pointer (some ⟨fb, 0, none⟩)]] 31)) 3 (.int .i64 0)
  rw [World.size_alloc] at bT
  have hbO : Below w1.heap.size w1 ((w1.alloc (.cells #[.func (.func 31) #[] #[.pointer (some ⟨fb, 0, none⟩)]] 31)).alloc (.cells #[.int .i64 0] 3)) := ((Below.refl _ w1).alloc (Nat.le_refl _) _).alloc (by simp) _
  have hsz1 : w.heap.size + 4 ≤ w1.heap.size := by have := hb1.size; simp at this; omega
  have s1 : ((w.alloc (.cells #[.slice Al zs.length cl] 24)).alloc (.cells #[.int .i64 st] 3)).heap.size = w.heap.size + 1 + 1 := by simp
  have s2 : (((w.alloc (.cells #[.slice Al zs.length cl] 24)).alloc (.cells #[.int .i64 st] 3)).alloc (.cells #[.int .i64 ir] 3)).heap.size = w.heap.size + 1 + 1 + 1 := by simp
  have bL : Boxed w1 w.heap.size 24 (.slice Al zs.length cl) := bx hb1 ((((Boxed.new w 24 (.slice Al zs.length cl)).alloc _).alloc _).alloc _) (by first | (simp; done) | (simp; omega))
  have bI1 : Boxed w1 (w.heap.size + 1) 3 (.int .i64 st) := bx hb1 (by have := ((Boxed.new (w.alloc (.cells #[.slice Al zs.length cl] 24)) 3 (.int .i64 st)).alloc (.cells #[.int .i64 ir] 3)).alloc (.cells #[.bool false] 4); rw [World.size_alloc] at this; exact this) (by first | (simp; done) | (simp; omega))
  have bI2 : Boxed w1 (w.heap.size + 1 + 1) 3 (.int .i64 ir) := bx hb1 (by have := (Boxed.new ((w.alloc (.cells #[.slice Al zs.length cl] 24)).alloc (.cells #[.int .i64 st] 3)) 3 (.int .i64 ir)).alloc (.cells #[.bool false] 4); rw [s1] at this; exact this) (by first | (simp; done) | (simp; omega))
  have bR : Boxed w1 (w.heap.size + 1 + 1 + 1) 4 (.bool false) := bx hb1 (by have := Boxed.new (((w.alloc (.cells #[.slice Al zs.length cl] 24)).alloc (.cells #[.int .i64 st] 3)).alloc (.cells #[.int .i64 ir] 3)) 4 (.bool false); rw [s2] at this; exact this) (by simp)
  have hBw : Below w.heap.size w w1 := (((((Below.refl _ w).alloc (Nat.le_refl _) _).alloc (by simp) _).alloc (by simp; omega) _).alloc (by simp; omega) _).trans (hb1.mono (by simp; omega))
  obtain ⟨Aw, cw, rfl⟩ := Kd.R_slice hR1
  have hCw := (Kd.R_reads' hR1).2.2
  have hCl1 := Kd.C_below hCl hBw
  have hfbl := bF.lt
  clear hb1 hR1 s1 s2
  refine wpIn_loop (Inv f Af cf Al cl zs st ir w w1 fb) left ?start ?round
  case start =>
    refine ⟨0, w1.heap.size + 1, [], fun _ => undef, ⟨by omega, by omega, bT, bA, hbO, (fun D h => by simp at h), List.nodup_nil⟩, rfl⟩
  case round =>
    rintro a W ⟨tv, Bt, Ds, u, ⟨htv, hBt, cT, cA, hB, hDs, hNd⟩, rfl⟩
    have dT := cT.cell
    have hszW := hB.size
    have dA := cA.cell
    have dA2 : ∀ o, (W.alloc o).cell? ⟨w1.heap.size, 0, none⟩ = some (.func (.func 31) #[] #[.pointer (some ⟨fb, 0, none⟩)]) := fun o => (cA.alloc o).cell
    have cR := bx hB bR (by omega)
    have dR := cR.cell
    have eR := cR.frozen
    have hC := Kd.C_below hCl1 hB
    obtain rfl | rfl | rfl : tv = 2 ∨ tv = 1 ∨ tv = 0 := by omega
    · gi_wp2
      refine leaves_all (fun X => Boxed X (w.heap.size + 1 + 1 + 1) 4 (.bool true) ∧ Below w.heap.size w X) Ds _ (fun D hD => ?_) hNd ⟨cR.set _, (hBw.trans (hB.mono (by omega))).setCell (p := ⟨w.heap.size + 1 + 1 + 1, 0, none⟩) (by show w.heap.size ≤ w.heap.size + 1 + 1 + 1; omega) _⟩ (fun X D hD hk hJ => ⟨hJ.1.kept (grownBy_putObj' X D _) (fun e => by cases e; have h1 := hJ.1; rw [show X.heap[_]? = _ from h1] at hk; cases hk), hJ.2.trans (belowK_b (w := w) (Nat.le_refl _) X D _ _ (by have := (hDs D hD).2; omega) hk rfl rfl)⟩) (fun X hJ => ⟨.bool true, ?_, rfl, hJ.2⟩)
      · exact (KeepsOthers.setCell W ⟨w.heap.size + 1 + 1 + 1, 0, none⟩ (.bool true)).same D _ (hDs D hD).1 rfl
      · have := hJ.1.cell
        simp [results, Try.f10, go_sem, this]
    · gi_wp2
      have gA := cA.alloc (.cells #[.int .i64 0] 3)
      have gT := cT.alloc (.cells #[.int .i64 0] 3)
      have gN := Boxed.new W 3 (.int .i64 0)
      have gB := hB.alloc (by omega) (.cells #[.int .i64 0] 3)
      have gD : ∀ D ∈ Ds, (W.alloc (.cells #[.int .i64 0] 3)).heap[D]? = some (.deferred (some [])) := fun D hD => (Below.heap_alloc W _ D (Array.getElem?_eq_some_iff.1 (hDs D hD).1).1).trans (hDs D hD).1
      have hDlt : ∀ D ∈ Ds, D < W.heap.size := fun D hD => (Array.getElem?_eq_some_iff.1 (hDs D hD).1).1
      have cTlt := cT.lt
      have cAlt := cA.lt
      obtain ⟨W0, hW0⟩ : ∃ W0, W.alloc (.cells #[.int .i64 0] 3) = W0 := ⟨_, rfl⟩
      have hsz0 : W0.heap.size = W.heap.size + 1 := by rw [← hW0]; simp
      rw [hW0] at gA gT gN gB gD ⊢
      refine wpIn_rangeFunc_ownH rfl (by omega) (gf := 31) (lb := #[.pointer (some ⟨fb, 0, none⟩)]) rfl trivial (enters_of Try.func31 (by kernel_rfl) rfl)
        (walk_stops Fence.wide _ trivial rfl (by omega) fb Aw cw zs hz w1 W0 gB (by omega) ((bx gB bF (by omega)).cell) hCw) belowK_t (belowK_b (by omega)) (Below.refl _ _) (fun _ => rfl)
        (IR zs w1 fb W.heap.size Bt 1 Ds) (fun c pre W' => c = .ret ∧ ¬ GoodR zs pre)
        (IR_own _ _ _ _ _ _ _ _ (by omega) (fun D hD => by have := hDlt D hD; omega))
        (fun c => ownFrom_pure _ _)
        ⟨goodR_nil zs, gN, gT, gA, gB, gD⟩
        (fun x a' _ => a' = { tmps := #[.slice Af f.length cf, .slice Al zs.length cl, .int .i64 st, .int .i64 ir, undef, .pointer (some ⟨w.heap.size, 0, none⟩), .pointer (some ⟨w.heap.size + 1, 0, none⟩), .pointer (some ⟨w.heap.size + 1 + 1, 0, none⟩), .pointer (some ⟨w.heap.size + 1 + 1 + 1, 0, none⟩), .pointer (some ⟨w1.heap.size, 0, none⟩), .pointer (some ⟨Bt, 0, none⟩), .pointer (some ⟨W.heap.size, 0, none⟩), .int .i64 (x.1 : Int), .int .i64 x.2, u 14, u 15, u 16, .slice Af f.length cf, .func (.func 31) #[] #[.pointer (some ⟨fb, 0, none⟩)], .func (.func 31) #[] #[.pointer (some ⟨fb, 0, none⟩)], .bool false, .int .i64 1, .bool true, u 23, u 24, .func (.func 31) #[] #[.pointer (some ⟨fb, 0, none⟩)], .int .i64 (x.1 : Int), .int .i64 x.2, u 28, u 29, u 30, u 31, u 32, u 33, u 34, u 35, u 36, u 37, u 38, u 39, u 40, u 41, u 42, u 43, u 44, u 45, u 46, u 47, u 48, u 49, u 50, u 51, u 52, u 53, u 54, u 55, u 56, u 57, u 58, u 59, u 60, u 61, u 62, u 63, u 64, u 65, u 66, u 67, u 68, u 69, u 70, u 71, u 72, u 73, u 74, u 75, u 76, u 77, u 78, u 79, u 80, u 81, u 82, u 83, u 84, u 85, u 86, u 87, u 88, u 89, u 90, u 91, u 92, u 93, u 94, u 95, u 96, u 97, u 98, u 99, u 100, u 101, u 102], defers := [] }) (fun x a' => ownFrom_pure _ _) ?assign ?body ?done ?stop
      case assign =>
        intro l pre x W' K hI hK
        gi_wp2
        exact hK _ _ (KeepsFrom.refl _ _) (Below.refl _ _) hI rfl
      case body =>
        rintro l pre ⟨p, c⟩ a' W' hl ⟨r, hr⟩ ⟨hG, kN, kT, kA, kB, kD⟩ rfl hlt
        have dN := kN.cell
        have eN := kN.frozen
        have dA3 : ∀ o, (W'.alloc o).cell? ⟨w1.heap.size, 0, none⟩ = some (.func (.func 31) #[] #[.pointer (some ⟨fb, 0, none⟩)]) := fun o => (kA.alloc o).cell
        have dT2 := kT.cell
        have dL2 := (bx kB bL (by omega)).cell
        have kI1 := bx kB bI1 (by omega)
        have kI2 := bx kB bI2 (by omega)
        have kR := bx kB bR (by omega)
        have dI12 := kI1.cell
        have dI22 := kI2.cell
        have dR2 := kR.cell
        have eR2 := kR.frozen
        have qN : ∀ v, (W'.setCell ⟨W.heap.size, 0, none⟩ v).cell? ⟨W.heap.size, 0, none⟩ = some v := fun v => (kN.set v).cell
        have qT : ∀ v, (W'.setCell ⟨W.heap.size, 0, none⟩ v).cell? ⟨Bt, 0, none⟩ = some (.int .i64 1) := fun v => (kT.other (by omega) v).cell
        have qI : ∀ v, (W'.setCell ⟨W.heap.size, 0, none⟩ v).cell? ⟨w.heap.size + 1, 0, none⟩ = some (.int .i64 st) := fun v => (kI1.other (by omega) v).cell
        have hC2 := Kd.C_below hCl1 kB
        obtain ⟨m, hm⟩ : ∃ m, pre.length = m := ⟨_, rfl⟩
        obtain ⟨N, hN⟩ : ∃ N, zs.length = N := ⟨_, rfl⟩
        have hmb : m < 2097152 := by omega
        have hIR : ∀ v, v = Value.int .i64 (((pre ++ [((p, c) : Nat × Int)]).length : Nat) : Int) → okR zs pre ((p, c) : Nat × Int) → IR zs w1 fb W.heap.size Bt 1 Ds (pre ++ [((p, c) : Nat × Int)]) (W'.setCell ⟨W.heap.size, 0, none⟩ v) := fun v hv ho =>
          ⟨goodR_snoc zs pre _ hG ho, by rw [← hv]; exact kN.set v, kT.other (by omega) v, kA.other (by omega) v, kB.setCell (p := ⟨W.heap.size, 0, none⟩) (by show w1.heap.size ≤ W.heap.size; omega) v, fun D hD => (KeepsOthers.setCell W' _ v).same D _ (kD D hD) rfl⟩
        have hv1 : ∀ v, v = Value.int .i64 ((m : Int) + 1) ∨ v = Value.int .i64 (wrap64 ((m : Int) + 1)) → v = Value.int .i64 (((pre ++ [((p, c) : Nat × Int)]).length : Nat) : Int) := fun v h => by
          have e1 : (((pre ++ [((p, c) : Nat × Int)]).length : Nat) : Int) = (m : Int) + 1 := by simp [hm]
          rw [e1]
          rcases h with h | h
          · exact h
          · rw [h, wrap_of (by omega) (by omega)]
        have HIR := Aside0.mk hIR
        have HV1 := Aside0.mk hv1
        have hKp : ∀ v, Below w1.heap.size W' (W'.setCell ⟨W.heap.size, 0, none⟩ v) := fun v => (Below.refl w1.heap.size W').setCell (p := ⟨W.heap.size, 0, none⟩) (by show w1.heap.size ≤ W.heap.size; omega) v
        have HKP := Aside0.mk hKp
        clear hIR hv1 hKp
        have hn : m < N := by omega
        have hn2 : ¬ N ≤ m := by omega
        obtain ⟨ad, rfl, x0⟩ := Kd.at_int hC2 (m : Int) (by omega) (by omega)
        obtain ⟨e0, he0⟩ : ∃ e0, rd zs (m : Int) = e0 := ⟨_, rfl⟩
        rw [Int.toNat_natCast, he0] at x0
        rw [hN] at dL2
        rw [hm] at dN
        by_cases hch : (p : Int) = (m : Int) ∧ c = e0
        · have hok : okR zs pre ((p, c) : Nat × Int) := ⟨by omega, by rw [hm]; exact hch.1, by rw [hm, he0]; exact hch.2⟩
          have hp2 : p = m := by omega
          obtain ⟨_, rfl⟩ := hch
          subst hp2
          by_cases hir : ir = (p : Int)
          · subst hir
            gi_wp2
            obtain ⟨W2, hW2⟩ : ∃ W2, W'.alloc (.cells #[.int .i64 0] 3) = W2 := ⟨_, rfl⟩
            have hsz2 : W2.heap.size = W'.heap.size + 1 := by rw [← hW2]; simp
            have hszW' := kB.size
            have kNlt := kN.lt
            have hm2 : Boxed W2 W'.heap.size 3 (.int .i64 0) := by rw [← hW2]; exact Boxed.new W' _ _
            have hI2 : IR zs w1 fb W.heap.size Bt 1 Ds pre W2 := by
              rw [← hW2]
              exact ⟨hG, kN.alloc _, kT.alloc _, kA.alloc _, kB.alloc (by omega) _, fun D hD => (Below.heap_alloc W' _ D (Array.getElem?_eq_some_iff.1 (kD D hD)).1).trans (kD D hD)⟩
            have hKF : KeepsFrom W0.heap.size W' W2 := by rw [← hW2]; exact (KeepsOthers.alloc _ _).from _
            have hKW : Below w1.heap.size W' W2 := by rw [← hW2]; exact (Below.refl _ _).alloc hszW' _
            have hr2 : W2.heap[l]? = some (.loop r) := by rw [← hW2]; exact (Below.heap_alloc W' _ l (Array.getElem?_eq_some_iff.1 hr).1).trans hr
            have hB2 : Below w1.heap.size w1 W2 := hI2.2.2.2.2.1
            rw [hW2]
            refine wpIn_rangeFunc_ownN (l₀ := l) (r₀ := r) rfl hr2 (by omega) (gf := 31) (lb := #[.pointer (some ⟨fb, 0, none⟩)]) rfl trivial (enters_of Try.func31 (by kernel_rfl) rfl)
              ((walk_stops Fence.wide _ trivial rfl (by omega) fb Aw cw zs hz w1 W2 hB2 (by omega) ((bx hB2 bF (by omega)).cell) hCw).inRound l) belowK_t (belowK_b (by omega)) (Below.refl _ _) (fun _ => rfl)
              (fun q X => (GoodR zs q ∧ Boxed X W'.heap.size 3 (.int .i64 (q.length : Int))) ∧ IR zs w1 fb W.heap.size Bt 1 Ds pre X ∧ KeepsFrom W0.heap.size W' X ∧ Below w1.heap.size W' X) (fun c q _ => c = .ret ∧ ¬ GoodR zs q)
              (fun q X Y row hs hg hr => ⟨⟨hs.1.1, (Own.from (boxed_own _ _ (fun q : List (Nat × Int) => .int .i64 (q.length : Int))) _) q X Y row hs.1.2 hg hr⟩, IR_own _ _ _ _ _ _ _ _ (by omega) (fun D hD => by have := hDlt D hD; omega) pre X Y row hs.2.1 hg hr, (ownFrom_keepsFrom (β := List (Nat × Int)) (by omega)) q X Y row hs.2.2.1 hg hr, (ownFrom_below (β := List (Nat × Int)) hszW' (by omega)) q X Y row hs.2.2.2 hg hr⟩)
              (fun c => ownFrom_pure _ _)
              ⟨⟨goodR_nil zs, hm2⟩, hI2, hKF, hKW⟩
              (fun y a' _ => a' = { tmps := #[.slice Af f.length cf, .slice (some ad) N cl, .int .i64 st, .int .i64 (p : Int), undef, .pointer (some ⟨w.heap.size, 0, none⟩), .pointer (some ⟨w.heap.size + 1, 0, none⟩), .pointer (some ⟨w.heap.size + 1 + 1, 0, none⟩), .pointer (some ⟨w.heap.size + 1 + 1 + 1, 0, none⟩), .pointer (some ⟨w1.heap.size, 0, none⟩), .pointer (some ⟨Bt, 0, none⟩), .pointer (some ⟨W.heap.size, 0, none⟩), .int .i64 (p : Int), .int .i64 c, .pointer (some ⟨W'.heap.size, 0, none⟩), .int .i64 (y.1 : Int), .int .i64 y.2, .slice Af f.length cf, .func (.func 31) #[] #[.pointer (some ⟨fb, 0, none⟩)], .func (.func 31) #[] #[.pointer (some ⟨fb, 0, none⟩)], .bool false, .int .i64 1, .bool true, u 23, u 24, .func (.func 31) #[] #[.pointer (some ⟨fb, 0, none⟩)], .int .i64 (p : Int), .int .i64 c, .int .i64 (p : Int), .slice (some ad) N cl, .int .i64 (N : Int), .bool false, .bool false, .int .i64 (p : Int), .int .i64 (p : Int), .bool false, .bool false, .bool false, .int .i64 c, .slice (some ad) N cl, .int .i64 (p : Int), .pointer (some (ad.add p)), .int .i64 c, .bool false, .bool false, .int .i64 (p : Int), .int .i64 (p : Int), .bool true, .bool true, .int .i64 1, .bool true, .bool true, .func (.func 31) #[] #[.pointer (some ⟨fb, 0, none⟩)], .int .i64 (y.1 : Int), .int .i64 y.2, u 55, u 56, u 57, u 58, u 59, u 60, u 61, u 62, u 63, u 64, u 65, u 66, u 67, u 68, u 69, u 70, u 71, u 72, u 73, u 74, u 75, u 76, u 77, u 78, u 79, u 80, u 81, u 82, u 83, u 84, u 85, u 86, u 87, u 88, u 89, u 90, u 91, u 92, u 93, u 94, u 95, u 96, u 97, u 98, u 99, u 100, u 101, u 102], defers := [] }) (fun x a' => ownFrom_pure _ _) ?assign2 ?body2 ?done2 ?stop2
            case assign2 =>
              intro l2 q y X K hI hK
              gi_wp2
              exact hK _ _ (KeepsFrom.refl _ _) (Below.refl _ _) hI rfl
            case body2 =>
              rintro l2 q ⟨p2, c2⟩ a2 X hl2 ⟨r2, hr2⟩ ⟨⟨hG2, jM⟩, ⟨_, jN, jT, jA, jB, jD⟩, jF, jK⟩ rfl hlt2
              have dM := jM.cell
              have eM := jM.frozen
              have dLX := (bx jB bL (by omega)).cell
              have jR := bx jB bR (by omega)
              have dRX := jR.cell
              have eRX := jR.frozen
              have hC3 := Kd.C_below hCl1 jB
              obtain ⟨k, hk⟩ : ∃ k, q.length = k := ⟨_, rfl⟩
              have hkb : k < 2097152 := by omega
              have qM : ∀ v, (X.setCell ⟨W'.heap.size, 0, none⟩ v).cell? ⟨W'.heap.size, 0, none⟩ = some v := fun v => (jM.set v).cell
              have hI3 : ∀ v, v = Value.int .i64 (((q ++ [((p2, c2) : Nat × Int)]).length : Nat) : Int) → okR zs q ((p2, c2) : Nat × Int) → (GoodR zs (q ++ [((p2, c2) : Nat × Int)]) ∧ Boxed (X.setCell ⟨W'.heap.size, 0, none⟩ v) W'.heap.size 3 (.int .i64 (((q ++ [((p2, c2) : Nat × Int)]).length : Nat) : Int))) ∧ IR zs w1 fb W.heap.size Bt 1 Ds pre (X.setCell ⟨W'.heap.size, 0, none⟩ v) ∧ KeepsFrom W0.heap.size W' (X.setCell ⟨W'.heap.size, 0, none⟩ v) ∧ Below w1.heap.size W' (X.setCell ⟨W'.heap.size, 0, none⟩ v) := fun v hv ho =>
                ⟨⟨goodR_snoc zs q _ hG2 ho, by rw [← hv]; exact jM.set v⟩, ⟨hG, jN.other (by omega) v, jT.other (by omega) v, jA.other (by omega) v, jB.setCell (p := ⟨W'.heap.size, 0, none⟩) hszW' v, fun D hD => (KeepsOthers.setCell X _ v).same D _ (jD D hD) rfl⟩, jF.trans ((KeepsOthers.setCell X _ v).from _), jK.setCell (p := ⟨W'.heap.size, 0, none⟩) hszW' v⟩
              have hv3 : ∀ v, v = Value.int .i64 ((k : Int) + 1) ∨ v = Value.int .i64 (wrap64 ((k : Int) + 1)) → v = Value.int .i64 (((q ++ [((p2, c2) : Nat × Int)]).length : Nat) : Int) := fun v h => by
                have e1 : (((q ++ [((p2, c2) : Nat × Int)]).length : Nat) : Int) = (k : Int) + 1 := by simp [hk]
                rw [e1]
                rcases h with h | h
                · exact h
                · rw [h, wrap_of (by omega) (by omega)]
              have hKp3 : ∀ v, Below w1.heap.size X (X.setCell ⟨W'.heap.size, 0, none⟩ v) := fun v => (Below.refl w1.heap.size X).setCell (p := ⟨W'.heap.size, 0, none⟩) hszW' v
              have HI3 := Aside0.mk hI3
              have HV3 := Aside0.mk hv3
              have HKP3 := Aside0.mk hKp3
              clear hI3 hv3 hKp3
              have hk2 : k < N := by omega
              have hk3 : ¬ N ≤ k := by omega
              obtain ⟨ad2, hadd, z0⟩ := Kd.at_int hC3 (k : Int) (by omega) (by omega)
              obtain rfl : ad = ad2 := Option.some.inj hadd
              obtain ⟨f0, hf0⟩ : ∃ f0, rd zs (k : Int) = f0 := ⟨_, rfl⟩
              rw [Int.toNat_natCast, hf0] at z0
              rw [hN] at dLX
              rw [hk] at dM
              by_cases hpk : p2 = k
              · by_cases hcf2 : c2 = f0
                · have hok2 : okR zs q ((p2, c2) : Nat × Int) := ⟨by omega, by rw [hk]; exact congrArg _ hpk, by rw [hk, hf0]; exact hcf2⟩
                  subst hpk
                  subst hcf2
                  gi_wp2
                  all_goals first | (exact ⟨(KeepsOthers.setCell _ _ _).from _, HKP3.out _, HI3.out _ (HV3.out _ (by first | exact .inl rfl | exact .inr rfl)) hok2⟩) | (have hh := fun v h1 => HI3.out v (HV3.out v h1) hok2; rw [hsz0] at hh; exact ⟨(KeepsOthers.setCell _ _ _).from _, HKP3.out _, hh _ (by first | exact .inl rfl | exact .inr rfl)⟩)
                · subst hpk
                  gi_wp2
                  all_goals (refine ⟨(KeepsOthers.setCell _ _ _).from _, ⟨rfl, fun hG3 => ?_⟩⟩; obtain ⟨o1, o2, o3⟩ := goodR_last zs q _ hG3; rw [hk, hf0] at o3; exact hcf2 o3)
              · have hpk2 : ¬ (p2 : Int) = (k : Int) := by omega
                gi_wp2
                all_goals (refine ⟨(KeepsOthers.setCell _ _ _).from _, ⟨rfl, fun hG3 => ?_⟩⟩; obtain ⟨o1, o2, o3⟩ := goodR_last zs q _ hG3; rw [hk] at o2; exact hpk2 o2)
            case done2 =>
              rintro xs X rfl ⟨⟨hG2, jM⟩, ⟨_, jN, jT, jA, jB, jD⟩, jF, jK⟩
              rw [came_length, hN] at jM
              have dM := jM.cell
              have dLX := (bx jB bL (by omega)).cell
              rw [hN] at dLX
              rw [hm] at jN
              have dNX := jN.cell
              have eNX := jN.frozen
              have qN3 : ∀ v, (X.setCell ⟨W.heap.size, 0, none⟩ v).cell? ⟨W.heap.size, 0, none⟩ = some v := fun v => (jN.set v).cell
              have qT3 : ∀ v, (X.setCell ⟨W.heap.size, 0, none⟩ v).cell? ⟨Bt, 0, none⟩ = some (.int .i64 1) := fun v => (jT.other (by omega) v).cell
              have hI4 : ∀ v, v = Value.int .i64 (((pre ++ [((p, c) : Nat × Int)]).length : Nat) : Int) → IR zs w1 fb W.heap.size Bt 1 Ds (pre ++ [((p, c) : Nat × Int)]) (X.setCell ⟨W.heap.size, 0, none⟩ v) := fun v hv =>
                ⟨goodR_snoc zs pre _ hG hok, by rw [← hv]; exact jN.set v, jT.other (by omega) v, jA.other (by omega) v, jB.setCell (p := ⟨W.heap.size, 0, none⟩) (by show w1.heap.size ≤ W.heap.size; omega) v, fun D hD => (KeepsOthers.setCell X _ v).same D _ (jD D hD) rfl⟩
              have hK4 : ∀ v, Below w1.heap.size W' (X.setCell ⟨W.heap.size, 0, none⟩ v) := fun v => jK.setCell (p := ⟨W.heap.size, 0, none⟩) (by show w1.heap.size ≤ W.heap.size; omega) v
              have HI4 := Aside0.mk hI4
              have HK4 := Aside0.mk hK4
              clear hI4 hK4
              gi_wp2
              all_goals (exact ⟨jF.trans ((KeepsOthers.setCell _ _ _).from _), HK4.out _, HI4.out _ (HV1.out _ (by first | exact .inl rfl | exact .inr rfl))⟩)
            case stop2 =>
              rintro c q X ⟨kk, hkk, rfl⟩ hx
              exact absurd (came_good zs kk hkk) hx.2
          · gi_wp2
            all_goals (exact ⟨(KeepsOthers.setCell _ _ _).from _, HKP.out _, HIR.out _ (HV1.out _ (by first | exact .inl rfl | exact .inr rfl | exact .inl (congrArg (Value.int .i64) (by omega)))) hok⟩)
        · have hch2 : ¬ ((p : Int) = (m : Int) ∧ c = e0) := hch
          by_cases hpm : p = m
          · subst hpm
            have hce : ¬ c = e0 := fun h => hch ⟨rfl, h⟩
            clear hch hch2
            gi_wp2
            all_goals (refine ⟨(KeepsOthers.setCell _ _ _).from _, ⟨rfl, fun hG2 => ?_⟩⟩; obtain ⟨o1, o2, o3⟩ := goodR_last zs pre _ hG2; rw [hm, he0] at o3; exact hce o3)
          · clear hch hch2
            have hpm2 : ¬ (p : Int) = (m : Int) := by omega
            gi_wp2
            all_goals (refine ⟨(KeepsOthers.setCell _ _ _).from _, ⟨rfl, fun hG2 => ?_⟩⟩; obtain ⟨o1, o2, o3⟩ := goodR_last zs pre _ hG2; rw [hm] at o2; exact hpm2 o2)
      case done =>
        rintro D xs W' hD rfl ⟨hG, kN, kT, kA, kB, kD⟩ hK
        rw [came_length] at kN
        have dN := kN.cell
        have dT2 := kT.cell
        have dL2 := (bx kB bL (by omega)).cell
        have dI12 := (bx kB bI1 (by omega)).cell
        have hszW' := kB.size
        have kNlt := kN.lt
        have mD : ∀ o, ∀ E ∈ D :: Ds, (W'.alloc o).heap[E]? = some (.deferred (some [])) ∧ w1.heap.size ≤ E := fun o E hE => by
          rcases List.mem_cons.1 hE with rfl | hE
          · exact ⟨(Below.heap_alloc W' _ E (Array.getElem?_eq_some_iff.1 hK).1).trans hK, by omega⟩
          · exact ⟨(Below.heap_alloc W' _ E (Array.getElem?_eq_some_iff.1 (kD E hE)).1).trans (kD E hE), (hDs E hE).2⟩
        have MD := Aside0.mk mD
        clear mD
        gi_wp2
        all_goals first | (exfalso; exact absurd (show some undef = some (Value.bool _) by assumption) (by simp [undef])) | (refine ⟨?_, ?_⟩; (refine Inv.intro 2 W'.heap.size (D :: Ds) ?_ ?_; (exact ⟨by omega, by omega, Boxed.new W' 3 (.int .i64 2), kA.alloc _, kB.alloc (by omega) _, MD.out _, List.nodup_cons.2 ⟨fun h => by have := hDlt D h; omega, hNd⟩⟩); rfl); (rw [left_eq _ _ _ _ rfl (Boxed.new W' 3 _).cell, left_eq _ _ _ _ rfl dT]; decide))
      case stop =>
        rintro D c pre W' hD ⟨kk, hkk, rfl⟩ hx hK
        exact absurd (came_good zs kk hkk) hx.2
    · gi_wp2
      have gA := cA.alloc (.cells #[.int .i64 0] 3)
      have gT := cT.alloc (.cells #[.int .i64 0] 3)
      have gN := Boxed.new W 3 (.int .i64 0)
      have gB := hB.alloc (by omega) (.cells #[.int .i64 0] 3)
      have gD : ∀ D ∈ Ds, (W.alloc (.cells #[.int .i64 0] 3)).heap[D]? = some (.deferred (some [])) := fun D hD => (Below.heap_alloc W _ D (Array.getElem?_eq_some_iff.1 (hDs D hD).1).1).trans (hDs D hD).1
      have hDlt : ∀ D ∈ Ds, D < W.heap.size := fun D hD => (Array.getElem?_eq_some_iff.1 (hDs D hD).1).1
      have cTlt := cT.lt
      have cAlt := cA.lt
      obtain ⟨W0, hW0⟩ : ∃ W0, W.alloc (.cells #[.int .i64 0] 3) = W0 := ⟨_, rfl⟩
      have hsz0 : W0.heap.size = W.heap.size + 1 := by rw [← hW0]; simp
      rw [hW0] at gA gT gN gB gD ⊢
      refine wpIn_rangeFunc_ownG rfl (by omega) (gf := 31) (lb := #[.pointer (some ⟨fb, 0, none⟩)]) rfl trivial (enters_of Try.func31 (by kernel_rfl) rfl)
        (walk_stops Fence.wide _ trivial rfl (by omega) fb Aw cw zs hz w1 W0 gB (by omega) ((bx gB bF (by omega)).cell) hCw) belowK_t (belowK_b (by omega)) (Below.refl _ _) (fun _ => rfl)
        (IR zs w1 fb W.heap.size Bt 0 Ds) (fun c pre W' => (c = .ret ∧ ¬ GoodR zs pre) ∨ (c = .exit 2 ∧ (pre.length : Int) - 1 = st ∧ IR zs w1 fb W.heap.size Bt 0 Ds pre W'))
        (IR_own _ _ _ _ _ _ _ _ (by omega) (fun D hD => by have := hDlt D hD; omega))
        (fun c pre X Y row hs hg hr => hs.elim .inl (fun h => .inr ⟨h.1, h.2.1, IR_own _ _ _ _ _ _ _ _ (by omega) (fun D hD => by have := hDlt D hD; omega) pre X Y row h.2.2 hg hr⟩))
        ⟨goodR_nil zs, gN, gT, gA, gB, gD⟩
        (fun x => { tmps := #[.slice Af f.length cf, .slice Al zs.length cl, .int .i64 st, .int .i64 ir, undef, .pointer (some ⟨w.heap.size, 0, none⟩), .pointer (some ⟨w.heap.size + 1, 0, none⟩), .pointer (some ⟨w.heap.size + 1 + 1, 0, none⟩), .pointer (some ⟨w.heap.size + 1 + 1 + 1, 0, none⟩), .pointer (some ⟨w1.heap.size, 0, none⟩), .pointer (some ⟨Bt, 0, none⟩), .pointer (some ⟨W.heap.size, 0, none⟩), .int .i64 (x.1 : Int), .int .i64 x.2, u 14, u 15, u 16, .slice Af f.length cf, .func (.func 31) #[] #[.pointer (some ⟨fb, 0, none⟩)], .func (.func 31) #[] #[.pointer (some ⟨fb, 0, none⟩)], .bool false, .int .i64 0, .bool true, u 23, u 24, .func (.func 31) #[] #[.pointer (some ⟨fb, 0, none⟩)], .int .i64 (x.1 : Int), .int .i64 x.2, u 28, u 29, u 30, u 31, u 32, u 33, u 34, u 35, u 36, u 37, u 38, u 39, u 40, u 41, u 42, u 43, u 44, u 45, u 46, u 47, u 48, u 49, u 50, u 51, u 52, u 53, u 54, u 55, u 56, u 57, u 58, u 59, u 60, u 61, u 62, u 63, u 64, u 65, u 66, u 67, u 68, u 69, u 70, u 71, u 72, u 73, u 74, u 75, u 76, u 77, u 78, u 79, u 80, u 81, u 82, u 83, u 84, u 85, u 86, u 87, u 88, u 89, u 90, u 91, u 92, u 93, u 94, u 95, u 96, u 97, u 98, u 99, u 100, u 101, u 102], defers := [] }) ?assign ?body ?done ?stop
      case assign =>
        intro l x W' K hK
        gi_wp2
        exact hK
      case body =>
        rintro l pre ⟨p, c⟩ W' ⟨hG, kN, kT, kA, kB, kD⟩ hlt
        have dN := kN.cell
        have eN := kN.frozen
        have dT2 := kT.cell
        have dL2 := (bx kB bL (by omega)).cell
        have kI1 := bx kB bI1 (by omega)
        have kI2 := bx kB bI2 (by omega)
        have kR := bx kB bR (by omega)
        have dI12 := kI1.cell
        have dI22 := kI2.cell
        have dR2 := kR.cell
        have eR2 := kR.frozen
        have qN : ∀ v, (W'.setCell ⟨W.heap.size, 0, none⟩ v).cell? ⟨W.heap.size, 0, none⟩ = some v := fun v => (kN.set v).cell
        have qT : ∀ v, (W'.setCell ⟨W.heap.size, 0, none⟩ v).cell? ⟨Bt, 0, none⟩ = some (.int .i64 0) := fun v => (kT.other (by omega) v).cell
        have qI : ∀ v, (W'.setCell ⟨W.heap.size, 0, none⟩ v).cell? ⟨w.heap.size + 1, 0, none⟩ = some (.int .i64 st) := fun v => (kI1.other (by omega) v).cell
        have hC2 := Kd.C_below hCl1 kB
        obtain ⟨m, hm⟩ : ∃ m, pre.length = m := ⟨_, rfl⟩
        obtain ⟨N, hN⟩ : ∃ N, zs.length = N := ⟨_, rfl⟩
        have hmb : m < 2097152 := by omega
        have hIR : ∀ v, v = Value.int .i64 (((pre ++ [((p, c) : Nat × Int)]).length : Nat) : Int) → okR zs pre ((p, c) : Nat × Int) → IR zs w1 fb W.heap.size Bt 0 Ds (pre ++ [((p, c) : Nat × Int)]) (W'.setCell ⟨W.heap.size, 0, none⟩ v) := fun v hv ho =>
          ⟨goodR_snoc zs pre _ hG ho, by rw [← hv]; exact kN.set v, kT.other (by omega) v, kA.other (by omega) v, kB.setCell (p := ⟨W.heap.size, 0, none⟩) (by show w1.heap.size ≤ W.heap.size; omega) v, fun D hD => (KeepsOthers.setCell W' _ v).same D _ (kD D hD) rfl⟩
        have hv1 : ∀ v, v = Value.int .i64 ((m : Int) + 1) ∨ v = Value.int .i64 (wrap64 ((m : Int) + 1)) → v = Value.int .i64 (((pre ++ [((p, c) : Nat × Int)]).length : Nat) : Int) := fun v h => by
          have e1 : (((pre ++ [((p, c) : Nat × Int)]).length : Nat) : Int) = (m : Int) + 1 := by simp [hm]
          rw [e1]
          rcases h with h | h
          · exact h
          · rw [h, wrap_of (by omega) (by omega)]
        have HIR := Aside0.mk hIR
        have HV1 := Aside0.mk hv1
        have hKp : ∀ v, Below w1.heap.size W' (W'.setCell ⟨W.heap.size, 0, none⟩ v) := fun v => (Below.refl w1.heap.size W').setCell (p := ⟨W.heap.size, 0, none⟩) (by show w1.heap.size ≤ W.heap.size; omega) v
        have HKP := Aside0.mk hKp
        clear hIR hv1 hKp
        have hn : m < N := by omega
        have hn2 : ¬ N ≤ m := by omega
        obtain ⟨ad, rfl, x0⟩ := Kd.at_int hC2 (m : Int) (by omega) (by omega)
        obtain ⟨e0, he0⟩ : ∃ e0, rd zs (m : Int) = e0 := ⟨_, rfl⟩
        rw [Int.toNat_natCast, he0] at x0
        rw [hN] at dL2
        rw [hm] at dN
        by_cases hch : (p : Int) = (m : Int) ∧ c = e0
        · have hok : okR zs pre ((p, c) : Nat × Int) := ⟨by omega, by rw [hm]; exact hch.1, by rw [hm, he0]; exact hch.2⟩
          have hp2 : p = m := by omega
          obtain ⟨_, rfl⟩ := hch
          subst hp2
          gi_wp2
          all_goals (try simp only [bne_iff_ne, ne_eq, bne_eq_false_iff_eq, beq_iff_eq, beq_eq_false_iff_ne] at *)
          all_goals first | (exact ⟨(KeepsOthers.setCell _ _ _).from _, HKP.out _, HIR.out _ (HV1.out _ (by first | exact .inl rfl | exact .inr rfl | exact .inl (congrArg (Value.int .i64) (by omega)))) hok⟩) | (exact ⟨(KeepsOthers.setCell _ _ _).from _, .inr ⟨rfl, (by rw [List.length_append, hm]; simp only [List.length_singleton]; omega), HIR.out _ (HV1.out _ (by first | exact .inl rfl | exact .inr rfl | exact .inl (congrArg (Value.int .i64) (by omega)))) hok⟩⟩)
        · have hch2 : ¬ ((p : Int) = (m : Int) ∧ c = e0) := hch
          by_cases hpm : p = m
          · subst hpm
            have hce : ¬ c = e0 := fun h => hch ⟨rfl, h⟩
            clear hch hch2
            gi_wp2
            all_goals (refine ⟨(KeepsOthers.setCell _ _ _).from _, .inl ⟨rfl, fun hG2 => ?_⟩⟩; obtain ⟨o1, o2, o3⟩ := goodR_last zs pre _ hG2; rw [hm, he0] at o3; exact hce o3)
          · clear hch hch2
            have hpm2 : ¬ (p : Int) = (m : Int) := by omega
            gi_wp2
            all_goals (refine ⟨(KeepsOthers.setCell _ _ _).from _, .inl ⟨rfl, fun hG2 => ?_⟩⟩; obtain ⟨o1, o2, o3⟩ := goodR_last zs pre _ hG2; rw [hm] at o2; exact hpm2 o2)
      case done =>
        rintro D xs W' hD rfl ⟨hG, kN, kT, kA, kB, kD⟩ hK
        rw [came_length] at kN
        have dN := kN.cell
        have dT2 := kT.cell
        have dL2 := (bx kB bL (by omega)).cell
        have dI12 := (bx kB bI1 (by omega)).cell
        have hszW' := kB.size
        have kNlt := kN.lt
        have mD : ∀ o, ∀ E ∈ D :: Ds, (W'.alloc o).heap[E]? = some (.deferred (some [])) ∧ w1.heap.size ≤ E := fun o E hE => by
          rcases List.mem_cons.1 hE with rfl | hE
          · exact ⟨(Below.heap_alloc W' _ E (Array.getElem?_eq_some_iff.1 hK).1).trans hK, by omega⟩
          · exact ⟨(Below.heap_alloc W' _ E (Array.getElem?_eq_some_iff.1 (kD E hE)).1).trans (kD E hE), (hDs E hE).2⟩
        have MD := Aside0.mk mD
        clear mD
        gi_wp2
        all_goals first | (exfalso; exact absurd (show some undef = some (Value.bool _) by assumption) (by simp [undef])) | (refine ⟨?_, ?_⟩; (refine Inv.intro 1 W'.heap.size (D :: Ds) ?_ ?_; (exact ⟨by omega, by omega, Boxed.new W' 3 (.int .i64 1), kA.alloc _, kB.alloc (by omega) _, MD.out _, List.nodup_cons.2 ⟨fun h => by have := hDlt D h; omega, hNd⟩⟩); rfl); (rw [left_eq _ _ _ _ rfl (Boxed.new W' 3 _).cell, left_eq _ _ _ _ rfl dT]; decide))
      case stop =>
        rintro D c pre W' hD ⟨kk, hkk, rfl⟩ hx hK
        rcases hx with ⟨_, hbad⟩ | ⟨rfl, hst, hG, kN, kT, kA, kB, kD⟩
        · exact absurd (came_good zs kk hkk) hbad
        · rw [came_length] at kN hst
          have hwst : wrap64 st = st := by rw [← hst]; exact wrap_of (by omega) (by omega)
          have dN := kN.cell
          have dT2 := kT.cell
          have dL2 := (bx kB bL (by omega)).cell
          have dI12 := (bx kB bI1 (by omega)).cell
          have hszW' := kB.size
          have kNlt := kN.lt
          have mD : ∀ o, ∀ E ∈ D :: Ds, (W'.alloc o).heap[E]? = some (.deferred (some [])) ∧ w1.heap.size ≤ E := fun o E hE => by
            rcases List.mem_cons.1 hE with rfl | hE
            · exact ⟨(Below.heap_alloc W' _ E (Array.getElem?_eq_some_iff.1 hK).1).trans hK, by omega⟩
            · exact ⟨(Below.heap_alloc W' _ E (Array.getElem?_eq_some_iff.1 (kD E hE)).1).trans (kD E hE), (hDs E hE).2⟩
          have MD := Aside0.mk mD
          clear mD
          gi_wp2
          all_goals first | (exfalso; exact absurd (show some undef = some (Value.bool _) by assumption) (by simp [undef])) | (refine ⟨?_, ?_⟩; (refine Inv.intro 1 W'.heap.size (D :: Ds) ?_ ?_; (exact ⟨by omega, by omega, Boxed.new W' 3 (.int .i64 1), kA.alloc _, kB.alloc (by omega) _, MD.out _, List.nodup_cons.2 ⟨fun h => by have := hDlt D h; omega, hNd⟩⟩); rfl); (rw [left_eq _ _ _ _ rfl (Boxed.new W' 3 _).cell, left_eq _ _ _ _ rfl dT]; decide))
end Go.Proofs.Ytkebableanenkaa.Walked
