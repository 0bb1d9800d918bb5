/- The body of the walk that the law ForestPaths makes: it collects what is below a root of a name. -/
import Derived.Test.YtkebableanenkaaDoorPathZ
namespace Go.Proofs.YtkebableanenkaaDoor.Pw
open Go.RowKit Go.Shelf Go.Proofs.YtkebableanenkaaDoor.Qall Go.Proofs.YtkebableanenkaaDoor.Fo Go.Proofs.YtkebableanenkaaDoor.Chk Go.Proofs.YtkebableanenkaaDoor.Fi Go.Proofs.YtkebableanenkaaDoor.Nsa Go.Proofs.YtkebableanenkaaDoor.Ph Go.Proofs.YtkebableanenkaaDoorW.PrintWords Go.Proofs.YtkebableanenkaaDoorW.PrintLast Go.Proofs.YtkebableanenkaaDoorW.PrintMore
set_option linter.unusedSimpArgs false
set_option linter.unusedVariables false
attribute [local go_sem] Oper.semAt_some
theorem bx {B : Nat} {w W : World} {t : TypeId} {v : Value} (hB : Below w.heap.size w W) (h : Boxed w B t v) : Boxed W B t v := (hB.block _ h.lt).trans h
def frame (g4 g5 g6 g8 gw gr : Nat) (u : Nat → Value) : Array Value := #[u 0, u 1, u 2, u 3, .pointer (some ⟨g4, 0, none⟩), .pointer (some ⟨g5, 0, none⟩), .pointer (some ⟨g6, 0, none⟩), u 7, .pointer (some ⟨g8, 0, none⟩), u 9, u 10, u 11, u 12, u 13, u 14, u 15, .pointer (some ⟨gw, 0, none⟩), .pointer (some ⟨gr, 0, none⟩), u 18, u 19, u 20, u 21, u 22, u 23, u 24, u 25, u 26, u 27, u 28, u 29, u 30, u 31, u 32, u 33, u 34, u 35, u 36, u 37, u 38, u 39, u 40, u 41, u 42, u 43, u 44, u 45, u 46, u 47, u 48, u 49, u 50, u 51, u 52, u 53, u 54, u 55, u 56, u 57, u 58, u 59, u 60, u 61, u 62, u 63, u 64, u 65, u 66, u 67, u 68, u 69, u 70, u 71, u 72, u 73, u 74, u 75, u 76, u 77, u 78, u 79, u 80, u 81, u 82, u 83, u 84, u 85, u 86, u 87, u 88, u 89, u 90, u 91, u 92, u 93, u 94, u 95, u 96, u 97, u 98, u 99, u 100, u 101, u 102, u 103, u 104, u 105, u 106, u 107, u 108, u 109, u 110, u 111, u 112, u 113, u 114, u 115, u 116, u 117, u 118, u 119, u 120, u 121, u 122, u 123, u 124, u 125, u 126, u 127, u 128, u 129, u 130, u 131, u 132, u 133, u 134, u 135, u 136, u 137, u 138, u 139, u 140, u 141, u 142, u 143, u 144, u 145, u 146, u 147, u 148, u 149, u 150, u 151, u 152, u 153, u 154, u 155, u 156, u 157, u 158, u 159, u 160, u 161, u 162, u 163, u 164, u 165, u 166, u 167, u 168, u 169, u 170, u 171, u 172, u 173, u 174, u 175, u 176, u 177, u 178, u 179, u 180, u 181, u 182, u 183, u 184, u 185, u 186, u 187, u 188, u 189, u 190, u 191, u 192, u 193, u 194, u 195, u 196, u 197, u 198, u 199, u 200, u 201, u 202, u 203, u 204, u 205, u 206, u 207, u 208, u 209, u 210, u 211, u 212, u 213, u 214, u 215, u 216, u 217, u 218, u 219, u 220, u 221, u 222, u 223, u 224, u 225, u 226, u 227, u 228, u 229, u 230, u 231, u 232, u 233, u 234, u 235, u 236, u 237, u 238, u 239, u 240, u 241, u 242, u 243, u 244, u 245, u 246, u 247, u 248, u 249, u 250, u 251, u 252, u 253, u 254, u 255, u 256, u 257, u 258, u 259, u 260, u 261, u 262, u 263, u 264, u 265, u 266, u 267, u 268, u 269, u 270, u 271, u 272, u 273, u 274, u 275, u 276, u 277, u 278, u 279, u 280, u 281, u 282, u 283, u 284, u 285, u 286, u 287, u 288, u 289, u 290, u 291, u 292, u 293, u 294, u 295, u 296, u 297, u 298, u 299, u 300, u 301, u 302]
theorem cell_new (W : World) (u : Value) (t : TypeId) : ∀ (j : Nat) (x : Value), [u][j]? = some x → (W.alloc (.cells #[u] t)).cell? ((⟨W.heap.size, 0, none⟩ : Addr).add j) = some x := by
  intro j x hx
  cases j with
  | zero =>
    obtain rfl : u = x := by simpa using hx
    exact (Boxed.new W t u).cell
  | succ j => simp at hx
def S6 (g4 gr g5 g6 : Nat) (p1 p2 : Addr) (v4 vR u1 v5 u2 v6 : Value) (W : World) : Prop := W.cell? ⟨g4, 0, none⟩ = some v4 ∧ W.cell? ⟨gr, 0, none⟩ = some vR ∧ W.cell? p1 = some u1 ∧ W.cell? ⟨g5, 0, none⟩ = some v5 ∧ W.cell? p2 = some u2 ∧ W.cell? ⟨g6, 0, none⟩ = some v6
set_option maxRecDepth 100000 in
set_option maxHeartbeats 8000000 in
theorem body_walk (u : Nat → Value) (f : List S37) (hn : f.length ≤ 1048576) (zs : List Int) (hzl1 : zs.length ≤ f.length) (hzl2 : f.length ≤ zs.length) (hz0 : ∀ x, x < f.length → 0 ≤ zs[x]?.getD 0) (a b : ByteArray)
    (g4 g5 g6 g8 gw gr Bs m n1 : Nat) (Af As : Option Addr) (cf cs : Nat) (wo : World) (hCo : Kd.C k37 wo Af f.length f)
    (o4 : Boxed wo g4 22 (.slice Af f.length cf)) (o5 : Boxed wo g5 9 (.string a)) (o6 : Boxed wo g6 9 (.string b)) (o8 : Boxed wo g8 4 (.bool false))
    (hgw : wo.heap.size ≤ gw ∧ gw < m) (hgr : wo.heap.size ≤ gr ∧ gr < m) (hne : gw ≠ gr) (hBs : m ≤ Bs ∧ Bs < n1) (hmn : m ≤ n1) (hlv : ∀ k, (Value.slice As zs.length cs).ownBlock = some k → m ≤ k ∧ k < n1)
    (l : Nat) (pre : List (Fin zs.length)) (q : Nat) (hql : q < zs.length) (hplt : pre.length < zs.length) (z : Int) (hz : zs[q]?.getD 0 = z) (W : World) (hI : PI f zs a b gw gr wo n1 pre W) :
    (Go.Code.block 3 (((Go.Code.region 32 #[{ dst := some 181, op := Go.Op.move (Go.Operand.tmp 19), type := 3, pos := "theorems.go:173", after := #[], guard := none }, { dst := some 182, op := Go.Op.binOp Go.BinOp.lss 3 (Go.Operand.tmp 181) (Go.Operand.const (Go.Value.int Go.IntKind.i64 0)) 3, type := 4, pos := "theorems.go:173", after := #[{ on := 0, ground := Go.Ground.data }], guard := none }, { dst := some 183, op := Go.Op.move (Go.Operand.tmp 182), type := 4, pos := "theorems.go:173", after := #[{ on := 1, ground := Go.Ground.data }], guard := none }, { dst := some 184, op := Go.Op.move (Go.Operand.tmp 19), type := 3, pos := "theorems.go:173", after := #[{ on := 2, ground := Go.Ground.guard }], guard := some (2, false) }, { dst := some 185, op := Go.Op.load 22 (Go.Operand.tmp 4), type := 22, pos := "theorems.go:173", after := #[{ on := 2, ground := Go.Ground.guard }], guard := some (2, false) }, { dst := some 186, op := Go.Op.call { callee := Go.Callee.builtin Go.Builtin.len, args := #[Go.Operand.tmp 185], argTypes := #[22] }, type := 3, pos := "theorems.go:173", after := #[{ on := 4, ground := Go.Ground.data }, { on := 2, ground := Go.Ground.guard }], guard := some (2, false) }, { dst := some 187, op := Go.Op.binOp Go.BinOp.geq 3 (Go.Operand.tmp 184) (Go.Operand.tmp 186) 3, type := 4, pos := "theorems.go:173", after := #[{ on := 3, ground := Go.Ground.data }, { on := 5, ground := Go.Ground.data }, { on := 2, ground := Go.Ground.guard }], guard := some (2, false) }, { dst := some 188, op := Go.Op.pick (Go.Operand.tmp 183) (Go.Operand.const (Go.Value.bool true)) (Go.Operand.tmp 187), type := 4, pos := "theorems.go:173", after := #[{ on := 2, ground := Go.Ground.data }, { on := 6, ground := Go.Ground.data }], guard := none }, { dst := some 189, op := Go.Op.move (Go.Operand.tmp 188), type := 4, pos := "theorems.go:173", after := #[{ on := 7, ground := Go.Ground.data }, { on := 2, ground := Go.Ground.chain }], guard := none }, { dst := some 190, op := Go.Op.move (Go.Operand.tmp 20), type := 3, pos := "theorems.go:173", after := #[{ on := 8, ground := Go.Ground.guard }], guard := some (8, false) }, { dst := some 191, op := Go.Op.binOp Go.BinOp.gtr 3 (Go.Operand.tmp 190) (Go.Operand.const (Go.Value.int Go.IntKind.i64 0)) 3, type := 4, pos := "theorems.go:173", after := #[{ on := 9, ground := Go.Ground.data }, { on := 8, ground := Go.Ground.guard }], guard := some (8, false) }, { dst := some 192, op := Go.Op.move (Go.Operand.tmp 191), type := 4, pos := "theorems.go:173", after := #[{ on := 10, ground := Go.Ground.data }, { on := 8, ground := Go.Ground.chain }, { on := 8, ground := Go.Ground.guard }], guard := some (8, false) }, { dst := some 193, op := Go.Op.load 3 (Go.Operand.tmp 17), type := 3, pos := "theorems.go:173", after := #[{ on := 11, ground := Go.Ground.guard }], guard := some (11, true) }, { dst := some 194, op := Go.Op.binOp Go.BinOp.lss 3 (Go.Operand.tmp 193) (Go.Operand.const (Go.Value.int Go.IntKind.i64 0)) 3, type := 4, pos := "theorems.go:173", after := #[{ on := 12, ground := Go.Ground.data }, { on := 11, ground := Go.Ground.guard }], guard := some (11, true) }, { dst := some 195, op := Go.Op.pick (Go.Operand.tmp 192) (Go.Operand.tmp 194) (Go.Operand.const (Go.Value.bool false)), type := 4, pos := "theorems.go:173", after := #[{ on := 11, ground := Go.Ground.data }, { on := 13, ground := Go.Ground.data }, { on := 8, ground := Go.Ground.guard }], guard := some (8, false) }, { dst := some 196, op := Go.Op.pick (Go.Operand.tmp 189) (Go.Operand.const (Go.Value.bool true)) (Go.Operand.tmp 195), type := 4, pos := "theorems.go:173", after := #[{ on := 8, ground := Go.Ground.data }, { on := 14, ground := Go.Ground.data }], guard := none }] false).seq (Go.Code.cond (Go.Operand.tmp 196) ((Go.Code.region 33 #[{ dst := none, op := Go.Op.store 4 (Go.Operand.tmp 8) (Go.Operand.const (Go.Value.bool false)), type := 0, pos := "theorems.go:174", after := #[], guard := none }] false).seq Go.Code.ret) Go.Code.skip)).seq ((Go.Code.region 34 #[{ dst := some 197, op := Go.Op.move (Go.Operand.tmp 20), type := 3, pos := "theorems.go:176", after := #[], guard := none }, { dst := some 198, op := Go.Op.binOp Go.BinOp.eql 3 (Go.Operand.tmp 197) (Go.Operand.const (Go.Value.int Go.IntKind.i64 0)) 3, type := 4, pos := "theorems.go:176", after := #[{ on := 0, ground := Go.Ground.data }], guard := none }] false).seq (Go.Code.cond (Go.Operand.tmp 198) (Go.Code.region 35 #[{ dst := some 199, op := Go.Op.move (Go.Operand.tmp 19), type := 3, pos := "theorems.go:177", after := #[], guard := none }, { dst := none, op := Go.Op.store 3 (Go.Operand.tmp 17) (Go.Operand.tmp 199), type := 0, pos := "theorems.go:177", after := #[{ on := 0, ground := Go.Ground.data }, { on := 0, ground := Go.Ground.phase }], guard := none }] false) ((Go.Code.region 36 #[{ dst := some 200, op := Go.Op.load 22 (Go.Operand.tmp 4), type := 22, pos := "theorems.go:178", after := #[], guard := none }, { dst := some 201, op := Go.Op.load 3 (Go.Operand.tmp 17), type := 3, pos := "theorems.go:178", after := #[], guard := none }, { dst := some 202, op := Go.Op.indexAddr 22 (Go.Operand.tmp 200) (Go.Operand.tmp 201), type := 0, pos := "theorems.go:178", after := #[{ on := 0, ground := Go.Ground.data }, { on := 1, ground := Go.Ground.data }], guard := none }, { dst := some 203, op := Go.Op.fieldAddr 37 (Go.Operand.tmp 202) 0, type := 0, pos := "theorems.go:178", after := #[{ on := 2, ground := Go.Ground.data }], guard := none }, { dst := some 204, op := Go.Op.load 9 (Go.Operand.tmp 203), type := 9, pos := "theorems.go:178", after := #[{ on := 3, ground := Go.Ground.data }], guard := none }, { dst := some 205, op := Go.Op.load 9 (Go.Operand.tmp 5), type := 9, pos := "theorems.go:178", after := #[], guard := none }, { dst := some 206, op := Go.Op.binOp Go.BinOp.eql 9 (Go.Operand.tmp 204) (Go.Operand.tmp 205) 9, type := 4, pos := "theorems.go:178", after := #[{ on := 4, ground := Go.Ground.data }, { on := 5, ground := Go.Ground.data }], guard := none }, { dst := some 207, op := Go.Op.move (Go.Operand.tmp 206), type := 4, pos := "theorems.go:178", after := #[{ on := 6, ground := Go.Ground.data }], guard := none }, { dst := some 208, op := Go.Op.load 22 (Go.Operand.tmp 4), type := 22, pos := "theorems.go:178", after := #[{ on := 7, ground := Go.Ground.guard }], guard := some (7, true) }, { dst := some 209, op := Go.Op.move (Go.Operand.tmp 19), type := 3, pos := "theorems.go:178", after := #[{ on := 7, ground := Go.Ground.guard }], guard := some (7, true) }, { dst := some 210, op := Go.Op.indexAddr 22 (Go.Operand.tmp 208) (Go.Operand.tmp 209), type := 0, pos := "theorems.go:178", after := #[{ on := 8, ground := Go.Ground.data }, { on := 9, ground := Go.Ground.data }, { on := 7, ground := Go.Ground.guard }], guard := some (7, true) }, { dst := some 211, op := Go.Op.fieldAddr 37 (Go.Operand.tmp 210) 0, type := 0, pos := "theorems.go:178", after := #[{ on := 10, ground := Go.Ground.data }, { on := 7, ground := Go.Ground.guard }], guard := some (7, true) }, { dst := some 212, op := Go.Op.load 9 (Go.Operand.tmp 211), type := 9, pos := "theorems.go:178", after := #[{ on := 11, ground := Go.Ground.data }, { on := 7, ground := Go.Ground.guard }], guard := some (7, true) }, { dst := some 213, op := Go.Op.load 9 (Go.Operand.tmp 6), type := 9, pos := "theorems.go:178", after := #[{ on := 7, ground := Go.Ground.guard }], guard := some (7, true) }, { dst := some 214, op := Go.Op.binOp Go.BinOp.eql 9 (Go.Operand.tmp 212) (Go.Operand.tmp 213) 9, type := 4, pos := "theorems.go:178", after := #[{ on := 12, ground := Go.Ground.data }, { on := 13, ground := Go.Ground.data }, { on := 7, ground := Go.Ground.guard }], guard := some (7, true) }, { dst := some 215, op := Go.Op.pick (Go.Operand.tmp 207) (Go.Operand.tmp 214) (Go.Operand.const (Go.Value.bool false)), type := 4, pos := "theorems.go:178", after := #[{ on := 7, ground := Go.Ground.data }, { on := 14, ground := Go.Ground.data }], guard := none }] true).seq (Go.Code.cond (Go.Operand.tmp 215) (Go.Code.region 37 #[{ dst := some 216, op := Go.Op.load 49 (Go.Operand.tmp 16), type := 49, pos := "theorems.go:179", after := #[], guard := none }, { dst := some 217, op := Go.Op.move (Go.Operand.tmp 19), type := 3, pos := "theorems.go:179", after := #[], guard := none }, { dst := some 218, op := Go.Op.buildSlice 49 1 #[(0, Go.Operand.tmp 217)], type := 49, pos := "theorems.go:179", after := #[{ on := 1, ground := Go.Ground.data }], guard := none }, { dst := some 219, op := Go.Op.call { callee := Go.Callee.builtin Go.Builtin.append, args := #[Go.Operand.tmp 216, Go.Operand.tmp 218], argTypes := #[49, 49] }, type := 49, pos := "theorems.go:179", after := #[{ on := 0, ground := Go.Ground.data }, { on := 2, ground := Go.Ground.data }], guard := none }, { dst := none, op := Go.Op.store 49 (Go.Operand.tmp 16) (Go.Operand.tmp 219), type := 0, pos := "theorems.go:179", after := #[{ on := 3, ground := Go.Ground.data }, { on := 3, ground := Go.Ground.chain }, { on := 0, ground := Go.Ground.phase }, { on := 1, ground := Go.Ground.phase }, { on := 2, ground := Go.Ground.phase }, { on := 3, ground := Go.Ground.phase }], guard := none }] false) Go.Code.skip)))))).wpIn (Fence.wide.inRound l) (12 - 1 - 1) Tryd.prog (ownPostG n1 (KpL Bs (.slice As zs.length cs)) (PI f zs a b gw gr wo n1) (fun _ pre _ => Bad f zs a b pre) (pre ++ [⟨q, hql⟩]) W)
      { tmps := #[u 0, u 1, u 2, u 3, .pointer (some ⟨g4, 0, none⟩), .pointer (some ⟨g5, 0, none⟩), .pointer (some ⟨g6, 0, none⟩), u 7, .pointer (some ⟨g8, 0, none⟩), u 9, u 10, u 11, u 12, u 13, u 14, u 15, .pointer (some ⟨gw, 0, none⟩), .pointer (some ⟨gr, 0, none⟩), u 18, .int .i64 (q : Int), .int .i64 z, u 21, u 22, u 23, u 24, u 25, u 26, u 27, u 28, u 29, u 30, u 31, u 32, u 33, u 34, u 35, u 36, u 37, u 38, u 39, u 40, u 41, u 42, u 43, u 44, u 45, u 46, u 47, u 48, u 49, u 50, u 51, u 52, u 53, u 54, u 55, u 56, u 57, u 58, u 59, u 60, u 61, u 62, u 63, u 64, u 65, u 66, u 67, u 68, u 69, u 70, u 71, u 72, u 73, u 74, u 75, u 76, u 77, u 78, u 79, u 80, u 81, u 82, u 83, u 84, u 85, u 86, u 87, u 88, u 89, u 90, u 91, u 92, u 93, u 94, u 95, u 96, u 97, u 98, u 99, u 100, u 101, u 102, u 103, u 104, u 105, u 106, u 107, u 108, u 109, u 110, u 111, u 112, u 113, u 114, u 115, u 116, u 117, u 118, u 119, u 120, u 121, u 122, u 123, u 124, u 125, u 126, u 127, u 128, u 129, u 130, u 131, u 132, u 133, u 134, u 135, u 136, u 137, u 138, u 139, u 140, u 141, u 142, u 143, u 144, u 145, u 146, u 147, u 148, u 149, u 150, u 151, u 152, u 153, u 154, u 155, u 156, u 157, u 158, u 159, u 160, u 161, u 162, u 163, u 164, u 165, u 166, u 167, u 168, u 169, u 170, u 171, u 172, u 173, u 174, u 175, u 176, u 177, u 178, .int .i64 (q : Int), .int .i64 z, u 181, u 182, u 183, u 184, u 185, u 186, u 187, u 188, u 189, u 190, u 191, u 192, u 193, u 194, u 195, u 196, u 197, u 198, u 199, u 200, u 201, u 202, u 203, u 204, u 205, u 206, u 207, u 208, u 209, u 210, u 211, u 212, u 213, u 214, u 215, u 216, u 217, u 218, u 219, u 220, u 221, u 222, u 223, u 224, u 225, u 226, u 227, u 228, u 229, u 230, u 231, u 232, u 233, u 234, u 235, u 236, u 237, u 238, u 239, u 240, u 241, u 242, u 243, u 244, u 245, u 246, u 247, u 248, u 249, u 250, u 251, u 252, u 253, u 254, u 255, u 256, u 257, u 258, u 259, u 260, u 261, u 262, u 263, u 264, u 265, u 266, u 267, u 268, u 269, u 270, u 271, u 272, u 273, u 274, u 275, u 276, u 277, u 278, u 279, u 280, u 281, u 282, u 283, u 284, u 285, u 286, u 287, u 288, u 289, u 290, u 291, u 292, u 293, u 294, u 295, u 296, u 297, u 298, u 299, u 300, u 301, u 302], defers := [] } W := by
  obtain ⟨bR, hB, hsz, v, bW, hrow, _⟩ := hI
  have hsn := goF_snoc f zs a b (pre.map (·.1)) q
  have hgrb := goF_root f zs a b f.length (pre.map (·.1)) (fun x hx => by obtain ⟨y, _, rfl⟩ := List.mem_map.1 hx; have := y.2; omega)
  have hgl := goF_len f zs a b (pre.map (·.1))
  rw [List.length_map] at hgl
  have hmap : (pre ++ [(⟨q, hql⟩ : Fin zs.length)]).map (·.1) = pre.map (·.1) ++ [q] := by simp
  rw [← hmap] at hsn
  obtain ⟨⟨R, L⟩, hRL⟩ : ∃ x, goF f zs a b (pre.map (·.1)) = x := ⟨_, rfl⟩
  rw [hRL] at hsn bR hrow hgrb hgl
  dsimp only at bR hrow hgrb hgl
  have hz1 : 0 ≤ z := by rw [← hz]; exact hz0 q (by omega)
  have HSN := Aside0.mk hsn
  have HRL := Aside0.mk hRL
  have HZ := Aside0.mk hz
  have HBb := Aside0.mk hB
  have HRow := Aside0.mk hrow
  have BRb := Aside0.mk bR
  have BWb := Aside0.mk bW
  have hqf : (q : Int) < (f.length : Int) := by omega
  have hR1 : R < (f.length : Int) := by omega
  have hRm : -1 ≤ R := hgrb.1
  have O4 := Aside0.mk o4
  have O5 := Aside0.mk o5
  have O6 := Aside0.mk o6
  have O8 := Aside0.mk o8
  have HLV := Aside0.mk hlv
  have HCO := Aside0.mk hCo
  have c4 := (bx hB o4).cell
  have cR := bR.cell
  have fR := bR.frozen
  have HNE := Aside0.mk hne
  clear hsn hRL hmap hB bR hrow bW hgrb o4 o5 o6 o8 hz0 hz hlv hCo hne
  by_cases hzz : z = 0
  · have z1 : decide (0 < z) = false := decide_eq_false (by omega)
    have z2 : (z == 0) = true := beq_iff_eq.mpr hzz
    have HZZ := Aside0.mk hzz
    gi_wp2
    refine ⟨(KeepsOthers.setCell _ _ _).from _, fun k o hk h1 => (Below.heap_setCell W ⟨gr, 0, none⟩ _ k (fun e => by rcases hk with h | h; (have h2 : k = gr := e; omega); (have h2 := HLV.out k h; have : k = gr := e; omega))).trans h1, ?_⟩
    have hgo : goF f zs a b ((pre ++ [(⟨q, hql⟩ : Fin zs.length)]).map (·.1)) = ((q : Int), L) := by
      rw [HSN.out]
      unfold stF
      rw [if_pos (HZ.out.trans HZZ.out)]
    unfold PI
    rw [hgo]
    refine ⟨BRb.out.set _, HBb.out.setCell (p := ⟨gr, 0, none⟩) hgr.1 _, Nat.le_trans hsz (KeepsWalks.setCell W _ _).size, v, BWb.out.other HNE.out _, HRow.out.kept (grownBy_setCell' W gr _) ?_, trivial⟩
    right
    intro e
    have := (HRow.out.lt gr e).1
    omega
  · have z1 : decide (0 < z) = true := decide_eq_true (by omega)
    have z2 : (z == 0) = false := beq_eq_false_iff_ne.mpr hzz
    by_cases hRn : R < 0
    · have r1 : decide (R < 0) = true := decide_eq_true hRn
      have b8 := bx HBb.out O8.out
      have d8c := b8.cell
      have d8f := b8.frozen
      have HZZ := Aside0.mk hzz
      have HRN := Aside0.mk hRn
      clear b8 hzz
      gi_wp2
      exact ⟨(KeepsOthers.setCell _ _ _).from _, pre, ⟨q, hql⟩, rfl, fun e => HZZ.out (HZ.out.symm.trans e), by rw [HRL.out]; exact HRN.out⟩
    · have r1 : decide (R < 0) = false := decide_eq_false hRn
      obtain ⟨Rn, rfl⟩ : ∃ Rn : Nat, R = (Rn : Int) := ⟨R.toNat, by omega⟩
      obtain ⟨ad, had, y0, _, _, _⟩ := at_T37 (Kd.C_below HCO.out HBb.out) (Rn : Int) (by omega) (by omega)
      obtain ⟨ad2, had2, y1, _, _, _⟩ := at_T37 (Kd.C_below HCO.out HBb.out) (q : Int) (by omega) (by omega)
      subst had
      obtain rfl := Option.some.inj had2
      rw [Int.toNat_natCast] at y0 y1
      obtain ⟨n3, hn3⟩ : ∃ x, (rd_T37 f (Rn : Int)).f0 = x := ⟨_, rfl⟩
      obtain ⟨n2, hn2⟩ : ∃ x, (rd_T37 f (q : Int)).f0 = x := ⟨_, rfl⟩
      rw [hn3] at y0
      rw [hn2] at y1
      have hgo : goF f zs a b ((pre ++ [(⟨q, hql⟩ : Fin zs.length)]).map (·.1)) = ((Rn : Int), if ((n3.toList == a.toList) && (n2.toList == b.toList)) = true then L ++ [(q : Int)] else L) := by
        rw [HSN.out]
        unfold stF hitF
        rw [if_neg (fun e => hzz (HZ.out.symm.trans e)), hn3]
        show (_, if (_ && ((rd_T37 f (q : Int)).f0.toList == b.toList)) = true then _ else _) = _
        rw [hn2]
      have HGO := Aside0.mk hgo
      have c5 := (bx HBb.out O5.out).cell
      have c6 := (bx HBb.out O6.out).cell
      have i1 : (0 : Int) ≤ (Rn : Int) := by omega
      have i2 : (Rn : Int) < (f.length : Int) := hR1
      have i3 : (0 : Int) ≤ (q : Int) := by omega
      clear hgo hn3 hn2 had2
      gi_wp2_with fail
      refine RegR.regionR (S := S6 g4 gr g5 g6 (ad.add (Rn * 4)) (ad.add (q * 4)) (.slice (some ad) f.length cf) (.int .i64 (Rn : Int)) (.string n3) (.string a) (.string n2) (.string b)) (by kernel_rfl) (by kernel_rfl) (fun ⟨_, _, h⟩ => h) ?_
      have hS0 : S6 g4 gr g5 g6 (ad.add (Rn * 4)) (ad.add (q * 4)) (.slice (some ad) f.length cf) (.int .i64 (Rn : Int)) (.string n3) (.string a) (.string n2) (.string b) W.drew := ⟨c4, cR, y0, c5, y1, c6⟩
      have hkd : Below W.heap.size W W.drew := (Below.refl _ W).drew
      clear c4 cR y0 c5 y1 c6 fR
      refine wpAnyH_take (i := 0) (oi := { dst := some 200, op := Go.Op.load 22 (Go.Operand.tmp 4), type := 22, pos := "theorems.go:178", after := #[], guard := none }) (v := ?vv0) rfl (by kernel_rfl) (by kernel_rfl) (by kernel_rfl) (fun _ _ _ h => h) (Or.inl ⟨by rfl, ?hy0⟩) (by assumption) ?rs0
      case hy0 => intro W' hS'; obtain ⟨h1, h2, h3, h4, h5, h6⟩ := hS'; go_simp; all_goals (with_reducible rfl)
      simp only [Act.put, List.setIfInBounds_toArray, List.set_cons_zero, List.set_cons_succ]
      refine wpAnyH_take (i := 1) (oi := { dst := some 201, op := Go.Op.load 3 (Go.Operand.tmp 17), type := 3, pos := "theorems.go:178", after := #[], guard := none }) (v := ?vv1) rfl (by kernel_rfl) (by kernel_rfl) (by kernel_rfl) (fun _ _ _ h => h) (Or.inl ⟨by rfl, ?hy1⟩) (by assumption) ?rs1
      case hy1 => intro W' hS'; obtain ⟨h1, h2, h3, h4, h5, h6⟩ := hS'; go_simp; all_goals (with_reducible rfl)
      simp only [Act.put, List.setIfInBounds_toArray, List.set_cons_zero, List.set_cons_succ]
      refine wpAnyH_take (i := 2) (oi := { dst := some 202, op := Go.Op.indexAddr 22 (Go.Operand.tmp 200) (Go.Operand.tmp 201), type := 0, pos := "theorems.go:178", after := #[{ on := 0, ground := Go.Ground.data }, { on := 1, ground := Go.Ground.data }], guard := none }) (v := ?vv2) rfl (by kernel_rfl) (by kernel_rfl) (by kernel_rfl) (fun _ _ _ h => h) (Or.inl ⟨by rfl, ?hy2⟩) (by assumption) ?rs2
      case hy2 => intro W' hS'; obtain ⟨h1, h2, h3, h4, h5, h6⟩ := hS'; go_simp; all_goals (with_reducible rfl)
      simp only [Act.put, List.setIfInBounds_toArray, List.set_cons_zero, List.set_cons_succ]
      refine wpAnyH_take (i := 3) (oi := { dst := some 203, op := Go.Op.fieldAddr 37 (Go.Operand.tmp 202) 0, type := 0, pos := "theorems.go:178", after := #[{ on := 2, ground := Go.Ground.data }], guard := none }) (v := ?vv3) rfl (by kernel_rfl) (by kernel_rfl) (by kernel_rfl) (fun _ _ _ h => h) (Or.inl ⟨by rfl, ?hy3⟩) (by assumption) ?rs3
      case hy3 => intro W' hS'; obtain ⟨h1, h2, h3, h4, h5, h6⟩ := hS'; go_simp; all_goals (with_reducible rfl)
      simp only [Act.put, List.setIfInBounds_toArray, List.set_cons_zero, List.set_cons_succ]
      refine wpAnyH_take (i := 4) (oi := { dst := some 204, op := Go.Op.load 9 (Go.Operand.tmp 203), type := 9, pos := "theorems.go:178", after := #[{ on := 3, ground := Go.Ground.data }], guard := none }) (v := ?vv4) rfl (by kernel_rfl) (by kernel_rfl) (by kernel_rfl) (fun _ _ _ h => h) (Or.inl ⟨by rfl, ?hy4⟩) (by assumption) ?rs4
      case hy4 => intro W' hS'; obtain ⟨h1, h2, h3, h4, h5, h6⟩ := hS'; go_simp; all_goals (with_reducible rfl)
      simp only [Act.put, List.setIfInBounds_toArray, List.set_cons_zero, List.set_cons_succ]
      refine wpAnyH_take (i := 5) (oi := { dst := some 205, op := Go.Op.load 9 (Go.Operand.tmp 5), type := 9, pos := "theorems.go:178", after := #[], guard := none }) (v := ?vv5) rfl (by kernel_rfl) (by kernel_rfl) (by kernel_rfl) (fun _ _ _ h => h) (Or.inl ⟨by rfl, ?hy5⟩) (by assumption) ?rs5
      case hy5 => intro W' hS'; obtain ⟨h1, h2, h3, h4, h5, h6⟩ := hS'; go_simp; all_goals (with_reducible rfl)
      simp only [Act.put, List.setIfInBounds_toArray, List.set_cons_zero, List.set_cons_succ]
      by_cases e1 : (n3.toList == a.toList) = true
      · have e1' : n3.toList = a.toList := beq_iff_eq.1 e1
        refine wpAnyH_take (i := 6) (oi := { dst := some 206, op := Go.Op.binOp Go.BinOp.eql 9 (Go.Operand.tmp 204) (Go.Operand.tmp 205) 9, type := 4, pos := "theorems.go:178", after := #[{ on := 4, ground := Go.Ground.data }, { on := 5, ground := Go.Ground.data }], guard := none }) (v := ?vv6a) rfl (by kernel_rfl) (by kernel_rfl) (by kernel_rfl) (fun _ _ _ h => h) (Or.inl ⟨by rfl, ?hy6a⟩) (by assumption) ?rs6a
        case hy6a => intro W' hS'; obtain ⟨h1, h2, h3, h4, h5, h6⟩ := hS'; go_simp; all_goals (with_reducible rfl)
        simp only [Act.put, List.setIfInBounds_toArray, List.set_cons_zero, List.set_cons_succ]
        refine wpAnyH_take (i := 7) (oi := { dst := some 207, op := Go.Op.move (Go.Operand.tmp 206), type := 4, pos := "theorems.go:178", after := #[{ on := 6, ground := Go.Ground.data }], guard := none }) (v := ?vv7a) rfl (by kernel_rfl) (by kernel_rfl) (by kernel_rfl) (fun _ _ _ h => h) (Or.inl ⟨by rfl, ?hy7a⟩) (by assumption) ?rs7a
        case hy7a => intro W' hS'; obtain ⟨h1, h2, h3, h4, h5, h6⟩ := hS'; go_simp; all_goals (with_reducible rfl)
        simp only [Act.put, List.setIfInBounds_toArray, List.set_cons_zero, List.set_cons_succ]
        refine wpAnyH_take (i := 8) (oi := { dst := some 208, op := Go.Op.load 22 (Go.Operand.tmp 4), type := 22, pos := "theorems.go:178", after := #[{ on := 7, ground := Go.Ground.guard }], guard := some (7, true) }) (v := ?vv8a) rfl (by kernel_rfl) (by kernel_rfl) (by kernel_rfl) (fun _ _ _ h => h) (Or.inl ⟨by go_simp, ?hy8a⟩) (by assumption) ?rs8a
        case hy8a => intro W' hS'; obtain ⟨h1, h2, h3, h4, h5, h6⟩ := hS'; go_simp; all_goals (with_reducible rfl)
        simp only [Act.put, List.setIfInBounds_toArray, List.set_cons_zero, List.set_cons_succ]
        refine wpAnyH_take (i := 9) (oi := { dst := some 209, op := Go.Op.move (Go.Operand.tmp 19), type := 3, pos := "theorems.go:178", after := #[{ on := 7, ground := Go.Ground.guard }], guard := some (7, true) }) (v := ?vv9a) rfl (by kernel_rfl) (by kernel_rfl) (by kernel_rfl) (fun _ _ _ h => h) (Or.inl ⟨by go_simp, ?hy9a⟩) (by assumption) ?rs9a
        case hy9a => intro W' hS'; obtain ⟨h1, h2, h3, h4, h5, h6⟩ := hS'; go_simp; all_goals (with_reducible rfl)
        simp only [Act.put, List.setIfInBounds_toArray, List.set_cons_zero, List.set_cons_succ]
        refine wpAnyH_take (i := 10) (oi := { dst := some 210, op := Go.Op.indexAddr 22 (Go.Operand.tmp 208) (Go.Operand.tmp 209), type := 0, pos := "theorems.go:178", after := #[{ on := 8, ground := Go.Ground.data }, { on := 9, ground := Go.Ground.data }, { on := 7, ground := Go.Ground.guard }], guard := some (7, true) }) (v := ?vv10a) rfl (by kernel_rfl) (by kernel_rfl) (by kernel_rfl) (fun _ _ _ h => h) (Or.inl ⟨by go_simp, ?hy10a⟩) (by assumption) ?rs10a
        case hy10a => intro W' hS'; obtain ⟨h1, h2, h3, h4, h5, h6⟩ := hS'; go_simp; all_goals (with_reducible rfl)
        simp only [Act.put, List.setIfInBounds_toArray, List.set_cons_zero, List.set_cons_succ]
        refine wpAnyH_take (i := 11) (oi := { dst := some 211, op := Go.Op.fieldAddr 37 (Go.Operand.tmp 210) 0, type := 0, pos := "theorems.go:178", after := #[{ on := 10, ground := Go.Ground.data }, { on := 7, ground := Go.Ground.guard }], guard := some (7, true) }) (v := ?vv11a) rfl (by kernel_rfl) (by kernel_rfl) (by kernel_rfl) (fun _ _ _ h => h) (Or.inl ⟨by go_simp, ?hy11a⟩) (by assumption) ?rs11a
        case hy11a => intro W' hS'; obtain ⟨h1, h2, h3, h4, h5, h6⟩ := hS'; go_simp; all_goals (with_reducible rfl)
        simp only [Act.put, List.setIfInBounds_toArray, List.set_cons_zero, List.set_cons_succ]
        refine wpAnyH_take (i := 12) (oi := { dst := some 212, op := Go.Op.load 9 (Go.Operand.tmp 211), type := 9, pos := "theorems.go:178", after := #[{ on := 11, ground := Go.Ground.data }, { on := 7, ground := Go.Ground.guard }], guard := some (7, true) }) (v := ?vv12a) rfl (by kernel_rfl) (by kernel_rfl) (by kernel_rfl) (fun _ _ _ h => h) (Or.inl ⟨by go_simp, ?hy12a⟩) (by assumption) ?rs12a
        case hy12a => intro W' hS'; obtain ⟨h1, h2, h3, h4, h5, h6⟩ := hS'; go_simp; all_goals (with_reducible rfl)
        simp only [Act.put, List.setIfInBounds_toArray, List.set_cons_zero, List.set_cons_succ]
        refine wpAnyH_take (i := 13) (oi := { dst := some 213, op := Go.Op.load 9 (Go.Operand.tmp 6), type := 9, pos := "theorems.go:178", after := #[{ on := 7, ground := Go.Ground.guard }], guard := some (7, true) }) (v := ?vv13a) rfl (by kernel_rfl) (by kernel_rfl) (by kernel_rfl) (fun _ _ _ h => h) (Or.inl ⟨by go_simp, ?hy13a⟩) (by assumption) ?rs13a
        case hy13a => intro W' hS'; obtain ⟨h1, h2, h3, h4, h5, h6⟩ := hS'; go_simp; all_goals (with_reducible rfl)
        simp only [Act.put, List.setIfInBounds_toArray, List.set_cons_zero, List.set_cons_succ]
        refine wpAnyH_take (i := 14) (oi := { dst := some 214, op := Go.Op.binOp Go.BinOp.eql 9 (Go.Operand.tmp 212) (Go.Operand.tmp 213) 9, type := 4, pos := "theorems.go:178", after := #[{ on := 12, ground := Go.Ground.data }, { on := 13, ground := Go.Ground.data }, { on := 7, ground := Go.Ground.guard }], guard := some (7, true) }) (v := ?vv14a) rfl (by kernel_rfl) (by kernel_rfl) (by kernel_rfl) (fun _ _ _ h => h) (Or.inl ⟨by go_simp, ?hy14a⟩) (by assumption) ?rs14a
        case hy14a => intro W' hS'; obtain ⟨h1, h2, h3, h4, h5, h6⟩ := hS'; go_simp; all_goals (with_reducible rfl)
        simp only [Act.put, List.setIfInBounds_toArray, List.set_cons_zero, List.set_cons_succ]
        refine wpAnyH_take (i := 15) (oi := { dst := some 215, op := Go.Op.pick (Go.Operand.tmp 207) (Go.Operand.tmp 214) (Go.Operand.const (Go.Value.bool false)), type := 4, pos := "theorems.go:178", after := #[{ on := 7, ground := Go.Ground.data }, { on := 14, ground := Go.Ground.data }], guard := none }) (v := ?vv15a) rfl (by kernel_rfl) (by kernel_rfl) (by kernel_rfl) (fun _ _ _ h => h) (Or.inl ⟨by rfl, ?hy15a⟩) (by assumption) ?rs15a
        case hy15a => intro W' hS'; obtain ⟨h1, h2, h3, h4, h5, h6⟩ := hS'; go_simp; all_goals (with_reducible rfl)
        simp only [Act.put, List.setIfInBounds_toArray, List.set_cons_zero, List.set_cons_succ]
        refine wpAnyH_done (by kernel_rfl) ?_ _
        by_cases e2 : (n2.toList == b.toList) = true
        · have e2' : n2.toList = b.toList := beq_iff_eq.1 e2
          obtain ⟨i0, hi, hy0, hy1, hy2⟩ := info_parts info3
          have bWd : Boxed W.drew gw 49 v := BWb.out
          have bRd : Boxed W.drew gr 3 (.int .i64 (Rn : Int)) := BRb.out
          have hrd : W.drew.ownsRow n1 3 1 v L.length (L.map enc) := HRow.out
          have hk0 : KeepsOthers W W.drew := KeepsOthers.drew W
          have hB0 : Below wo.heap.size wo W.drew := HBb.out.drew
          have hhp : ∀ k : Nat, W.drew.heap[k]? = W.heap[k]? := fun _ => rfl
          have hszd : n1 ≤ W.drew.heap.size := hsz
          clear hkd hS0
          generalize W.drew = Wd at bWd bRd hrd hk0 hB0 hhp hszd ⊢
          have dW := bWd.cell
          have fW := bWd.frozen
          have BWD := Aside0.mk bWd
          have BRD := Aside0.mk bRd
          have HRD := Aside0.mk hrd
          have HK0 := Aside0.mk hk0
          have HB0 := Aside0.mk hB0
          have HHP := Aside0.mk hhp
          clear bWd hrd bRd hk0 hB0 hhp
          gi_wp2_with (gi_at_builtin; go_loud (refine wpListIn_append_own _ rfl _ _ 49 rfl n1 3 i0 (.int .i64 0) 1 8 Tryd.underlying49 hi hy0 hy1 hy2 rfl (by decide) v L.length (L.map enc) rfl (HRD.out.alloc _) ⟨Wd.heap.size, 0, none⟩ 1 1 [.int .i64 (q : Int)] rfl rfl (cell_new _ _ _) (by simp [Value.oneCell']) (by unfold maxLen; omega) (by omega) (by rw [World.size_alloc]; omega) ?_; intro v' w3 hown' hg3 hnil3; obtain ⟨g', cap', rfl⟩ : ∃ g' cap', v' = .slice (some ⟨g', 0, none⟩) (L.length + 1) cap' := (by rcases hown'.2 with ⟨_, h0⟩ | ⟨g', cap', cur', h', _⟩; (exact absurd h0 (by omega)); (exact ⟨g', cap', h'⟩)); have hv3 : Boxed w3 gw 49 v := (BWD.out.alloc _).kept hg3 (BWD.out.not_row (by decide) HRD.out); have dW3 := hv3.cell; have fW3 := hv3.frozen; have HV3 := Aside0.mk hv3; have HOW := Aside0.mk hown'; have HG3 := Aside0.mk hg3; clear hv3 hown' hg3 hnil3 dW fW))
          have hrb : ∀ j, v.ownBlock = some j → n1 ≤ j ∧ j < Wd.heap.size := fun j hj => HRD.out.lt j hj
          have hk1 : Wd.grownBy (Wd.alloc (.cells #[.int .i64 (q : Int)] 3)) none := World.grownBy_alloc _ _ _
          refine ⟨((HK0.out.trans (KeepsOthers.alloc _ _)).trans ((KeepsOthers.of_grownBy HG3.out fun j o ej hj => ?_).trans (KeepsOthers.setCell _ _ _))).from _, fun k o hk h1 => ?_, ?_⟩
          · rcases (HRD.out.alloc (.cells #[.int .i64 (q : Int)] 3)).2 with ⟨rfl, _⟩ | ⟨g, cap, cur, rfl, _, hgb, _⟩
            · simp [Value.ownBlock] at ej
            · obtain rfl : g = j := by simpa [Value.ownBlock] using ej
              rw [hgb] at hj; cases hj; rfl
          · have hk2 : k < n1 ∧ m ≤ k := by
              rcases hk with h | h
              · omega
              · have := HLV.out k h; omega
            have hkne : some k ≠ v.ownBlock := fun e => by have := (hrb k e.symm).1; omega
            refine (Below.heap_setCell w3 ⟨gw, 0, none⟩ _ k (fun e => by have h2 : k = gw := e; omega)).trans ?_
            refine (HG3.out.block k (by rw [World.size_alloc]; omega) hkne).trans ?_
            exact (Below.heap_alloc Wd _ k (by omega)).trans ((HHP.out k).trans h1)
          · unfold PI
            rw [HGO.out, e1, e2, Bool.true_and, if_pos rfl]
            have hB3 : Below wo.heap.size wo w3 := ((HB0.out.alloc HB0.out.size _).grown HG3.out (by rw [World.size_alloc]; have := HB0.out.size; omega) (fun j ej => by have := (hrb j ej).1; omega))
            refine ⟨?_, hB3.setCell (p := ⟨gw, 0, none⟩) hgw.1 _, ?_, (.slice (some ⟨g', 0, none⟩) (L.length + 1) cap'), HV3.out.set _, ?_, trivial⟩
            · exact ((BRD.out.alloc _).kept HG3.out (fun e => by have := (hrb gr e.symm).1; omega)).other (fun e => HNE.out e.symm) _
            · have h1 := HG3.out.size
              rw [World.size_alloc] at h1
              have h2 := (KeepsWalks.setCell w3 ⟨gw, 0, none⟩ (.slice (some ⟨g', 0, none⟩) (L.length + 1) cap')).size
              omega
            · have := HOW.out.kept (grownBy_setCell' w3 gw (.slice (some ⟨g', 0, none⟩) (L.length + 1) cap')) (.inr (HV3.out.not_row (by decide) HOW.out).symm)
              simpa using this
          · exact absurd ‹(n2.toList == b.toList) = false› (by rw [e2']; simp)
        · have e2' : (n2.toList == b.toList) = false := Bool.eq_false_iff.2 e2
          gi_wp2
          refine ⟨(KeepsOthers.drew _).from _, fun k o _ h1 => h1, ?_⟩
          unfold PI
          rw [HGO.out, e2', Bool.and_false, if_neg (by decide)]
          exact ⟨BRb.out, HBb.out.drew, hsz, v, BWb.out, HRow.out, trivial⟩
      · have e1' : (n3.toList == a.toList) = false := Bool.eq_false_iff.2 e1
        refine wpAnyH_take (i := 6) (oi := { dst := some 206, op := Go.Op.binOp Go.BinOp.eql 9 (Go.Operand.tmp 204) (Go.Operand.tmp 205) 9, type := 4, pos := "theorems.go:178", after := #[{ on := 4, ground := Go.Ground.data }, { on := 5, ground := Go.Ground.data }], guard := none }) (v := ?vv6b) rfl (by kernel_rfl) (by kernel_rfl) (by kernel_rfl) (fun _ _ _ h => h) (Or.inl ⟨by rfl, ?hy6b⟩) (by assumption) ?rs6b
        case hy6b => intro W' hS'; obtain ⟨h1, h2, h3, h4, h5, h6⟩ := hS'; go_simp; all_goals (with_reducible rfl)
        simp only [Act.put, List.setIfInBounds_toArray, List.set_cons_zero, List.set_cons_succ]
        refine wpAnyH_take (i := 7) (oi := { dst := some 207, op := Go.Op.move (Go.Operand.tmp 206), type := 4, pos := "theorems.go:178", after := #[{ on := 6, ground := Go.Ground.data }], guard := none }) (v := ?vv7b) rfl (by kernel_rfl) (by kernel_rfl) (by kernel_rfl) (fun _ _ _ h => h) (Or.inl ⟨by rfl, ?hy7b⟩) (by assumption) ?rs7b
        case hy7b => intro W' hS'; obtain ⟨h1, h2, h3, h4, h5, h6⟩ := hS'; go_simp; all_goals (with_reducible rfl)
        simp only [Act.put, List.setIfInBounds_toArray, List.set_cons_zero, List.set_cons_succ]
        refine wpAnyH_take (i := 8) (oi := { dst := some 208, op := Go.Op.load 22 (Go.Operand.tmp 4), type := 22, pos := "theorems.go:178", after := #[{ on := 7, ground := Go.Ground.guard }], guard := some (7, true) }) (v := undef) rfl (by kernel_rfl) (by kernel_rfl) (by kernel_rfl) (fun _ _ _ h => h) (Or.inr ⟨by go_simp, rfl⟩) (by assumption) ?rs8b
        simp only [Act.put, List.setIfInBounds_toArray, List.set_cons_zero, List.set_cons_succ]
        refine wpAnyH_take (i := 9) (oi := { dst := some 209, op := Go.Op.move (Go.Operand.tmp 19), type := 3, pos := "theorems.go:178", after := #[{ on := 7, ground := Go.Ground.guard }], guard := some (7, true) }) (v := undef) rfl (by kernel_rfl) (by kernel_rfl) (by kernel_rfl) (fun _ _ _ h => h) (Or.inr ⟨by go_simp, rfl⟩) (by assumption) ?rs9b
        simp only [Act.put, List.setIfInBounds_toArray, List.set_cons_zero, List.set_cons_succ]
        refine wpAnyH_take (i := 10) (oi := { dst := some 210, op := Go.Op.indexAddr 22 (Go.Operand.tmp 208) (Go.Operand.tmp 209), type := 0, pos := "theorems.go:178", after := #[{ on := 8, ground := Go.Ground.data }, { on := 9, ground := Go.Ground.data }, { on := 7, ground := Go.Ground.guard }], guard := some (7, true) }) (v := undef) rfl (by kernel_rfl) (by kernel_rfl) (by kernel_rfl) (fun _ _ _ h => h) (Or.inr ⟨by go_simp, rfl⟩) (by assumption) ?rs10b
        simp only [Act.put, List.setIfInBounds_toArray, List.set_cons_zero, List.set_cons_succ]
        refine wpAnyH_take (i := 11) (oi := { dst := some 211, op := Go.Op.fieldAddr 37 (Go.Operand.tmp 210) 0, type := 0, pos := "theorems.go:178", after := #[{ on := 10, ground := Go.Ground.data }, { on := 7, ground := Go.Ground.guard }], guard := some (7, true) }) (v := undef) rfl (by kernel_rfl) (by kernel_rfl) (by kernel_rfl) (fun _ _ _ h => h) (Or.inr ⟨by go_simp, rfl⟩) (by assumption) ?rs11b
        simp only [Act.put, List.setIfInBounds_toArray, List.set_cons_zero, List.set_cons_succ]
        refine wpAnyH_take (i := 12) (oi := { dst := some 212, op := Go.Op.load 9 (Go.Operand.tmp 211), type := 9, pos := "theorems.go:178", after := #[{ on := 11, ground := Go.Ground.data }, { on := 7, ground := Go.Ground.guard }], guard := some (7, true) }) (v := undef) rfl (by kernel_rfl) (by kernel_rfl) (by kernel_rfl) (fun _ _ _ h => h) (Or.inr ⟨by go_simp, rfl⟩) (by assumption) ?rs12b
        simp only [Act.put, List.setIfInBounds_toArray, List.set_cons_zero, List.set_cons_succ]
        refine wpAnyH_take (i := 13) (oi := { dst := some 213, op := Go.Op.load 9 (Go.Operand.tmp 6), type := 9, pos := "theorems.go:178", after := #[{ on := 7, ground := Go.Ground.guard }], guard := some (7, true) }) (v := undef) rfl (by kernel_rfl) (by kernel_rfl) (by kernel_rfl) (fun _ _ _ h => h) (Or.inr ⟨by go_simp, rfl⟩) (by assumption) ?rs13b
        simp only [Act.put, List.setIfInBounds_toArray, List.set_cons_zero, List.set_cons_succ]
        refine wpAnyH_take (i := 14) (oi := { dst := some 214, op := Go.Op.binOp Go.BinOp.eql 9 (Go.Operand.tmp 212) (Go.Operand.tmp 213) 9, type := 4, pos := "theorems.go:178", after := #[{ on := 12, ground := Go.Ground.data }, { on := 13, ground := Go.Ground.data }, { on := 7, ground := Go.Ground.guard }], guard := some (7, true) }) (v := undef) rfl (by kernel_rfl) (by kernel_rfl) (by kernel_rfl) (fun _ _ _ h => h) (Or.inr ⟨by go_simp, rfl⟩) (by assumption) ?rs14b
        simp only [Act.put, List.setIfInBounds_toArray, List.set_cons_zero, List.set_cons_succ]
        refine wpAnyH_take (i := 15) (oi := { dst := some 215, op := Go.Op.pick (Go.Operand.tmp 207) (Go.Operand.tmp 214) (Go.Operand.const (Go.Value.bool false)), type := 4, pos := "theorems.go:178", after := #[{ on := 7, ground := Go.Ground.data }, { on := 14, ground := Go.Ground.data }], guard := none }) (v := ?vv15b) rfl (by kernel_rfl) (by kernel_rfl) (by kernel_rfl) (fun _ _ _ h => h) (Or.inl ⟨by rfl, ?hy15b⟩) (by assumption) ?rs15b
        case hy15b => intro W' hS'; obtain ⟨h1, h2, h3, h4, h5, h6⟩ := hS'; go_simp; all_goals (with_reducible rfl)
        simp only [Act.put, List.setIfInBounds_toArray, List.set_cons_zero, List.set_cons_succ]
        refine wpAnyH_done (by kernel_rfl) ?_ _
        gi_wp2
        refine ⟨(KeepsOthers.drew _).from _, fun k o _ h1 => h1, ?_⟩
        unfold PI
        rw [HGO.out, e1', Bool.false_and, if_neg (by decide)]
        exact ⟨BRb.out, HBb.out.drew, hsz, v, BWb.out, HRow.out, trivial⟩
end Go.Proofs.YtkebableanenkaaDoor.Pw
