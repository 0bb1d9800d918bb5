/- Lists that share no memory: what stays when one of them is written, or grown by append. In terms of memory alone, with no function of the program in sight. -/
import Derived.Test.YtkebableanenkaaDoorQallx0
namespace Go.Proofs.YtkebableanenkaaDoor.Free
open Go.RowKit Go.Proofs.YtkebableanenkaaDoorW.PrintWords Go.Proofs.YtkebableanenkaaDoorW.PrintLast Go.Proofs.YtkebableanenkaaDoorW.PrintMore
set_option linter.unusedSimpArgs false
set_option linter.unusedVariables false
/-- append onto a row of one's own: in its place (the same block, the same capacity), or in a new block, and then nothing that was there has changed. -/
theorem run_append_sh {P : Program} (w : World) (base : Nat) (t ty e : TypeId) (i : TypeInfo) (z : Value) (size bytes : Nat) (ht : P.underlying t = some (.slice e)) (hi : P.info? e = some i) (hz : i.zero = some z)
    (hsize : i.size = size) (hby : i.bytes = bytes) (hzs : z.cells.size = size) (hsz : 0 < size)
    (v : Value) (n : Nat) (xs : List Value) (hown : w.ownsRow base e size v n xs)
    (a : Addr) (m c : Nat) (news : List Value) (hl : news.length = m * size) (hnews : ∀ j u, news[j]? = some u → w.cell? (a.add j) = some u) (h1 : ∀ u ∈ news, u.oneCell' = true)
    (h63 : n + m ≤ maxLen) (hbytes : (n + m) * bytes ≤ 140737488355328) (hbase : base ≤ w.heap.size) (hm : 0 < m) :
    ∃ v' w', (Builtin.append_ #[t, t] ty #[v, .slice (some a) m c]).run P w = .ok v' w' ∧ w'.ownsRow base e size v' (n + m) (xs ++ news) ∧
      ((v'.ownBlock = some w.heap.size ∧ w.grownBy w' none) ∨ (v'.ownBlock = v.ownBlock ∧ w.grownBy w' v.ownBlock)) := by
  obtain ⟨v', w', hr, ho, hg, _, hat⟩ := run_append_own_at (P := P) w base t ty e i z size bytes ht hi hz hsize hby hzs hsz v n xs hown a m c news hl hnews h1 h63 hbytes hbase
  refine ⟨v', w', hr, ho, ?_⟩
  rcases hat with hat | hat
  · exact .inr ⟨hat, hg⟩
  · refine .inl ⟨hat, ?_⟩
    rcases hown.2 with ⟨rfl, _⟩ | ⟨g, cap, cur, rfl, _, hgb, hnc, hcm, hcs, htake⟩
    · exact hg
    · by_cases hroom : n + m ≤ cap
      · have hr2 := run_append_room (P := P) w t ty e i ht hi g n cap cur hgb a m c news (by rw [hsize]; exact hl) hnews h1 hroom (by rw [hl, hcs, hsize, ← Nat.add_mul]; exact Nat.mul_le_mul_right _ hroom)
        rw [hr] at hr2
        injection hr2 with e1 e2
        rw [e1] at hat
        have hlt := (Array.getElem?_eq_some_iff.1 hgb).1
        simp only [Value.ownBlock, Option.some.injEq] at hat
        omega
      · have hsm : n + m ≤ 9223372036854775807 := by simp only [maxLen] at h63; omega
        have hr2 := run_append_grow (P := P) w t ty e i z ht hi hz ⟨g, 0, none⟩ n cap xs (by rw [hsize]; exact hown.1) (hown.cells (g := g) rfl) a m c news (by rw [hsize]; exact hl) hnews (by omega) (by omega) (growslice_fits (by omega) (by rw [hby]; exact hbytes))
        rw [hr] at hr2
        injection hr2 with e1 e2
        rw [e2]
        exact ⟨rfl, rfl, rfl, by simp, fun k hk _ => heap_alloc_old w.drew _ hk⟩
section
variable {α : Type} {d : Kd α} {e base : Nat}
/-- No block of one lies in another's. -/
def Apart (m : Nat) (us vs : Nat → Value) : Prop := ∀ i j, i < m → j < m → i ≠ j → ∀ k, (us i).ownBlock = some k → (vs j).ownBlock ≠ some k
def upd {β : Type} (f : Nat → β) (i : Nat) (x : β) : Nat → β := fun j => if j = i then x else f j
theorem upd_same {β : Type} (f : Nat → β) (i : Nat) (x : β) : upd f i x i = x := by simp [upd]
theorem upd_other {β : Type} (f : Nat → β) (i j : Nat) (x : β) (h : j ≠ i) : upd f i x j = f j := by simp [upd, h]
theorem rows_put (hE : d.E = []) {m : Nat} {vs : Nat → Value} {ys : Nat → List α} {W w1 : World} {i : Nat} {y : List α} (h : ∀ j, j < m → d.R e W base (fun _ => True) (vs j) (ys j)) (ha : Apart m vs vs) (hi : i < m)
    (hg : W.grownBy w1 (vs i).ownBlock) (hr : d.R e w1 base (fun _ => True) (vs i) y) : ∀ j, j < m → d.R e w1 base (fun _ => True) (vs j) (upd ys i y j) := fun j hj => by
  by_cases hji : j = i
  · subst hji; rw [upd_same]; exact hr
  · rw [upd_other _ _ _ _ hji]
    exact Kd.R_grown2 (h j hj) hE hg (fun k hk he => ha i j hi hj (fun e => hji e.symm) k hk he.symm)
/-- What is read through a value whose list may have grown since. -/
def Rd (d : Kd α) (W : World) (v : Value) (xs : List α) : Prop :=
  (v = .slice none 0 0 ∧ xs = []) ∨ ∃ g c, v = .slice (some ⟨g, 0, none⟩) xs.length c ∧ Kd.F d W (fun k => some k = v.ownBlock) (some ⟨g, 0, none⟩) xs.length xs
theorem Rd.of_R (hE : d.E = []) {W : World} {v : Value} {xs : List α} {ok : Nat → Prop} (h : d.R e W base ok v xs) : Rd d W v xs := by
  obtain ⟨inner, ho⟩ := Kd.R_own h
  rcases ho.2 with ⟨rfl, h0⟩ | ⟨g, cap, cur, rfl, _⟩
  · exact .inl ⟨rfl, List.eq_nil_of_length_eq_zero h0⟩
  · exact .inr ⟨g, cap, rfl, Kd.R_F (Kd.R_tight hE h)⟩
theorem Rd.C {W : World} {v : Value} {xs : List α} (h : Rd d W v xs) : ∃ A c, v = .slice A xs.length c ∧ Kd.C d W A xs.length xs := by
  rcases h with ⟨rfl, rfl⟩ | ⟨g, c, rfl, hF⟩
  · exact ⟨none, 0, rfl, Kd.C_nil d W⟩
  · exact ⟨_, c, rfl, Kd.F_now hF⟩
theorem Rd.grown {W w1 : World} {v : Value} {xs : List α} (h : Rd d W v xs) {row : Option Nat} (hg : W.grownBy w1 row) (hne : ∀ k, row = some k → v.ownBlock ≠ some k) : Rd d w1 v xs := by
  rcases h with h | ⟨g, c, hv, hF⟩
  · exact .inl h
  · exact .inr ⟨g, c, hv, Kd.F_grown hF hg (fun k hk he => hne k he.symm hk.symm)⟩
/-- One of the lists has grown. -/
theorem grow_step (hE : d.E = []) {m : Nat} {vs cur : Nat → Value} {xs ys : Nat → List α} {W w1 : World} {i : Nat} {v1 : Value} {y : List α}
    (h : ∀ j, j < m → d.R e W base (fun _ => True) (cur j) (ys j)) (hrd : ∀ j, j < m → Rd d W (vs j) (xs j)) (ha : Apart m cur cur) (hf : Apart m cur vs) (hi : i < m) (hpre : xs i <+: y)
    (hr : d.R e w1 base (fun _ => True) v1 y) (hlt : ∀ j, j < m → ∀ k, (vs j).ownBlock = some k → k < W.heap.size)
    (hc : ((∃ b, v1.ownBlock = some b ∧ W.heap.size ≤ b) ∧ W.grownBy w1 none) ∨ (v1.ownBlock = (cur i).ownBlock ∧ W.grownBy w1 (cur i).ownBlock)) :
    (∀ j, j < m → d.R e w1 base (fun _ => True) (upd cur i v1 j) (upd ys i y j)) ∧ (∀ j, j < m → Rd d w1 (vs j) (xs j)) ∧ Apart m (upd cur i v1) (upd cur i v1) ∧ Apart m (upd cur i v1) vs := by
  have hrow : ∀ j, j < m → d.R e w1 base (fun _ => True) (upd cur i v1 j) (upd ys i y j) := fun j hj => by
    by_cases hji : j = i
    · subst hji; rw [upd_same, upd_same]; exact hr
    · rw [upd_other _ _ _ _ hji, upd_other _ _ _ _ hji]
      rcases hc with ⟨_, hg⟩ | ⟨_, hg⟩
      · exact Kd.R_grown2 (h j hj) hE hg (fun k hk => by cases hk)
      · exact Kd.R_grown2 (h j hj) hE hg (fun k hk he => ha i j hi hj (fun e => hji e.symm) k hk he.symm)
  have hblk : ∀ j, j < m → j ≠ i → ∀ k, v1.ownBlock = some k → (cur j).ownBlock ≠ some k := fun j hj hji k hk he => by
    rcases hc with ⟨⟨b, hb, hle⟩, _⟩ | ⟨hv, _⟩
    · rw [hb] at hk; cases hk
      have := Kd.R_lt (h j hj) _ he
      omega
    · exact ha i j hi hj (fun e => hji e.symm) k (hv ▸ hk) he
  have hblk2 : ∀ j, j < m → j ≠ i → ∀ k, v1.ownBlock = some k → (vs j).ownBlock ≠ some k := fun j hj hji k hk he => by
    rcases hc with ⟨⟨b, hb, hle⟩, _⟩ | ⟨hv, _⟩
    · rw [hb] at hk; cases hk
      have := hlt j hj _ he
      omega
    · exact hf i j hi hj (fun e => hji e.symm) k (hv ▸ hk) he
  refine ⟨hrow, fun j hj => ?_, fun a b hA hB hab k hk he => ?_, fun a b hA hB hab k hk he => ?_⟩
  · rcases hc with ⟨_, hg⟩ | ⟨hv, hg⟩
    · exact (hrd j hj).grown hg (fun k hk => by cases hk)
    · by_cases hji : j = i
      · subst hji
        rcases hrd j hj with h0 | ⟨g, c, hvs, hF⟩
        · exact .inl h0
        · by_cases hsame : (cur j).ownBlock = some g
          · obtain ⟨inner, ho⟩ := Kd.R_own hr
            rcases ho.2 with ⟨rfl, h0⟩ | ⟨g', cap, cu, hv1, _⟩
            · rw [← hv] at hsame; simp [Value.ownBlock] at hsame
            · rw [hv1] at hv hr
              rw [hsame] at hv
              obtain rfl : g' = g := by simpa [Value.ownBlock] using hv
              have hle := hpre.length_le
              have ht := Kd.R_take (m := (xs j).length) hr hle
              have e2 : y.take (xs j).length = xs j := (List.prefix_iff_eq_take.1 hpre).symm
              rw [e2] at ht
              refine .inr ⟨g', c, hvs, ?_⟩
              have hF2 := Kd.R_F (Kd.R_tight hE ht)
              exact Kd.F_mono hF2 (fun k hk => by rw [hvs]; exact hk)
          · refine .inr ⟨g, c, hvs, Kd.F_grown hF hg (fun k hk he => hsame ?_)⟩
            rw [hvs] at hk
            have hk2 : k = g := by simpa [Value.ownBlock] using hk
            rw [← he, hk2]
      · exact (hrd j hj).grown hg (fun k hk he => hf i j hi hj (fun e => hji e.symm) k hk he)
  · by_cases h1 : a = i
    · subst h1
      rw [upd_same] at hk
      rw [upd_other _ _ _ _ (fun e => hab e.symm)] at he
      exact hblk b hB (fun e => hab e.symm) k hk he
    · rw [upd_other _ _ _ _ h1] at hk
      by_cases h2 : b = i
      · subst h2
        rw [upd_same] at he
        exact hblk a hA h1 k he hk
      · rw [upd_other _ _ _ _ h2] at he
        exact ha a b hA hB hab k hk he
  · by_cases h1 : a = i
    · subst h1
      rw [upd_same] at hk
      exact hblk2 b hB (fun e => hab e.symm) k hk he
    · rw [upd_other _ _ _ _ h1] at hk
      exact hf a b hA hB hab k hk he
theorem grown_row {W w1 : World} (h : W.grownBy w1 none) (row : Option Nat) : W.grownBy w1 row := ⟨h.os, h.tape, h.output, h.size, fun k hk _ => h.block k hk (by simp)⟩
/-- One more element behind a row of one's own, at the operation. -/
theorem wpList_append_sh {P : Program} {ops : Array Oper} {rest : List Oper} {o : Oper} {a : Act} {Q : Exit → Act → World → Prop} (d : Kd α) {w0 W : World} (base : Nat) (hgd : o.guard = none) (s x : Operand) (t e : TypeId) (z : Value) (bytes : Nat)
    (ho : o.op = .call { callee := .builtin .append, args := #[s, x], argTypes := #[t, t] })
    (ht : P.underlying t = some (.slice e)) (hinfo : (P.info? e).map (fun i => (i.zero, i.size, i.bytes)) = some (some z, d.sz, bytes)) (hz : z.cells.size = d.sz) (hs0 : 0 < d.sz) (hb0 : 0 < bytes)
    (v : Value) (xs : List α) (p : α) (cs : List Value) (hs : a.eval s = v) (hx : a.eval x = .slice (some ⟨W.heap.size, 0, none⟩) 1 1) (hp : d.M W base (fun _ => False) p cs)
    (HO : d.R e W base (fun _ => True) v xs) (HB : Below base w0 W) (hbase : base ≤ W.heap.size) (hl : (xs.length + 1) * bytes ≤ 140737488355328)
    (h : ∀ v1 w1, d.R e w1 base (fun _ => True) v1 (xs ++ [p]) → Below base w0 w1 → (((∃ b, v1.ownBlock = some b ∧ W.heap.size ≤ b) ∧ W.grownBy w1 none) ∨ (v1.ownBlock = v.ownBlock ∧ W.grownBy w1 v.ownBlock)) → wpList P ops Q rest (a.put o.dst v1) w1) :
    wpList P ops Q (o :: rest) a (W.alloc (.cells cs.toArray e)) := by
  obtain ⟨h0, inner, hown, hr⟩ := HO
  obtain ⟨i0, hi, hzz⟩ := Option.map_eq_some_iff.1 hinfo
  simp only [Prod.mk.injEq] at hzz
  obtain ⟨hz0, hz1, hz2⟩ := hzz
  have hlen : xs.length + 1 ≤ 140737488355328 := Nat.le_trans (Nat.le_mul_of_pos_right _ hb0) hl
  obtain ⟨v1, w1, hrun, ho1, hc⟩ := run_append_sh (P := P) (W.alloc (.cells cs.toArray e)) base t o.type e i0 z d.sz bytes ht hi hz0 hz1 hz2 hz hs0 v xs.length inner (hown.alloc _) ⟨W.heap.size, 0, none⟩ 1 1 cs
    (by rw [d.K_len (d.K_of_M hp)]; simp) (by simpa using World.news_of_block (cs := cs.toArray) (t := e) (fr := (0, 0)) (heap_alloc_new W (.cells cs.toArray e))) (d.K_one (d.K_of_M hp)) (by simp only [maxLen]; omega) hl (by simp; omega) (by decide)
  have hc2 : ((∃ b, v1.ownBlock = some b ∧ W.heap.size ≤ b) ∧ W.grownBy w1 none) ∨ (v1.ownBlock = v.ownBlock ∧ W.grownBy w1 v.ownBlock) := by
    rcases hc with ⟨h1, h2⟩ | ⟨h1, h2⟩
    · exact .inl ⟨⟨_, h1, by simp⟩, World.grownBy.trans (World.grownBy_alloc W _ _) h2⟩
    · exact .inr ⟨h1, World.grownBy.trans (World.grownBy_alloc W _ _) h2⟩
  have hg : W.grownBy w1 v.ownBlock := by
    rcases hc2 with ⟨_, h2⟩ | ⟨_, h2⟩
    · exact grown_row h2 _
    · exact h2
  have hat : v1.ownBlock = v.ownBlock ∨ ∃ b, v1.ownBlock = some b ∧ W.heap.size ≤ b := by
    rcases hc2 with ⟨h2, _⟩ | ⟨h2, _⟩
    · exact .inr h2
    · exact .inl h2
  refine wpList_plain hgd fun K hK => ?_
  unfold Oper.wp execOp
  simp only [ho, resolve, invoke, builtin, Sem.run_bind, Sem.run_pure, Result.andThen_ok, List.map_toArray, List.map_cons, List.map_nil, hs, hx, hrun]
  exact hK _ _ (h v1 w1 (Kd.R_appended h0 hr hp (fun _ hk => hk.elim) (fun _ _ => trivial) ho1 hg hat) (HB.grown hg hbase (own_base hown)) hc2)
end
end Go.Proofs.YtkebableanenkaaDoor.Free
