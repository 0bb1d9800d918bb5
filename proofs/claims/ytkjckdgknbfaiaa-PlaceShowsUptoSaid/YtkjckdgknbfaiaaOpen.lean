/- How an argument that reads as data is opened for the printed contracts: cells that read as data of a type are cells of that type's kind, and what they hold is no more than the reading's bulk. Conditions: as each theorem states. -/
import Derived.Test.YtkjckdgknbfaiaaRows
import Derived.Test.YtkjckdgknbfaiaaWMore
import Derived.Below
import Derived.WalkKit
import Derived.ProofKit
import Derived.OpenShut
import Derived.ShutString
import Derived.ChangeOld
import Derived.JoinedCond
import Derived.Carry
namespace Go.Proofs.Ytkjckdgknbfaiaa.Open
open Go.RowKit Go.Proofs.YtkjckdgknbfaiaaW.PrintWords Go.Proofs.YtkjckdgknbfaiaaW.PrintLast Go.Proofs.YtkjckdgknbfaiaaW.PrintMore

def Opens {α : Type} (P : Program) (d : Kd α) (m : α → Nat) (Q : α → Prop) (t : TypeId) : Prop :=
  ∀ {H : Type} (enc : TypeId × Value → H) (W : World) (fuel : Nat) (cs : List Value) (D : DataW H) (ps : List MemPlace),
    DataW.trod enc P W 0 (fun _ => true) true fuel t cs = some (D, ps) → ∃ x, d.K W x cs ∧ m x ≤ Rows.uptoBulk D ∧ Q x

theorem opens_bool {P : Program} {t : TypeId} (hu : P.underlying t = some .bool) : Opens P Kd.bool (fun _ => 1) (fun _ => True) t := by
  intro H enc W fuel cs D ps h
  cases fuel with
  | zero => simp [DataW.trod] at h
  | succ n =>
    unfold DataW.trod at h
    rw [hu] at h
    split at h
    all_goals first
      | (obtain ⟨rfl, rfl⟩ := Prod.mk.inj (Option.some.inj h); exact ⟨_, rfl, by simp [Rows.uptoBulk], trivial⟩)
      | simp_all
theorem opens_int {P : Program} {t : TypeId} {k : IntKind} (hu : P.underlying t = some (.int k)) : Opens P (Kd.int k) (fun _ => 1) (fun x => (Lit.int k x).wf = true) t := by
  intro H enc W fuel cs D ps h
  cases fuel with
  | zero => simp [DataW.trod] at h
  | succ n =>
    unfold DataW.trod at h
    rw [hu] at h
    split at h
    any_goals (simp_all; done)
    · rename_i k0 k' x e1
      obtain rfl : k = k0 := by injection (Option.some.inj e1)
      split at h
      · rename_i hc
        obtain ⟨rfl, hw⟩ := hc
        obtain ⟨rfl, rfl⟩ := Prod.mk.inj (Option.some.inj h)
        exact ⟨_, rfl, by simp [Rows.uptoBulk], hw⟩
      · cases h
theorem opens_string {P : Program} {t : TypeId} (hu : P.underlying t = some .string) : Opens P Kd.string (fun s => s.size + 1) (fun _ => True) t := by
  intro H enc W fuel cs D ps h
  cases fuel with
  | zero => simp [DataW.trod] at h
  | succ n =>
    unfold DataW.trod at h
    rw [hu] at h
    split at h
    any_goals (simp_all; done)
    · split at h
      · obtain ⟨rfl, rfl⟩ := Prod.mk.inj (Option.some.inj h)
        exact ⟨_, rfl, by simp only [Rows.uptoBulk, data_length]; omega, trivial⟩
      · cases h
theorem sum_elems {α : Type} {P : Program} {d : Kd α} {m : α → Nat} {Q : α → Prop} {e : TypeId} (ho : Opens P d m Q e) {H : Type} (enc : TypeId × Value → H) (W : World) (fuel : Nat) (g : Nat → Option (List Value)) :
    ∀ (l : List Nat) (ys : List (DataW H × List MemPlace)), (l.mapM fun i => (g i).bind (DataW.trod enc P W 0 (fun _ => true) true fuel e)) = some ys →
      ∃ xs : List α, xs.length = l.length ∧ (∀ (j : Nat) p, xs[j]? = some p → ∃ i c, l[j]? = some i ∧ g i = some c ∧ d.K W p c) ∧ (xs.map m).sum ≤ Rows.uptoBulkAll (ys.map (·.1)) ∧ ∀ x ∈ xs, Q x
  | [], ys, h => by
    simp only [List.mapM_nil] at h
    obtain rfl : [] = ys := Option.some.inj h
    exact ⟨[], rfl, fun j p hp => by simp at hp, by simp, fun x hx => by simp at hx⟩
  | i :: l, ys, h => by
    rw [List.mapM_cons] at h
    cases hg : g i with
    | none => simp [hg] at h
    | some c =>
      cases hd : DataW.trod enc P W 0 (fun _ => true) true fuel e c with
      | none => simp [hg, hd] at h
      | some y =>
        cases hl : (l.mapM fun i => (g i).bind (DataW.trod enc P W 0 (fun _ => true) true fuel e)) with
        | none => simp [hg, hd, hl] at h
        | some zs =>
          simp [hg, hd, hl] at h
          obtain rfl : y :: zs = ys := h
          obtain ⟨x, hK, hm, hQ⟩ := ho enc W fuel c y.1 y.2 hd
          obtain ⟨xs, hlen, hget, hsum, hall⟩ := sum_elems ho enc W fuel g l zs hl
          refine ⟨x :: xs, by simp [hlen], ?_, ?_, ?_⟩
          · intro j p hp
            cases j with
            | zero => simp at hp; subst hp; exact ⟨i, c, rfl, hg, hK⟩
            | succ j => exact hget j p (by simpa using hp)
          · simp only [List.map_cons, List.sum_cons, Rows.uptoBulkAll]
            omega
          · intro z hz
            rcases List.mem_cons.1 hz with rfl | hz
            · exact hQ
            · exact hall z hz
theorem opens_slice {α : Type} {P : Program} {d : Kd α} {m : α → Nat} {Q : α → Prop} {t e : TypeId} (hu : P.underlying t = some (.slice e)) (hs : P.cellsOf e = d.sz) (ho : Opens P d m Q e) :
    Opens P (Kd.slice e d) (fun xs => (xs.map m).sum + 1) (fun xs => ∀ x ∈ xs, Q x) t := by
  intro H enc W fuel cs D ps h
  cases fuel with
  | zero => simp [DataW.trod] at h
  | succ n =>
    unfold DataW.trod at h
    rw [hu] at h
    split at h
    any_goals (simp_all; done)
    · obtain ⟨rfl, rfl⟩ := Prod.mk.inj (Option.some.inj h)
      exact ⟨[], ⟨none, 0, rfl, Nat.le_refl _, ⟨rfl, by simp, fun h => absurd h (by simp)⟩⟩, by simp [Rows.uptoBulk], fun x hx => by simp at hx⟩
    · rename_i e0 a len cap e1
      obtain rfl : e = e0 := by injection (Option.some.inj e1)
      dsimp only at h
      split at h
      · rename_i hc
        obtain ⟨hb, hlc, hcap⟩ := hc
        cases hl : ((List.range len).mapM fun i => (W.cells? 0 (a.add (i * P.cellsOf e)) (P.cellsOf e)).bind (DataW.trod enc P W 0 (fun _ => true) true n e)) with
        | none => rw [hl] at h; cases h
        | some ys =>
          rw [hl, Option.bind_some] at h
          simp only [if_true] at h
          cases hr : ((List.range (cap - len)).mapM fun j => (W.cells? 0 (a.add ((len + j) * P.cellsOf e)) (P.cellsOf e)).bind (DataW.trod enc P W 0 (fun _ => true) true n e)) with
          | none => rw [hr] at h; cases h
          | some zs =>
            rw [hr, Option.map_some] at h
            obtain ⟨rfl, rfl⟩ := Prod.mk.inj (Option.some.inj h)
            obtain ⟨xs, hlen, hget, hsum, hall⟩ := sum_elems ho enc W n (fun i => W.cells? 0 (a.add (i * P.cellsOf e)) (P.cellsOf e)) (List.range len) ys hl
            rw [List.length_range] at hlen
            refine ⟨xs, ⟨some a, cap, by rw [hlen], by rw [hlen]; exact hlc, ⟨rfl, by unfold maxLen at hcap; omega, fun _ => ⟨a, rfl, fun j p hj => ?_⟩⟩⟩, ?_, hall⟩
            · obtain ⟨i, c, hi, hcell, hK⟩ := hget j p hj
              have hji : i = j := by
                have := (List.getElem?_eq_some_iff.1 hi).2
                simpa using this.symm
              subst hji
              obtain ⟨_, hcl, hcc⟩ := World.cells?_some hcell
              refine ⟨c, by rw [hcl, hs], hK, fun q u hu => ?_⟩
              have hq : q < P.cellsOf e := by rw [← hcl]; exact (List.getElem?_eq_some_iff.1 hu).1
              rw [← hs, ← Addr.add_add, hcc q hq, hu]
            · simp only [Rows.uptoBulk]
              omega
      · cases h
/-- Fields in line, from an offset on. -/
def OpensF {α : Type} (P : Program) (d : Kd α) (m : α → Nat) (Q : α → Prop) (fs : List Field) (o : Nat) : Prop :=
  ∀ {H : Type} (enc : TypeId × Value → H) (W : World) (fuel : Nat) (cs : List Value) (Ds : List (DataW H × List MemPlace)),
    (fs.mapM fun f => DataW.trod enc P W 0 (fun _ => true) true fuel f.type ((cs.drop f.offset).take (P.cellsOf f.type))) = some Ds → cs.length = o + d.sz →
      ∃ x, d.K W x (cs.drop o) ∧ m x ≤ Rows.uptoBulkAll (Ds.map (·.1)) ∧ Q x
theorem opensF_one {α : Type} {P : Program} {d : Kd α} {m : α → Nat} {Q : α → Prop} {f : Field} (o : Nat) (ho : f.offset = o) (hs : P.cellsOf f.type = d.sz) (h : Opens P d m Q f.type) : OpensF P d m Q [f] o := by
  intro H enc W fuel cs Ds hm hl
  rw [List.mapM_cons, List.mapM_nil] at hm
  cases hd : DataW.trod enc P W 0 (fun _ => true) true fuel f.type ((cs.drop f.offset).take (P.cellsOf f.type)) with
  | none => simp [hd] at hm
  | some y =>
    simp [hd] at hm
    obtain rfl : [y] = Ds := hm
    rw [ho, hs, List.take_of_length_le (by rw [List.length_drop]; omega)] at hd
    obtain ⟨x, hK, hmx, hQ⟩ := h enc W fuel _ y.1 y.2 hd
    exact ⟨x, hK, by simp only [List.map_cons, List.map_nil, Rows.uptoBulkAll]; omega, hQ⟩
theorem opensF_cons {α β : Type} {P : Program} {a : Kd α} {b : Kd β} {m1 : α → Nat} {m2 : β → Nat} {Q1 : α → Prop} {Q2 : β → Prop} {f : Field} {fs : List Field} (o : Nat) (ho : f.offset = o) (hs : P.cellsOf f.type = a.sz)
    (h1 : Opens P a m1 Q1 f.type) (h2 : OpensF P b m2 Q2 fs (o + a.sz)) : OpensF P (Kd.pair a b) (fun x => m1 x.1 + m2 x.2) (fun x => Q1 x.1 ∧ Q2 x.2) (f :: fs) o := by
  intro H enc W fuel cs Ds hm hl
  have hl2 : cs.length = o + (a.sz + b.sz) := hl
  rw [List.mapM_cons] at hm
  cases hd : DataW.trod enc P W 0 (fun _ => true) true fuel f.type ((cs.drop f.offset).take (P.cellsOf f.type)) with
  | none => simp [hd] at hm
  | some y =>
    cases hr : (fs.mapM fun f => DataW.trod enc P W 0 (fun _ => true) true fuel f.type ((cs.drop f.offset).take (P.cellsOf f.type))) with
    | none => simp [hd, hr] at hm
    | some zs =>
      simp [hd, hr] at hm
      obtain rfl : y :: zs = Ds := hm
      rw [ho, hs] at hd
      obtain ⟨x1, hK1, hm1, hQ1⟩ := h1 enc W fuel _ y.1 y.2 hd
      obtain ⟨x2, hK2, hm2, hQ2⟩ := h2 enc W fuel cs zs hr (by omega)
      refine ⟨(x1, x2), ⟨_, _, ?_, hK1, hK2⟩, ?_, hQ1, hQ2⟩
      · rw [← List.drop_drop, List.take_append_drop]
      · simp only [List.map_cons, Rows.uptoBulkAll]
        omega
theorem opens_struct {α β : Type} {P : Program} {d : Kd α} {m : α → Nat} {Q : α → Prop} {fs : Array Field} {t : TypeId} {f : β → α} (g : α → β) (hg : ∀ y, f (g y) = y) (hu : P.underlying t = some (.struct fs)) (hs : P.cellsOf t = d.sz)
    (h : OpensF P d m Q fs.toList 0) : Opens P (Kd.iso d f) (fun x => m (f x) + 1) (fun x => Q (f x)) t := by
  intro H enc W fuel cs D ps hd
  cases fuel with
  | zero => simp [DataW.trod] at hd
  | succ n =>
    unfold DataW.trod at hd
    rw [hu] at hd
    split at hd
    any_goals (simp_all; done)
    · rename_i cs _ _ fs0 e1
      obtain rfl : fs = fs0 := by injection (Option.some.inj e1)
      split at hd
      · rename_i hc
        cases hr : (fs.toList.mapM fun f => DataW.trod enc P W 0 (fun _ => true) true n f.type ((cs.drop f.offset).take (P.cellsOf f.type))) with
        | none => rw [hr] at hd; cases hd
        | some zs =>
          rw [hr, Option.map_some] at hd
          obtain ⟨rfl, rfl⟩ := Prod.mk.inj (Option.some.inj hd)
          obtain ⟨x, hK, hm, hQ⟩ := h enc W n cs zs hr (by omega)
          refine ⟨g x, ?_, ?_, ?_⟩
          · show d.K W (f (g x)) cs
            rw [hg]
            simpa using hK
          · show m (f (g x)) + 1 ≤ _
            rw [hg]
            simp only [Rows.uptoBulk]
            omega
          · show Q (f (g x))
            rw [hg]; exact hQ
      · cases hd
/-- An argument. -/
theorem open_arg {α : Type} {P : Program} {d : Kd α} {m : α → Nat} {Q : α → Prop} {t : TypeId} (ho : Opens P d m Q t) {H : Type} {enc : TypeId × Value → H} {W : World} {v : Value} {D : DataW H} {ps : List MemPlace}
    (h : DataW.Trod enc P W 0 (fun _ => true) true t v D ps) : ∃ x, d.K W x v.cells.toList ∧ m x ≤ Rows.uptoBulk D ∧ Q x := by
  obtain ⟨fuel, h⟩ := h
  exact ho enc W fuel _ D ps h
theorem bound {H : Type} {l : List (DataW H)} (hk : Rows.uptoSmall H l = true) : Rows.uptoBulkAll l ≤ 1048576 := of_decide_eq_true hk
end Go.Proofs.Ytkjckdgknbfaiaa.Open
