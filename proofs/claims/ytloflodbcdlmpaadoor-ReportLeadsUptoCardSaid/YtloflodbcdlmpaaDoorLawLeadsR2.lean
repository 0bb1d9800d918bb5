/- The walk of the law ReportLeads: it answers true, and what lay ahead of the call lies as it lay. Conditions: texts of at most 2^20 bytes; what forest.Parse and strconv.Itoa ask. -/
import Derived.Test.YtloflodbcdlmpaaDoorLeadA2
import Derived.Test.YtloflodbcdlmpaaDoorLeadB2
import Derived.Test.YtloflodbcdlmpaaDoorNte2
import Derived.Test.YtloflodbcdlmpaaDoorPlain2
import Derived.StillTailTactics
import Derived.Deep.QuietTactic
import Derived.BigQuiet
import Derived.Outline
namespace Go.Proofs.YtloflodbcdlmpaaDoor.Ld
open Go.RowKit Go.Proofs.YtloflodbcdlmpaaDoor.Qall Go.Proofs.YtloflodbcdlmpaaDoorW.PrintWords Go.Proofs.YtloflodbcdlmpaaDoorW.PrintLast Go.Proofs.YtloflodbcdlmpaaDoorW.PrintMore
set_option linter.unusedSimpArgs false
set_option linter.unusedVariables false
abbrev D (n : Nat) : List UInt8 := Lib.decDigits n
def lnOf (s : ByteArray) (a : Nat) : Nat := Pl.cnt s.data.toList a + 1
def colOf (s : ByteArray) (a : Nat) : Nat := a - Pl.ls s.data.toList a + 1
def err : List UInt8 := [32, 101, 114, 114, 111, 114, 32]
/-- A notice behind the file's name. -/
def restL (s : ByteArray) (a : Nat) (cd : List UInt8) : List UInt8 := 58 :: (D (lnOf s a) ++ 58 :: (D (colOf s a) ++ 58 :: (err ++ (cd ++ 10 :: (Pl.excAns s (a : Int) 72).1.data.toList))))
theorem itoa_some (n : Int) (h0 : -9223372036854775808 ≤ n) (h1 : n ≤ 9223372036854775807) : strconv_Itoa.f n = some ⟨(Lib.itoa n).toArray⟩ := by
  unfold strconv_Itoa.f
  rw [if_pos ⟨h0, h1⟩]
theorem mk_size (l : List UInt8) : (⟨l.toArray⟩ : ByteArray).size = l.length := by show l.toArray.size = _; simp
theorem cnt_len (s : ByteArray) (a : Nat) : Pl.cnt s.data.toList a ≤ a := by
  unfold Pl.cnt
  exact Nat.le_trans List.count_le_length (by rw [List.length_take]; omega)
theorem notice_ev (file text : ByteArray) (hf : file.size ≤ 1048576) (ht : text.size ≤ 1048576) (at_ code : Int) (h0 : -9223372036854775808 ≤ code) (h1 : code ≤ 9223372036854775807) :
    ∃ s er, report_Notice.f 1 file text at_ code = some (s, er) ∧ ((at_ < 0 ∨ (text.size : Int) < at_) → er = 5 ∧ s = ⟨#[]⟩) ∧
      (∀ a : Nat, at_ = (a : Int) → a ≤ text.size → (er = 2 ∧ s = ⟨#[]⟩) ∨ (er = 0 ∧ ∃ cd : List UInt8, cd.length ≤ 21 ∧ s.data.toList = file.data.toList ++ restL text a cd)) := by
  unfold report_Notice.f
  rw [Pl.spot_eq text (by omega) at_ 1 (by omega), Option.bind_some]
  by_cases hr : at_ < 0 ∨ (text.size : Int) < at_
  · have e : Pl.spotAns text at_ = (0, 0, 0, 5) := by unfold Pl.spotAns; rw [if_pos hr]
    rw [e, if_neg (by decide)]
    exact ⟨_, _, rfl, fun _ => ⟨rfl, rfl⟩, fun a ha hle => by omega⟩
  · obtain ⟨a, rfl⟩ : ∃ a : Nat, at_ = (a : Int) := ⟨at_.toNat, by omega⟩
    have hle : a ≤ text.size := by omega
    have hls := Pl.ls_le text.data.toList a
    have hcn := cnt_len text a
    have e : (Pl.spotAns text (a : Int)).1 = ((lnOf text a : Nat) : Int) ∧ (Pl.spotAns text (a : Int)).2.1 = ((colOf text a : Nat) : Int) ∧ (Pl.spotAns text (a : Int)).2.2.2 = 0 := by
      unfold Pl.spotAns lnOf colOf
      rw [if_neg hr, Int.toNat_natCast]
      refine ⟨?_, ?_, rfl⟩
      · dsimp only; omega
      · dsimp only; omega
    have x2 : (Pl.excAns text (a : Int) 72).2 = 0 := by
      unfold Pl.excAns
      rw [if_neg (by omega)]
    have xs := Pl.excAns_le text (a : Int) 72
    obtain ⟨x, hx⟩ : ∃ x, (Pl.excAns text (a : Int) 72).1 = x := ⟨_, rfl⟩
    rw [if_pos e.2.2, Pl.exc_eq text (by omega), Option.bind_some, if_pos x2, e.1, e.2.1, hx]
    rw [hx] at xs
    have l1 := Lib.itoa_length_le ((lnOf text a : Nat) : Int) (by omega) (by unfold lnOf; omega)
    have l2 := Lib.itoa_length_le ((colOf text a : Nat) : Int) (by omega) (by unfold colOf; omega)
    have l3 := Lib.itoa_length_le code h0 h1
    have c1 := itoa_some ((lnOf text a : Nat) : Int) (by omega) (by unfold lnOf; omega)
    have c2 := itoa_some ((colOf text a : Nat) : Int) (by omega) (by unfold colOf; omega)
    have c3 := itoa_some code h0 h1
    have d1 : (Lib.itoa ((lnOf text a : Nat) : Int)) = D (lnOf text a) := Lib.itoa_nonneg _
    have d2 : (Lib.itoa ((colOf text a : Nat) : Int)) = D (colOf text a) := Lib.itoa_nonneg _
    obtain ⟨t1, ht1⟩ : ∃ t : ByteArray, (⟨(Lib.itoa ((lnOf text a : Nat) : Int)).toArray⟩ : ByteArray) = t := ⟨_, rfl⟩
    obtain ⟨t2, ht2⟩ : ∃ t : ByteArray, (⟨(Lib.itoa ((colOf text a : Nat) : Int)).toArray⟩ : ByteArray) = t := ⟨_, rfl⟩
    obtain ⟨t3, ht3⟩ : ∃ t : ByteArray, (⟨(Lib.itoa code).toArray⟩ : ByteArray) = t := ⟨_, rfl⟩
    have s1 : t1.size ≤ 21 := by rw [← ht1, mk_size]; exact l1
    have s2 : t2.size ≤ 21 := by rw [← ht2, mk_size]; exact l2
    have s3 : t3.size ≤ 21 := by rw [← ht3, mk_size]; exact l3
    have z1 : (⟨#[58]⟩ : ByteArray).size = 1 := rfl
    have z2 : (⟨#[58, 32, 101, 114, 114, 111, 114, 32]⟩ : ByteArray).size = 8 := rfl
    have z3 : (⟨#[10]⟩ : ByteArray).size = 1 := rfl
    rw [ht1] at c1
    rw [ht2] at c2
    rw [ht3] at c3
    rw [if_neg (by omega), if_pos (by omega), c1, Option.bind_some, if_pos (by rw [ByteArray.size_append]; omega), if_pos (by rw [ByteArray.size_append, ByteArray.size_append]; omega), c2, Option.bind_some,
      if_pos (by simp only [ByteArray.size_append]; omega), if_pos (by simp only [ByteArray.size_append]; omega), c3, Option.bind_some,
      if_pos (by simp only [ByteArray.size_append]; omega), if_pos (by simp only [ByteArray.size_append]; omega), if_pos (by simp only [ByteArray.size_append]; omega)]
    split
    · exact ⟨_, _, rfl, fun h => absurd h hr, fun b hb hbl => .inl ⟨rfl, rfl⟩⟩
    · refine ⟨_, _, rfl, fun h => absurd h hr, fun b hb hbl => .inr ⟨rfl, Lib.itoa code, l3, ?_⟩⟩
      obtain rfl : b = a := by omega
      unfold restL
      rw [hx, ← d1, ← d2]
      simp only [ByteArray.data_append, Array.toList_append, ← ht1, ← ht2, ← ht3]
      simp [err]
/- The digits, read one by one. -/
theorem val_app : ∀ (l m : List UInt8) (n : Nat), Ln.val (l ++ m) n = Ln.val m (Ln.val l n)
  | [], m, n => rfl
  | b :: l, m, n => by rw [List.cons_append, Ln.val, Ln.val, val_app l m]
theorem val_take (Dg : List UInt8) (j : Nat) (h : j < Dg.length) : Ln.val (Dg.take (j + 1)) 0 = 10 * Ln.val (Dg.take j) 0 + (Dg[j].toNat - 48) := by
  rw [List.take_succ_eq_append_getElem h, Bk.val_snoc]
theorem val_take_le (Dg : List UInt8) (j : Nat) : Ln.val (Dg.take j) 0 ≤ Ln.val Dg 0 := by
  conv => rhs; rw [← List.take_append_drop j Dg]
  rw [val_app]
  exact Ln.val_le _ _
theorem D_val (n : Nat) : Ln.val (D n) 0 = n := Bk.dd_val n n (Nat.le_refl _)
theorem D_dig (n : Nat) : ∀ b ∈ D n, 48 ≤ b.toNat ∧ b.toNat ≤ 57 := fun b hb => of_decide_eq_true (Bk.dd_dig n n (Nat.le_refl _) b hb)
theorem D_len (n : Nat) (h : n ≤ 1048577) : 1 ≤ (D n).length ∧ (D n).length ≤ 7 := by
  refine ⟨?_, Pl.dec_len 7 n (by omega) (by omega)⟩
  have := Bk.dd_ne n
  rcases hl : D n with _ | ⟨x, l⟩
  · exact absurd hl this
  · simp
theorem at_back (s : ByteArray) (hs : s.size ≤ 1048576) (a : Nat) (ha : a ≤ s.size) : place_At.f (s.size + 1) s ((lnOf s a : Nat) : Int) ((colOf s a : Nat) : Int) = some ((a : Int), 0) := by
  have hls := Pl.ls_le s.data.toList a
  have hcn := cnt_len s a
  rw [Pl.at_eq s (by omega) _ _ (by unfold lnOf; omega) (by unfold colOf; omega) (s.size + 1) (by omega)]
  have h := Pl.at_spot s a ha
  have e1 : ((lnOf s a : Nat) : Int) = (Pl.cnt s.data.toList a : Int) + 1 := by unfold lnOf; omega
  have e2 : ((colOf s a : Nat) : Int) = (a : Int) - Pl.ls s.data.toList a + 1 := by unfold colOf; omega
  rw [e1, e2, h]
end Go.Proofs.YtloflodbcdlmpaaDoor.Ld
namespace Go.Proofs.YtloflodbcdlmpaaDoor.LawLd
open Go.RowKit Go.Proofs.YtloflodbcdlmpaaDoor.Qall Go.Proofs.YtloflodbcdlmpaaDoor.Ld Go.Proofs.YtloflodbcdlmpaaDoorW.PrintWords Go.Proofs.YtloflodbcdlmpaaDoorW.PrintLast Go.Proofs.YtloflodbcdlmpaaDoorW.PrintMore
set_option linter.unusedSimpArgs false
set_option linter.unusedVariables false
theorem tl_of {a b : ByteArray} (h : a.data.toList = b.data.toList) : (a.toList == b.toList) = true ∧ (a.toList != b.toList) = false := by
  rw [Lib.toList_data, Lib.toList_data, h]
  simp
/-- At the head of the round i: the place, the round, the numbers so far. -/
def Sta (la lb n0 n1 : Nat) : Nat → Value → Value → Option Obj → Prop
  | 0, v, u, o => ∃ p : Nat, v = .int .i64 (p : Int) ∧ p = 0 ∧ u = .int .i64 0 ∧ o = some (.cells #[.int .i64 0, .int .i64 0] 52 (0, 0))
  | 1, v, u, o => ∃ p : Nat, v = .int .i64 (p : Int) ∧ p = 1 + la ∧ u = .int .i64 1 ∧ o = some (.cells #[.int .i64 (n0 : Int), .int .i64 0] 52 (0, 0))
  | _, v, u, o => ∃ p : Nat, v = .int .i64 (p : Int) ∧ p = 2 + la + lb ∧ u = .int .i64 2 ∧ o = some (.cells #[.int .i64 (n0 : Int), .int .i64 (n1 : Int)] 52 (0, 0))
theorem byte_hd (r : ByteArray) (p : Nat) (h : r.data.toList[p]? = some 58) : ∃ hp : p < r.size, r[p] = 58 := by
  obtain ⟨h1, h2⟩ := List.getElem?_eq_some_iff.1 h
  exact ⟨by rw [data_length] at h1; exact h1, h2⟩
theorem byte_at (r : ByteArray) (p : Nat) (Dg T : List UInt8) (h : r.data.toList.drop (p + 1) = Dg ++ 58 :: T) (j : Nat) (hj : j < Dg.length) : ∃ hp : p + 1 + j < r.size, r[p + 1 + j] = Dg[j] := by
  have h2 : r.data.toList[p + 1 + j]? = some Dg[j] := by rw [← List.getElem?_drop, h, List.getElem?_append_left hj, List.getElem?_eq_getElem hj]
  obtain ⟨h1, h3⟩ := List.getElem?_eq_some_iff.1 h2
  exact ⟨by rw [data_length] at h1; exact h1, h3⟩
theorem byte_end (r : ByteArray) (p : Nat) (Dg T : List UInt8) (h : r.data.toList.drop (p + 1) = Dg ++ 58 :: T) : ∃ hp : p + 1 + Dg.length < r.size, r[p + 1 + Dg.length] = 58 := by
  have h2 : r.data.toList[p + 1 + Dg.length]? = some 58 := by rw [← List.getElem?_drop, h, List.getElem?_append_right (Nat.le_refl _)]; simp
  obtain ⟨h1, h3⟩ := List.getElem?_eq_some_iff.1 h2
  exact ⟨by rw [data_length] at h1; exact h1, h3⟩
theorem len_at (r : ByteArray) (p : Nat) (Dg T : List UInt8) (h : r.data.toList.drop (p + 1) = Dg ++ 58 :: T) : p + 1 + Dg.length < r.size := (byte_end r p Dg T h).1
theorem ln_le (s : ByteArray) (a : Nat) (hs : s.size ≤ 1048576) (ha : a ≤ s.size) : lnOf s a ≤ 1048577 := by
  have := cnt_len s a
  unfold lnOf
  omega
theorem col_le (s : ByteArray) (a : Nat) (hs : s.size ≤ 1048576) (ha : a ≤ s.size) : colOf s a ≤ 1048577 := by unfold colOf; omega
theorem cut0 (s : ByteArray) (a : Nat) (cd : List UInt8) (r : ByteArray) (h : r.data.toList = restL s a cd) (p : Nat) (hp : p = 0) : ∃ T, r.data.toList[p]? = some 58 ∧ r.data.toList.drop (p + 1) = D (lnOf s a) ++ 58 :: T := by
  subst hp
  rw [h]
  exact ⟨_, rfl, rfl⟩
theorem cut1 (s : ByteArray) (a : Nat) (cd : List UInt8) (r : ByteArray) (h : r.data.toList = restL s a cd) (p : Nat) (hp : p = 1 + (D (lnOf s a)).length) : ∃ T, r.data.toList[p]? = some 58 ∧ r.data.toList.drop (p + 1) = D (colOf s a) ++ 58 :: T := by
  subst hp
  obtain ⟨L, hL⟩ : ∃ L, D (lnOf s a) = L := ⟨_, rfl⟩
  unfold restL at h
  rw [hL] at h ⊢
  rw [h]
  refine ⟨err ++ (cd ++ 10 :: (Pl.excAns s (a : Int) 72).1.data.toList), ?_, ?_⟩
  · rw [Nat.add_comm, List.getElem?_cons_succ, List.getElem?_append_right (Nat.le_refl _)]
    simp
  · obtain ⟨X, hX⟩ : ∃ X, D (colOf s a) ++ 58 :: (err ++ (cd ++ 10 :: (Pl.excAns s (a : Int) 72).1.data.toList)) = X := ⟨_, rfl⟩
    rw [hX, show 1 + L.length + 1 = (L.length + 1) + 1 by omega, List.drop_succ_cons, show L ++ 58 :: X = (L ++ [58]) ++ X by simp]
    exact List.drop_left' (by simp)
theorem ext_l (s : ByteArray) (a b : Nat) : (s.extract a b).data.toList = (s.data.toList.drop a).take (b - a) := Rp.ext_list s a b
theorem xsz (s : ByteArray) (a : Nat) (hs : s.size ≤ 1048576) (ha : a ≤ s.size) (x : ByteArray) (hx : (Pl.excAns s (a : Int) 72).1 = x) : x.size ≤ 5242890 := by
  have := Pl.excAns_le s (a : Int) 72
  rw [hx] at this
  omega
theorem rst (s : ByteArray) (a : Nat) (cd : List UInt8) (r : ByteArray) (h : r.data.toList = restL s a cd) (hs : s.size ≤ 1048576) (ha : a ≤ s.size) (hc : cd.length ≤ 21) : r.size ≤ 6000000 := by
  have x1 := xsz s a hs ha _ rfl
  have x2 := (D_len (lnOf s a) (ln_le s a hs ha)).2
  have x3 := (D_len (colOf s a) (col_le s a hs ha)).2
  have e := congrArg List.length h
  rw [data_length] at e
  unfold restL err at e
  simp only [List.length_cons, List.length_append, List.length_nil, data_length] at e
  omega
theorem tail_of (s : ByteArray) (a : Nat) (cd : List UInt8) (r : ByteArray) (h : r.data.toList = restL s a cd) (x : ByteArray) (hx : (Pl.excAns s (a : Int) 72).1 = x) :
    ∃ d, r.size = d + 1 + x.size ∧ d < r.size ∧ r.extract (d + 1) r.size = x ∧ ∀ h : d < r.size, r[d] = 10 := by
  obtain ⟨P, hP⟩ : ∃ P, r.data.toList = P ++ 10 :: x.data.toList := by
    rw [h, ← hx]
    exact ⟨58 :: (D (lnOf s a) ++ 58 :: (D (colOf s a) ++ 58 :: (err ++ cd))), by simp [restL]⟩
  have hl : r.size = P.length + 1 + x.size := by
    rw [← data_length r, hP, List.length_append, List.length_cons, data_length x]
    omega
  refine ⟨P.length, hl, by omega, ?_, fun hh => ?_⟩
  · apply Rp.ba_ext
    rw [Lib.extract_to_end, hP, show P ++ 10 :: x.data.toList = (P ++ [10]) ++ x.data.toList by simp]
    exact List.drop_left' (by simp)
  · have h2 : r.data.toList[P.length]? = some 10 := by rw [hP, List.getElem?_append_right (Nat.le_refl _)]; simp
    obtain ⟨h1, h3⟩ := List.getElem?_eq_some_iff.1 h2
    exact h3
theorem st_w {kk p : Nat} (h : kk < p + 13) (hp : p ≤ 1048576) : wrap64 ((kk : Int) + 1) = ((kk + 1 : Nat) : Int) := by
  rw [Pl.wrap_of (by omega) (by omega)]
  omega
theorem st_k {kk p j : Nat} (h : kk = p + 1 + j) : kk + 1 = p + 1 + (j + 1) := by omega
theorem st_m {kk n : Nat} (h : kk < n) : n - (kk + 1) < n - kk := by omega
theorem st_v (Dg : List UInt8) (j : Nat) (h : j < Dg.length) (b : UInt8) (hb : b = Dg[j]) (hd : 48 ≤ b.toNat ∧ b.toNat ≤ 57) (hl : Ln.val (Dg.take j) 0 ≤ 1048577) :
    wrap64 (10 * ((Ln.val (Dg.take j) 0 : Nat) : Int) + wrap64 (((b.toNat : Int) - 48) % 256)) = ((Ln.val (Dg.take (j + 1)) 0 : Nat) : Int) := by
  have e := val_take Dg j h
  rw [← hb] at e
  rw [e, Pl.wrap_of (i := ((b.toNat : Int) - 48) % 256) (by omega) (by omega), Pl.wrap_of (by omega) (by omega)]
  omega
theorem st_p (m n : Nat) (h : m = n) : m ≤ n := Nat.le_of_eq h
set_option maxRecDepth 100000 in
set_option maxHeartbeats 16000000 in
theorem Leads_walk (file text : ByteArray) (at_ code : Int) (hf : file.size ≤ 1048576) (ht : text.size ≤ 1048576) (h0 : -9223372036854775808 ≤ code) (h1 : code ≤ 9223372036854775807)
    (w : World) (hm : Ln.Mx w) (htab : Tab w) :
    Calls Tryd.prog 9 #[.string file, .string text, .agg #[.int .i64 at_, .int .i64 code]] w fun e w' => e = .returned (.bool true) ∧ Below w.heap.size w w' := by
  have HTM := Aside0.mk (show TM w from ⟨htab, hm⟩)
  have HWK := Aside0.mk (fun (W : World) (hT : TM W) => dowellaw28_works.calls 1048579 true W (Rp.works_ev 1048579 (by omega)) rfl hT)
  obtain ⟨s, er, hN, hbad, hgood⟩ := notice_ev file text hf ht at_ code h0 h1
  have HNT := Aside0.mk (fun (W : World) (hT : Tab W) => report_Notice.calls 1 file text at_ code s er W hN hT)
  have HBAD := Aside0.mk hbad
  have HGOOD := Aside0.mk hgood
  have HF := Aside0.mk hf
  have HT := Aside0.mk ht
  clear hN hbad hgood hm htab h0 h1
  go_enter Tryd.func9, Tryd.ntmps9
  go_wp2_with (((with_reducible refine gate_dst (N := 5) rfl ?_); (try (refine gate_guard (by rfl) ?_; dsimp only)); refine box_event ?hg (N := 5) ?hd (cs := #[.int .i64 at_, .int .i64 code]) (t := 34) ?hr ?_; (case hd => rfl); (case hg => rfl); (case hr => first | (go_simp; done) | (go_simp; rfl)); intro go hg0 w1 hbox hb0; have GEa := Aside0.mk (Nat.le_of_eq hg0.symm); have BXa := Aside0.mk hbox; have HXa := Aside0.mk hb0; have k0 := (blk_cell hbox 0).trans rfl; have k1 := (blk_cell hbox 1).trans rfl; have zk0 := blk_frozen hbox 0; have zk1 := blk_frozen hbox 1; clear hg0 hbox hb0))
  have HB1 := Aside0.mk HXa.out
  go_at_call 21
  refine (HWK.out w1 (TM.step HTM.out HB1.out)).mono ?_
  rintro e_ w2 ⟨rfl, hb2⟩
  have BK2 := Aside0.mk ((hb2.block go (Ps.lt_of_some BXa.out)).trans BXa.out)
  have HB2 := Aside0.mk (HB1.out.trans (hb2.mono HB1.out.size))
  clear k0 zk0 k1 zk1
  clear hb2 HB1 BXa HXa HWK
  have k0 := (blk_cell BK2.out 0).trans rfl
  have k1 := (blk_cell BK2.out 1).trans rfl
  have zk0 := blk_frozen BK2.out 0
  have zk1 := blk_frozen BK2.out 1
  go_wp2_with fail
  go_at_call 14
  refine (HNT.out w2 (TM.step HTM.out HB2.out).1).mono ?_
  rintro e_ w3 ⟨rfl, hb3⟩
  have BK3 := Aside0.mk ((hb3.block go (Ps.lt_of_some BK2.out)).trans BK2.out)
  have HB3 := Aside0.mk (HB2.out.trans (hb3.mono HB2.out.size))
  clear k0 zk0 k1 zk1
  clear hb3 HB2 BK2 HNT
  have k0 := (blk_cell BK3.out 0).trans rfl
  have k1 := (blk_cell BK3.out 1).trans rfl
  have zk0 := blk_frozen BK3.out 0
  have zk1 := blk_frozen BK3.out 1
  by_cases hr : at_ < 0 ∨ (text.size : Int) < at_
  · obtain ⟨rfl, rfl⟩ := HBAD.out hr
    clear HBAD HGOOD
    by_cases hn : at_ < 0
    · have c1 : decide (at_ < 0) = true := decide_eq_true hn
      clear hr hn
      go_wp2
      go_ret
      exact ⟨by first | rfl | (simp; done) | (simp [*]; done), HB3.out⟩
    · have c1 : decide (at_ < 0) = false := decide_eq_false hn
      have c2 : decide ((text.size : Int) < at_) = true := decide_eq_true (hr.resolve_left hn)
      clear hr hn
      go_wp2
      go_ret
      exact ⟨by first | rfl | (simp; done) | (simp [*]; done), HB3.out⟩
  · obtain ⟨a, rfl⟩ : ∃ a : Nat, at_ = (a : Int) := ⟨at_.toNat, by omega⟩
    have ha : a ≤ text.size := by omega
    have HA := Aside0.mk ha
    have c2 : decide ((text.size : Int) < (a : Int)) = false := decide_eq_false (by omega)
    have c2b : decide (text.size < a) = false := decide_eq_false (by omega)
    have c1 : decide ((a : Int) < 0) = false := decide_eq_false (by omega)
    rcases HGOOD.out a rfl ha with ⟨rfl, rfl⟩ | ⟨rfl, cd, hcd, hs⟩
    · clear HBAD HGOOD hr ha
      go_wp2
      go_ret
      exact ⟨by first | rfl | (simp; done) | (simp [*]; done), HB3.out⟩
    · clear HBAD HGOOD hr ha
      have hfl : file.data.toList.length = file.size := data_length file
      have hsl : s.data.toList.length = s.size := data_length s
      obtain ⟨rest, hrest⟩ : ∃ r, s.extract file.size s.size = r := ⟨_, rfl⟩
      have hrl : rest.data.toList = restL text a cd := by
        rw [← hrest, Lib.extract_to_end, hs, ← hfl, List.drop_left]
      have hrs : rest.data.toList.length = rest.size := data_length rest
      have hss : s.size = file.size + rest.size := by
        have := congrArg List.length hs
        rw [List.length_append, hsl, hfl, ← hrl, hrs] at this
        exact this
      have hpre := tl_of (show (s.extract 0 file.size).data.toList = file.data.toList by rw [ext_l, List.drop_zero, Nat.sub_zero, hs, ← hfl, List.take_left])
      have c4 := hpre.1
      have c5 := hpre.2
      have hr3 : 3 ≤ rest.size := by
        rw [← hrs, hrl]
        unfold restL
        simp only [List.length_cons, List.length_append]
        omega
      have c3 : decide ((s.size : Int) ≤ (file.size : Int)) = false := decide_eq_false (by omega)
      have c3b : decide (s.size ≤ file.size) = false := decide_eq_false (by omega)
      have HRL := Aside0.mk hrl
      have HRE := Aside0.mk hrest
      have HSS := Aside0.mk hss
      have hfs : file.size ≤ s.size := by omega
      clear hfl hsl hrl hrs hpre hss hs
      go_wp2_with fail
      have HB0 := Aside0.mk (HB3.out.trans (((Below.refl w3.heap.size w3).alloc (Nat.le_refl _) (.cells #[.int .i64 0, .int .i64 0] 52)).mono HB3.out.size))
      have BO0 := Aside0.mk (show (w3.alloc (.cells #[.int .i64 0, .int .i64 0] 52)).heap[go]? = some (.cells #[.int .i64 (a : Int), .int .i64 code] 34 (0, 0)) from (((Below.refl w3.heap.size w3).alloc (Nat.le_refl _) (.cells #[.int .i64 0, .int .i64 0] 52)).block go (Ps.lt_of_some BK3.out)).trans BK3.out)
      have BN0 := Aside0.mk (show (w3.alloc (.cells #[.int .i64 0, .int .i64 0] 52)).heap[w3.heap.size]? = some (.cells #[.int .i64 0, .int .i64 0] 52 (0, 0)) from Array.getElem?_push_size)
      have HGO := Aside0.mk (Ps.lt_of_some BK3.out)
      have HW3 := Aside0.mk HB3.out.size
      clear k0 zk0 k1 zk1
      clear BK3 HB3
      go_loopw [11, 12] (fun v11 v12 wr => ∃ (i : Nat), Aside0 (Sta (D (lnOf text a)).length (D (colOf text a)).length (lnOf text a) (colOf text a) i v11 v12 (wr.heap[w3.heap.size]?)) ∧ Aside0 (wr.heap[go]? = some (.cells #[.int .i64 (a : Int), .int .i64 code] 34 (0, 0))) ∧ Aside0 (Below w.heap.size w wr))
        (fun _ v12 _ => 2 - (intOf v12).toNat)
      case atStart => exact ⟨0, ⟨0, rfl, rfl, rfl, BN0.out⟩, BO0, HB0⟩
      case round =>
        clear BN0 BO0 HB0
        obtain ⟨i, HS, BO, HB⟩ := hrel
        match i, HS with
        | 0, HS =>
          obtain ⟨p, rfl, hp, rfl, hbn⟩ := HS.out
          obtain ⟨T, hT⟩ := cut0 text a cd rest HRL.out p hp
          have hhd := hT.1
          have hdr := hT.2
          have HBY := Aside0.mk (fun j hj => byte_at rest p (D (lnOf text a)) T hdr j hj)
          have HBE := Aside0.mk (byte_end rest p (D (lnOf text a)) T hdr)
          have HLN := Aside0.mk (len_at rest p (D (lnOf text a)) T hdr)
          obtain ⟨hps, hpb⟩ := byte_hd rest p hhd
          have r0 : (((rest[p]'hps).toNat : Int) != 58) = false := by rw [hpb]; rfl
          have t0 : decide ((rest.size : Int) ≤ (p : Int)) = false := decide_eq_false (by omega)
          have t0b : decide (rest.size ≤ p) = false := decide_eq_false (by omega)
          have HPQ := Aside0.mk hp
          have BN := Aside0.mk hbn
          have hp22 : p ≤ 1048576 := by have := (D_len (lnOf text a) (ln_le text a HT.out HA.out)).2; omega
          clear HS hbn hT hhd hdr hp hpb
          go_wp2
          go_loopw [11] (fun v11 wr => ∃ kk j : Nat, v11 = .int .i64 (kk : Int) ∧ Aside0 (kk = p + 1 + j) ∧ Aside0 (j ≤ (D (lnOf text a)).length) ∧ Aside0 (wr.heap[w3.heap.size]? = some (.cells #[.int .i64 ((Ln.val ((D (lnOf text a)).take (j)) 0 : Nat) : Int), .int .i64 0] 52 (0, 0))) ∧ Aside0 (wr.heap[go]? = some (.cells #[.int .i64 (a : Int), .int .i64 code] 34 (0, 0))) ∧ Aside0 (Below w.heap.size w wr))
            (fun v11 _ => rest.size - (intOf v11).toNat)
          case atStart => exact ⟨p + 1, 0, by go_num, ⟨rfl⟩, ⟨Nat.zero_le _⟩, ⟨BN.out⟩, BO, HB⟩
          case round =>
            clear BN BO HB
            obtain ⟨kk, j, rfl, HKK, HJ, BN, BO, HB⟩ := hrel
            by_cases hj : j < (D (lnOf text a)).length
            · have hd := D_dig _ (D (lnOf text a))[j] (List.getElem_mem hj)
              have hkk : kk < rest.size := by have := HKK.out; obtain ⟨h_, _⟩ := HBY.out j hj; omega
              have hbk : rest[kk]'hkk = (D (lnOf text a))[j] := by
                have e := HKK.out
                obtain ⟨_, h_⟩ := HBY.out j hj
                subst e
                exact h_
              have hd2 : 48 ≤ (rest[kk]'hkk).toNat ∧ (rest[kk]'hkk).toNat ≤ 57 := by rw [hbk]; exact hd
              have f0 : decide ((kk : Int) < (rest.size : Int)) = true := decide_eq_true (by omega)
              have f0b : decide (kk < rest.size) = true := decide_eq_true hkk
              have f1 : decide ((48 : Int) ≤ ((rest[kk]'hkk).toNat : Int)) = true := decide_eq_true (by omega)
              have f2 : decide (((rest[kk]'hkk).toNat : Int) ≤ 57) = true := decide_eq_true (by omega)
              have hlen := (D_len (lnOf text a) (ln_le text a HT.out HA.out)).2
              have hkp : kk < p + 13 := by have := HKK.out; omega
              have f3 : decide ((kk : Int) < (p : Int) + 1 + 12) = true := decide_eq_true (by omega)
              have f4 : decide ((kk : Int) < (p : Int) + 13) = true := decide_eq_true (by omega)
              have f5 : decide (kk < p + 13) = true := decide_eq_true hkp
              have hvl : Ln.val ((D (lnOf text a)).take j) 0 ≤ 1048577 := Nat.le_trans (val_take_le _ j) (by rw [D_val]; exact ln_le text a HT.out HA.out)
              have m0 := (blk_cell BN.out 0).trans rfl
              have m1 := (blk_cell BN.out 1).trans rfl
              have y0 := blk_frozen BN.out 0
              have y1 := blk_frozen BN.out 1
              have HBK := Aside0.mk hbk
              have HD2 := Aside0.mk hd2
              have HJ2 := Aside0.mk hj
              clear hd hbk hd2 hlen hkp
              go_wp2
              have hw := st_w (of_decide_eq_true f5) hp22
              have hk1 := st_k HKK.out
              have hms := st_m hkk
              have hgo : go ≠ w3.heap.size := Nat.ne_of_lt HGO.out
              have HW := Aside0.mk hw
              have HK1 := Aside0.mk hk1
              have HMS := Aside0.mk hms
              have HNE := Aside0.mk hgo
              have hv := st_v (D (lnOf text a)) j HJ2.out (rest[kk]'hkk) HBK.out HD2.out hvl
              have HV := Aside0.mk hv
              clear hw hk1 hms hgo hv
              go_still_tail 12, (by kernel_rfl)
              change wpList _ _ _ _ _ wr.drew
              have BN1 := Aside0.mk (show wr.drew.heap[w3.heap.size]? = some (.cells #[.int .i64 ((Ln.val ((D (lnOf text a)).take (j)) 0 : Nat) : Int), .int .i64 0] 52 (0, 0)) from BN.out)
              have BO1 := Aside0.mk (show wr.drew.heap[go]? = some (.cells #[.int .i64 (a : Int), .int .i64 code] 34 (0, 0)) from BO.out)
              have HB1 := Aside0.mk HB.out.drew
              clear BN BO HB m0 m1 y0 y1
              generalize wr.drew = wr1 at BN1 BO1 HB1 ⊢
              have m0 := (blk_cell BN1.out 0).trans rfl
              have m1 := (blk_cell BN1.out 1).trans rfl
              have y0 := blk_frozen BN1.out 0
              have y1 := blk_frozen BN1.out 1
              go_wp2
              clear m0 m1 y0 y1
              rw [HV.out, HW.out]
              refine ⟨⟨kk + 1, j + 1, rfl, HK1, HJ2, ⟨blk_put BN1.out 0 _ rfl⟩, ⟨?_⟩, ⟨HB1.out.setCell (p := ⟨w3.heap.size, 0, none⟩) HW3.out _⟩⟩, HMS.out⟩
              rw [Below.heap_setCell _ _ _ _ HNE.out]
              exact BO1.out
            · have hje : j = (D (lnOf text a)).length := by have := HJ.out; omega
              subst hje
              obtain ⟨hkk, hbk⟩ : ∃ h : kk < rest.size, rest[kk]'h = 58 := by
                have e := HKK.out
                obtain ⟨h_, g_⟩ := HBE.out
                subst e
                exact ⟨h_, g_⟩
              have hl := (D_len (lnOf text a) (ln_le text a HT.out HA.out)).1
              have f0 : decide ((kk : Int) < (rest.size : Int)) = true := decide_eq_true (by omega)
              have f0b : decide (kk < rest.size) = true := decide_eq_true hkk
              have f1 : decide ((48 : Int) ≤ ((rest[kk]'hkk).toNat : Int)) = true := by rw [hbk]; rfl
              have f2 : decide (((rest[kk]'hkk).toNat : Int) ≤ 57) = false := by rw [hbk]; rfl
              have hkp : kk ≠ p + 1 := by have := HKK.out; omega
              have m0 := (blk_cell BN.out 0).trans rfl
              have m1 := (blk_cell BN.out 1).trans rfl
              have y0 := blk_frozen BN.out 0
              have y1 := blk_frozen BN.out 1
              have f6 : ((kk : Int) == (p : Int) + 1) = false := beq_eq_false_iff_ne.2 (by omega)
              have f7 : decide ((kk : Int) = (p : Int) + 1) = false := decide_eq_false (by omega)
              have HKE := Aside0.mk (show kk = 1 + (D (lnOf text a)).length by have := HKK.out; have := HPQ.out; omega)
              have HBN := Aside0.mk (BN.out)
              have HBK := Aside0.mk hbk
              clear hbk hl hkp
              go_wp2
              exact ⟨⟨1, ⟨kk, rfl, HKE.out, rfl, by have h_ := BN.out; rw [List.take_length, D_val] at h_; exact h_⟩, BO, HB⟩, by decide⟩
        | 1, HS =>
          obtain ⟨p, rfl, hp, rfl, hbn⟩ := HS.out
          obtain ⟨T, hT⟩ := cut1 text a cd rest HRL.out p hp
          have hhd := hT.1
          have hdr := hT.2
          have HBY := Aside0.mk (fun j hj => byte_at rest p (D (colOf text a)) T hdr j hj)
          have HBE := Aside0.mk (byte_end rest p (D (colOf text a)) T hdr)
          have HLN := Aside0.mk (len_at rest p (D (colOf text a)) T hdr)
          obtain ⟨hps, hpb⟩ := byte_hd rest p hhd
          have r0 : (((rest[p]'hps).toNat : Int) != 58) = false := by rw [hpb]; rfl
          have t0 : decide ((rest.size : Int) ≤ (p : Int)) = false := decide_eq_false (by omega)
          have t0b : decide (rest.size ≤ p) = false := decide_eq_false (by omega)
          have HPQ := Aside0.mk hp
          have BN := Aside0.mk hbn
          have hp22 : p ≤ 1048576 := by have := (D_len (lnOf text a) (ln_le text a HT.out HA.out)).2; omega
          clear HS hbn hT hhd hdr hp hpb
          go_wp2
          go_loopw [11] (fun v11 wr => ∃ kk j : Nat, v11 = .int .i64 (kk : Int) ∧ Aside0 (kk = p + 1 + j) ∧ Aside0 (j ≤ (D (colOf text a)).length) ∧ Aside0 (wr.heap[w3.heap.size]? = some (.cells #[.int .i64 ((lnOf text a : Nat) : Int), .int .i64 ((Ln.val ((D (colOf text a)).take (j)) 0 : Nat) : Int)] 52 (0, 0))) ∧ Aside0 (wr.heap[go]? = some (.cells #[.int .i64 (a : Int), .int .i64 code] 34 (0, 0))) ∧ Aside0 (Below w.heap.size w wr))
            (fun v11 _ => rest.size - (intOf v11).toNat)
          case atStart => exact ⟨p + 1, 0, by go_num, ⟨rfl⟩, ⟨Nat.zero_le _⟩, ⟨BN.out⟩, BO, HB⟩
          case round =>
            clear BN BO HB
            obtain ⟨kk, j, rfl, HKK, HJ, BN, BO, HB⟩ := hrel
            by_cases hj : j < (D (colOf text a)).length
            · have hd := D_dig _ (D (colOf text a))[j] (List.getElem_mem hj)
              have hkk : kk < rest.size := by have := HKK.out; obtain ⟨h_, _⟩ := HBY.out j hj; omega
              have hbk : rest[kk]'hkk = (D (colOf text a))[j] := by
                have e := HKK.out
                obtain ⟨_, h_⟩ := HBY.out j hj
                subst e
                exact h_
              have hd2 : 48 ≤ (rest[kk]'hkk).toNat ∧ (rest[kk]'hkk).toNat ≤ 57 := by rw [hbk]; exact hd
              have f0 : decide ((kk : Int) < (rest.size : Int)) = true := decide_eq_true (by omega)
              have f0b : decide (kk < rest.size) = true := decide_eq_true hkk
              have f1 : decide ((48 : Int) ≤ ((rest[kk]'hkk).toNat : Int)) = true := decide_eq_true (by omega)
              have f2 : decide (((rest[kk]'hkk).toNat : Int) ≤ 57) = true := decide_eq_true (by omega)
              have hlen := (D_len (colOf text a) (col_le text a HT.out HA.out)).2
              have hkp : kk < p + 13 := by have := HKK.out; omega
              have f3 : decide ((kk : Int) < (p : Int) + 1 + 12) = true := decide_eq_true (by omega)
              have f4 : decide ((kk : Int) < (p : Int) + 13) = true := decide_eq_true (by omega)
              have f5 : decide (kk < p + 13) = true := decide_eq_true hkp
              have hvl : Ln.val ((D (colOf text a)).take j) 0 ≤ 1048577 := Nat.le_trans (val_take_le _ j) (by rw [D_val]; exact col_le text a HT.out HA.out)
              have m0 := (blk_cell BN.out 0).trans rfl
              have m1 := (blk_cell BN.out 1).trans rfl
              have y0 := blk_frozen BN.out 0
              have y1 := blk_frozen BN.out 1
              have HBK := Aside0.mk hbk
              have HD2 := Aside0.mk hd2
              have HJ2 := Aside0.mk hj
              clear hd hbk hd2 hlen hkp
              go_wp2
              have hw := st_w (of_decide_eq_true f5) hp22
              have hk1 := st_k HKK.out
              have hms := st_m hkk
              have hgo : go ≠ w3.heap.size := Nat.ne_of_lt HGO.out
              have HW := Aside0.mk hw
              have HK1 := Aside0.mk hk1
              have HMS := Aside0.mk hms
              have HNE := Aside0.mk hgo
              have hv := st_v (D (colOf text a)) j HJ2.out (rest[kk]'hkk) HBK.out HD2.out hvl
              have HV := Aside0.mk hv
              clear hw hk1 hms hgo hv
              go_still_tail 12, (by kernel_rfl)
              change wpList _ _ _ _ _ wr.drew
              have BN1 := Aside0.mk (show wr.drew.heap[w3.heap.size]? = some (.cells #[.int .i64 ((lnOf text a : Nat) : Int), .int .i64 ((Ln.val ((D (colOf text a)).take (j)) 0 : Nat) : Int)] 52 (0, 0)) from BN.out)
              have BO1 := Aside0.mk (show wr.drew.heap[go]? = some (.cells #[.int .i64 (a : Int), .int .i64 code] 34 (0, 0)) from BO.out)
              have HB1 := Aside0.mk HB.out.drew
              clear BN BO HB m0 m1 y0 y1
              generalize wr.drew = wr1 at BN1 BO1 HB1 ⊢
              have m0 := (blk_cell BN1.out 0).trans rfl
              have m1 := (blk_cell BN1.out 1).trans rfl
              have y0 := blk_frozen BN1.out 0
              have y1 := blk_frozen BN1.out 1
              go_wp2
              clear m0 m1 y0 y1
              rw [HV.out, HW.out]
              refine ⟨⟨kk + 1, j + 1, rfl, HK1, HJ2, ⟨blk_put BN1.out 1 _ rfl⟩, ⟨?_⟩, ⟨HB1.out.setCell (p := ⟨w3.heap.size, 1, none⟩) HW3.out _⟩⟩, HMS.out⟩
              rw [Below.heap_setCell _ _ _ _ HNE.out]
              exact BO1.out
            · have hje : j = (D (colOf text a)).length := by have := HJ.out; omega
              subst hje
              obtain ⟨hkk, hbk⟩ : ∃ h : kk < rest.size, rest[kk]'h = 58 := by
                have e := HKK.out
                obtain ⟨h_, g_⟩ := HBE.out
                subst e
                exact ⟨h_, g_⟩
              have hl := (D_len (colOf text a) (col_le text a HT.out HA.out)).1
              have f0 : decide ((kk : Int) < (rest.size : Int)) = true := decide_eq_true (by omega)
              have f0b : decide (kk < rest.size) = true := decide_eq_true hkk
              have f1 : decide ((48 : Int) ≤ ((rest[kk]'hkk).toNat : Int)) = true := by rw [hbk]; rfl
              have f2 : decide (((rest[kk]'hkk).toNat : Int) ≤ 57) = false := by rw [hbk]; rfl
              have hkp : kk ≠ p + 1 := by have := HKK.out; omega
              have m0 := (blk_cell BN.out 0).trans rfl
              have m1 := (blk_cell BN.out 1).trans rfl
              have y0 := blk_frozen BN.out 0
              have y1 := blk_frozen BN.out 1
              have f6 : ((kk : Int) == (p : Int) + 1) = false := beq_eq_false_iff_ne.2 (by omega)
              have f7 : decide ((kk : Int) = (p : Int) + 1) = false := decide_eq_false (by omega)
              have HKE := Aside0.mk (show kk = 2 + (D (lnOf text a)).length + (D (colOf text a)).length by have := HKK.out; have := HPQ.out; omega)
              have HBN := Aside0.mk (BN.out)
              have HBK := Aside0.mk hbk
              clear hbk hl hkp
              go_wp2
              exact ⟨⟨2, ⟨kk, rfl, HKE.out, rfl, by have h_ := BN.out; rw [List.take_length, D_val] at h_; exact h_⟩, BO, HB⟩, by decide⟩
        | k + 2, HS =>
          obtain ⟨p, rfl, hp, rfl, hbn⟩ := HS.out
          have m0 := (blk_cell hbn 0).trans rfl
          have m1 := (blk_cell hbn 1).trans rfl
          have y0 := blk_frozen hbn 0
          have y1 := blk_frozen hbn 1
          have BN := Aside0.mk hbn
          have HPQ := Aside0.mk hp
          clear HS hbn hp
          go_wp2_with fail
          refine (place_At.calls (text.size + 1) text _ _ _ _ wr (at_back text HT.out a HA.out)).mono ?_
          rintro e_ w4 ⟨rfl, hd4⟩
          have hb4 := hd4.below
          have HB4 := Aside0.mk (HB.out.trans (hb4.mono HB.out.size))
          have BO4 := Aside0.mk ((hb4.block go (Ps.lt_of_some BO.out)).trans BO.out)
          have HTM4 := Aside0.mk (TM.step HTM.out HB4.out)
          clear m0 m1 y0 y1 hd4 hb4 BN BO HB
          have k0 := (blk_cell BO4.out 0).trans rfl
          have k1 := (blk_cell BO4.out 1).trans rfl
          have z0 := blk_frozen BO4.out 0
          have z1 := blk_frozen BO4.out 1
          have q1 : decide ((a : Int) = (a : Int)) = true := decide_eq_true rfl
          go_wp2_with fail
          obtain ⟨x, hx⟩ : ∃ x, (Pl.excAns text (a : Int) 72).1 = x := ⟨_, rfl⟩
          have hex : place_Excerpt.f text (a : Int) 72 = some (x, 0) := by
            rw [Pl.exc_eq text (by omega), ← hx]
            unfold Pl.excAns
            rw [if_neg (by have := HA.out; omega)]
          refine (place_Excerpt.calls text (a : Int) 72 x 0 w4 hex).mono ?_
          rintro e_ w5 ⟨rfl, hb5⟩
          have HB5 := Aside0.mk (HB4.out.trans (hb5.mono HB4.out.size))
          have BO5 := Aside0.mk ((hb5.block go (Ps.lt_of_some BO4.out)).trans BO4.out)
          clear k0 k1 z0 z1 hb5 BO4 HB4
          have k0 := (blk_cell BO5.out 0).trans rfl
          have k1 := (blk_cell BO5.out 1).trans rfl
          have z0 := blk_frozen BO5.out 0
          have z1 := blk_frozen BO5.out 1
          obtain ⟨d, hd1, hd2, hd3, hd4⟩ := tail_of text a cd rest HRL.out x hx
          have e1 : decide ((x.size : Int) < (rest.size : Int)) = true := decide_eq_true (by omega)
          have e1b : decide (x.size < rest.size) = true := decide_eq_true (by omega)
          have hrb := rst text a cd rest HRL.out ht HA.out hcd
          have e2 : wrap64 ((d : Int) + 1) = (d : Int) + 1 := Pl.wrap_of (by omega) (by omega)
          have e3 : wrap64 (d : Int) = (d : Int) := Pl.wrap_of (by omega) (by omega)
          have hds : d < rest.size := by omega
          have e4 : rest.extract (d + 1) rest.size = x := hd3
          have e4b : rest.extract (d + 1) (d + 1 + x.size) = x := by rw [← hd1]; exact hd3
          have e5 : rest[d]'hds = 10 := hd4 hds
          go_wp2_with fail
          go_ret
          exact ⟨rfl, HB5.out⟩

end Go.Proofs.YtloflodbcdlmpaaDoor.LawLd
