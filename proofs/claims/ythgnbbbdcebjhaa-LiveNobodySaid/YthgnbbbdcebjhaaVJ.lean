/- Package live: Replace: characters of a text. Conditions: at most 100000 places are held; the numbers are from -1 to 2^30; texts of at most 100000 bytes. -/
import Derived.Test.YthgnbbbdcebjhaaVI
namespace Go.Proofs.Ythgnbbbdcebjhaa
open Go Go.RowKit Go.BigFrame
set_option linter.unusedVariables false
set_option linter.unusedSimpArgs false

/-- the text behind a replacement -/
def replT (t : ByteArray) (a c : Nat) (s : ByteArray) : ByteArray := runesBytes ((runeList t t.size 0).take a) ++ s ++ runesBytes ((runeList t t.size 0).drop (a + c))
section
variable {w : World} {own : Ow} {ptr : Nat → Nat} {lb tb : Nat} {T : Tr} {hv : Value} {hb : Option Nat} {H : List Hd}
set_option maxHeartbeats 2000000 in
set_option maxRecDepth 100000 in
theorem lReplace_any (h : LiveAt w own ptr lb tb T hv hb H) (hl : H.length ≤ 100000) {d : Nat → Nat} (hw : WF T d) (hA : AttrsOk T) (id : Int) {nd : Nd} (hg : T.get? id = some nd) (ht : nd.tag = 0) (a c : Nat) (ha : a ≤ runes nd.text) (hc : c ≤ 1000000000) (s : ByteArray) (hs : s.size ≤ 1000000)
    {c' : Nat} (hcc : min c (runes nd.text - a) = c') {er : Int} {T' : Tr}
    (hd : ∀ W, Ext w W → Calls Try.prog 64 #[.pointer (some ⟨tb, 0, none⟩), .int .i64 id, .string (replT nd.text a c' s)] W (ErrAfter own W tb er T'))
    (hP : er = 0 → okI id ∧ okH H) :
    Calls Try.prog 13 #[.pointer (some ⟨lb, 0, none⟩), .int .i64 id, .int .i64 (a : Int), .int .i64 (c : Int), .string s] w (LErr own lb tb hb w er T' (movedIf er (repP id a c' (runeList s s.size 0).length) H)) := by
  have hlen : T.lengthOf id = (runes nd.text : Int) := by
    unfold Tr.lengthOf Tr.tagOf Tr.txt
    rw [hg]
    simp [ht]
  have hL8 : runes nd.text ≤ 8192 := Nat.le_trans (runes_le _) (hA _ nd (Tr.get_lt hg).2.2).2
  have htz : nd.text.size ≤ 1000000 := by have := (hA _ nd (Tr.get_lt hg).2.2).2; omega
  have HNN := Lib.hid (none_some h.ptr_)
  have HHAS := Lib.hid (Has_some h.tree hg)
  have hta := Tag_some h.tree hg
  rw [ht] at hta
  have HTAG := Lib.hid hta
  have hle := Length_any (h.tree.tat h.ownd) hw hA id
  rw [hlen] at hle
  have HLE := Lib.hid hle
  have p0 := h.ptr_
  obtain ⟨tx, htx⟩ : ∃ x, nd.text = x := ⟨_, rfl⟩
  rw [htx] at ha hcc hd HLE hL8 htz
  have HTO := Lib.hid (fun W (x : Ext w W) => by have h9 := Told_some (h.ext x).tree hg; rw [htx] at h9; exact h9)
  obtain ⟨L, hLn⟩ : ∃ L, runes tx = L := ⟨_, rfl⟩
  rw [hLn] at ha hcc HLE hL8
  have HLN := Lib.hid hLn
  have HH := Lib.hid h
  have HD := Lib.hid hd
  have HPP := Lib.hid hP
  have HL := Lib.hid hl
  have HS := Lib.hid hs
  have HTZ := Lib.hid htz
  have HCC := Lib.hid hcc
  have hac : a + c' ≤ L := by omega
  have e1 : decide ((a : Int) < 0) = false := decide_eq_false (by omega)
  have e2 : decide ((L : Int) < (a : Int)) = false := decide_eq_false (by omega)
  have e2n : decide (L < a) = false := decide_eq_false (by omega)
  have e3 : decide ((c : Int) < 0) = false := decide_eq_false (by omega)
  have e4 : IntKind.i64.wrap ((L : Int) - (a : Int)) = ((L - a : Nat) : Int) := by rw [IntWalk.i64_in _ (by omega)]; omega
  clear h hw hA hg ht hd hP hl hs hlen hta hle htx hLn hcc htz
  go_enter Try.func13, Try.ntmps13
  go_wp2_with (go_at_call 17; refine HNN.out.mono ?_; rintro e w' ⟨rfl, rfl⟩)
  go_wp2_with (go_at_call 38; refine HHAS.out.mono ?_; rintro e w' ⟨rfl, rfl⟩)
  go_wp2_with (go_at_call 39; refine HTAG.out.mono ?_; rintro e w' ⟨rfl, rfl⟩)
  go_wp2_with (go_at_call 40; refine HLE.out.mono ?_)
  rintro e w1 ⟨rfl, x1⟩
  have X1 := Lib.hid x1
  have p0 := x1.cell p0
  clear x1
  go_wp2_with (go_at_call 41; refine (HTO.out _ X1.out).mono ?_; rintro e w' ⟨rfl, rfl⟩)
  obtain ⟨K1, C1, hcv, hK1, hC1⟩ := run_toRunes tx HTZ.out w1
  have hll : (runeList tx tx.size 0).length = L := HLN.out
  rw [hll] at hcv hK1
  rw [hcv]
  clear hcv
  have x2 : Ext w1 (w1.alloc (.cells C1 21)).drew := ((Ext.refl w1).alloc _).drew
  have hb2 : (w1.alloc (.cells C1 21)).drew.heap[w1.heap.size]? = some (.cells C1 21 (0, 0)) := heap_alloc_new w1 _
  go_upto_region 10 with fail
  obtain ⟨g, hg⟩ : ∃ g, w1.heap.size = g := ⟨_, rfl⟩
  rw [hg] at hb2 ⊢
  obtain ⟨w2, hw2⟩ : ∃ W : World, W = (w1.alloc (.cells C1 21)).drew := ⟨_, rfl⟩
  rw [← hw2] at x2 hb2 ⊢
  clear hw2 hg
  have X2 := Lib.hid (X1.out.trans x2)
  have HB2 := Lib.hid hb2
  have HC1 := Lib.hid hC1
  have HLL := Lib.hid hll
  have HK1 := Lib.hid hK1
  clear x2 hb2 hC1 hll hK1 p0
  go_upto_region 11 with fail
  have hmin : min (c : Int) ((L - a : Nat) : Int) = (c' : Int) := by have := HCC.out; omega
  rw [hmin]
  clear hmin e1 e2 e2n e3 e4
  obtain ⟨l, hle⟩ : ∃ l, runeList tx tx.size 0 = l := ⟨_, rfl⟩
  have hll := HLL.out
  rw [hle] at hll
  have HA : Hid (runesBytes (l.take a) ++ s ++ runesBytes (l.drop (a + c')) = replT tx a c' s) := Lib.hid (by unfold replT; rw [hle])
  have hcell : ∀ u : ExtOf w2, ∀ j z, l[j]? = some z → u.val.cell? ⟨g, j, none⟩ = some (.int .i32 z) := fun u j z hj => u.ext.cell (cellOf HB2.out (HC1.out j z (by rw [hle]; exact hj)))
  have v1 : ∀ u : ExtOf w2, (convert 64 9 (.slice (some ⟨g, 0, none⟩) a K1)).run Try.prog u.val = .ok (.string (runesBytes (l.take a))) u.val := fun u =>
    run_convert_runes u.val 64 9 21 ⟨g, 0, none⟩ a K1 l (by omega) Try.underlying64 Try.underlying21 Try.underlying9 (fun j hj => by
      rw [Addr.add_lit, Nat.zero_add]
      exact hcell u j _ (by rw [List.getD_eq_getElem?_getD, List.getElem?_eq_getElem hj]; rfl))
  have v2 : ∀ u : ExtOf w2, (convert 64 9 (.slice (if K1 = a + c' then some ⟨g, 0, none⟩ else some ⟨g, a + c', none⟩) (L - (a + c')) (K1 - (a + c')))).run Try.prog u.val = .ok (.string (runesBytes (l.drop (a + c')))) u.val := fun u => by
    by_cases hk : K1 = a + c'
    · rw [if_pos hk]
      have hk1 := HK1.out
      have hz : L - (a + c') = 0 := by omega
      have hd : l.drop (a + c') = [] := List.drop_eq_nil_of_le (by omega)
      rw [hz, hd]
      have h9 := run_convert_runes (P := Try.prog) u.val 64 9 21 ⟨g, 0, none⟩ 0 (K1 - (a + c')) [] (Nat.le_refl _) Try.underlying64 Try.underlying21 Try.underlying9 (fun j hj => by cases hj)
      exact h9
    · rw [if_neg hk]
      have h9 := run_convert_runes (P := Try.prog) u.val 64 9 21 ⟨g, a + c', none⟩ (L - (a + c')) (K1 - (a + c')) (l.drop (a + c')) (by rw [List.length_drop]; omega) Try.underlying64 Try.underlying21 Try.underlying9 (fun j hj => by
        rw [Addr.add_lit]
        exact hcell u (a + c' + j) _ (by rw [List.length_drop] at hj; rw [List.getD_eq_getElem?_getD, List.getElem?_drop, List.getElem?_eq_getElem (by omega)]; rfl))
      rw [List.take_of_length_le (by rw [List.length_drop]; omega)] at h9
      exact h9
  obtain ⟨A, hAe⟩ : ∃ A, runesBytes (l.take a) = A := ⟨_, rfl⟩
  obtain ⟨B, hBe⟩ : ∃ B, runesBytes (l.drop (a + c')) = B := ⟨_, rfl⟩
  have hAz : A.size ≤ 4 * L := by have h9 := runesBytes_size_le (l.take a); rw [hAe, List.length_take] at h9; omega
  have hBz : B.size ≤ 4 * L := by have h9 := runesBytes_size_le (l.drop (a + c')); rw [hBe, List.length_drop] at h9; omega
  rw [hAe, hBe] at HA
  simp only [hAe] at v1
  simp only [hBe] at v2
  have hsz := HS.out
  have z1 : A.size + s.size ≤ 9223372036854775807 := by omega
  have z2 : A.size + s.size + B.size ≤ 9223372036854775807 := by omega
  have z3 : (A ++ s).size + B.size ≤ 9223372036854775807 := by rw [ByteArray.size_append]; omega
  clear hAe hBe hAz hBz hsz
  have b0 : (0 : Int) ≤ (a : Int) := by omega
  have hk1 := HK1.out
  have b1 : (a : Int) ≤ (K1 : Int) := by omega
  have b2 : IntKind.i64.wrap ((a : Int) + (c' : Int)) = ((a + c' : Nat) : Int) := by rw [IntWalk.i64_in _ (by omega)]; push_cast; rfl
  have b3 : (0 : Int) ≤ ((a + c' : Nat) : Int) := by omega
  have b4 : ((a + c' : Nat) : Int) ≤ (L : Int) := by omega
  have b5 : (L : Int) ≤ (K1 : Int) := by omega
  have b6 : a ≤ K1 := by omega
  have b7 : a + c' ≤ L := hac
  have b8 : L ≤ K1 := hk1
  clear hle hcell hll
  refine wp_region_ext_mid 18 _ rfl (by kernel_rfl) (by kernel_rfl) ?_
  simp only [List.take_succ_cons, List.take_zero, List.drop_succ_cons, List.drop_zero]
  repeat (go_big_quiet_step (fail))
  refine wpQuiet_nil ?_
  rintro _ ⟨u, rfl⟩ K hK
  have HK := Lib.hid hK
  have hx := u.ext
  obtain ⟨w5, hw5⟩ : ∃ W, u.val = W := ⟨_, rfl⟩
  rw [hw5] at hx ⊢
  clear v1 v2 hw5 hK
  clear u
  have X5 := Lib.hid (X2.out.trans hx)
  clear hx
  have HRE := Lib.hid (lreplace_any (HH.out.ext X5.out) HL.out id (a : Int) (c' : Int) s (A ++ s ++ B) HS.out (er := er) (T' := T') (fun W hW => by rw [HA.out]; exact HD.out W (X5.out.trans hW)) (fun he => ⟨(HPP.out he).1, by unfold okI; omega, by unfold okI; omega, (HPP.out he).2⟩))
  go_simp
  go_at_call 42
  refine HRE.out.mono ?_
  rintro e w6 ⟨rfl, ha6⟩
  have HF := Lib.hid ha6
  clear ha6
  refine HK.out _ _ ?_
  clear HK K
  repeat (go_big_quiet_step (fail))
  refine wpQuiet_nil ?_
  rintro _ ⟨u, rfl⟩
  have HG : Hid (LAfter own lb tb hb w T' (movedIf er (repP id (a : Int) (c' : Int) (runeList s s.size 0).length) H) u.val) := Lib.hid (by
    obtain ⟨o9, p9, v9, b9, k1, k2⟩ := HF.out
    exact ⟨o9, p9, v9, b9, k1.ext u.ext, (((LStep.refl own lb hb w).ext X5.out).trans k2).ext u.ext⟩)
  go_wp2_with fail
  all_goals (go_ret; exact ⟨rfl, HG.out⟩)
end
end Go.Proofs.Ythgnbbbdcebjhaa
