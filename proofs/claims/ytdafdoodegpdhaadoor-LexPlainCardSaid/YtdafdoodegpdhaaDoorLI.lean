/- lex.Decode: what any bytes stand for. Conditions: at most 10^11 bytes. -/
import Derived.Test.YtdafdoodegpdhaaDoorLH
import Derived.Test.YtdafdoodegpdhaaDoorLW
namespace Go.Proofs.YtdafdoodegpdhaaDoor
open Go Go.RowKit Go.BigFrame
set_option linter.unusedVariables false
set_option linter.unusedSimpArgs false

theorem Lx.BuA.ext {B b : Nat} {p : Value} {l : List Value} {w w' : World} (h : Lx.BuA B b p l w) (k : Ext w w') : Lx.BuA B b p l w' := by
  obtain ⟨hB, v, hb, hown, hne⟩ := h
  refine ⟨hB, v, k.block hb, ⟨hown.1, ?_⟩, hne⟩
  rcases hown.2 with hn | ⟨g, cap, cur, fz, hv, hbg, hg, rest⟩
  · exact .inl hn
  · exact .inr ⟨g, cap, cur, fz, hv, hbg, k.block hg, rest⟩
theorem Lx.BuF.ext {B b : Nat} {l : List Value} {w w' : World} (h : Lx.BuF B b l w) (k : Ext w w') : Lx.BuF B b l w' :=
  h.elim (fun x => .inl (Lx.BuA.ext x k)) (fun x => .inr (Lx.BuA.ext x k))
theorem meansL_len (l : List UInt8) (e : Nat) (x : List UInt8) (h : meansL l e = some x) : x.length ≤ 4 := by
  unfold meansL at h
  cases hn : namedL ((l.drop 1).take (e - 1)) with
  | some y =>
    rw [hn] at h
    cases h
    unfold namedL at hn
    repeat' split at hn
    all_goals (first | (cases hn; decide) | cases hn)
  | none =>
    rw [hn] at h
    dsimp only at h
    split at h
    · unfold codedL at h
      cases hc : codeL ((l.drop 2).take (e - 2)) with
      | none => rw [hc] at h; cases h
      | some n =>
        rw [hc] at h
        have e : (Utf8.encode (n : Int)).data.toList = x := Option.some.inj h
        rw [← e]
        exact (encode_len (n : Int)).2
    · cases h
theorem entityL_len (l : List UInt8) : (entityL l).1.length ≤ 4 := by
  unfold entityL
  dsimp only
  split
  · decide
  · split
    · exact meansL_len _ _ _ ‹_›
    · decide
theorem entityL_le (c : UInt8) (r : List UInt8) : (entityL (c :: r)).2 ≤ (c :: r).length := by
  unfold entityL
  dsimp only
  split
  · simp
  · rename_i h
    obtain ⟨k, e, h1, _⟩ := indexByte_some h
    have hk := (List.getElem?_eq_some_iff.1 h1).1
    rw [List.length_take] at hk
    rw [e]
    split
    · show k + 1 ≤ _; omega
    · simp
theorem decF_len : ∀ (f : Nat) (l : List UInt8), (decF f l).length ≤ 4 * l.length := by
  intro f
  induction f with
  | zero => intro l; simp [decF]
  | succ f ih =>
    intro l
    cases l with
    | nil => simp [decF]
    | cons c r =>
      rw [decF]
      split
      · have h1 := entityL_len (c :: r)
        have h2 := ih ((c :: r).drop (entityL (c :: r)).2)
        have h3 := entityL_pos (c :: r)
        rw [List.length_append]
        rw [List.length_drop] at h2
        simp only [List.length_cons] at h2 ⊢
        omega
      · have := ih r
        simp only [List.length_cons]
        omega
theorem decL_len (l : List UInt8) : (decL l).length ≤ 4 * l.length := decF_len _ l
theorem decL_all {l : List UInt8} (h : ∀ c ∈ l, c ≠ 38) : decL l = l := by
  have := decL_front h []
  rw [List.append_nil, decL_nil, List.append_nil] at this
  exact this
theorem decL_at {l : List UInt8} {k : Nat} (h : l[k]? = some 38) (hb : ∀ j x, j < k → l[j]? = some x → x ≠ 38) :
    decL l = l.take k ++ ((entityL (l.drop k)).1 ++ decL ((l.drop k).drop (entityL (l.drop k)).2)) := by
  obtain ⟨hk, e⟩ := List.getElem?_eq_some_iff.1 h
  have hd : l.drop k = 38 :: l.drop (k + 1) := by rw [List.drop_eq_getElem_cons hk, e]
  have h1 : l = l.take k ++ l.drop k := (List.take_append_drop k l).symm
  have hp : ∀ c ∈ l.take k, c ≠ 38 := by
    intro c hc
    obtain ⟨j, hj, ej⟩ := List.getElem_of_mem hc
    rw [List.length_take] at hj
    exact hb j c (by omega) (by rw [← ej, List.getElem_take]; exact List.getElem?_eq_getElem (by omega))
  have h2 := decL_front hp (l.drop k)
  rw [← h1] at h2
  rw [h2]
  conv => lhs; rw [hd, decL_amp]
  rw [← hd]
def strLen : Value → Nat
  | .string s => s.size
  | _ => 0
theorem pre_len {a b c : List UInt8} (h : a ++ b = c) : a.length ≤ c.length := by rw [← h, List.length_append]; omega
set_option maxHeartbeats 2000000 in
set_option maxRecDepth 100000 in
theorem Decode_any (s : ByteArray) (hs : s.size ≤ 100000000000) (w : World) (hl : LW w) : Calls Tryd.prog 19 #[.string s] w (RVal (.string (bs (decL (anewB s).data.toList))) w) := by
  have HA := Lib.hid (xanew_any s (by omega))
  have hts := anewB_size s
  obtain ⟨t, ht⟩ : ∃ t, anewB s = t := ⟨_, rfl⟩
  rw [ht] at HA hts ⊢
  obtain ⟨out, ho⟩ : ∃ out, decL t.data.toList = out := ⟨_, rfl⟩
  have hol : out.length ≤ 1600000000000 := by
    have := decL_len t.data.toList
    rw [ho] at this
    have e : t.data.toList.length = t.size := rfl
    omega
  rw [ho]
  have HOL := Lib.hid hol
  have HO := Lib.hid ho
  have HL := Lib.hid hl
  have HTS := Lib.hid (show t.size ≤ 400000000000 by omega)
  clear ht hts hs ho hol hl
  go_enter Tryd.func19, Tryd.ntmps19
  go_wp2_with (go_at_call 37; refine (HA.out _).mono ?_)
  rintro e w1 ⟨rfl, x1⟩
  have X1 := Lib.hid x1
  have BN := Lib.hid (Lx.BuF.new w1 w1.heap.size (Nat.le_refl _))
  have XA := Lib.hid ((Ext.refl w1).alloc (.cells #[.pointer none, .slice none 0 0] 46))
  clear x1
  go_upto_region 3 with fail
  obtain ⟨wA, hwA⟩ : ∃ wA : World, wA = w1.alloc (.cells #[.pointer none, .slice none 0 0] 46) := ⟨_, rfl⟩
  rw [← hwA] at BN XA ⊢
  clear hwA
  go_wp2_with fail
  go_loopw [0, 4, 5, 6] (fun sv _ _ _ wr => ∃ (r : ByteArray) (acc : List UInt8), sv = .string r ∧ r.size ≤ t.size ∧ acc ++ decL r.data.toList = out ∧ Lx.BuF w1.heap.size w1.heap.size (Lib.byteCells acc) wr ∧ Ext w1 wr) (fun sv _ _ _ _ => strLen sv)
  case atStart => exact ⟨t, [], rfl, Nat.le_refl _, HO.out, BN.out, XA.out⟩
  case round =>
    obtain ⟨r, acc, rfl, hrt, hacc, hbf, xr⟩ := hrel
    have HACC := Lib.hid hacc
    have HBF := Lib.hid hbf
    have XR := Lib.hid xr
    have HRT := Lib.hid hrt
    have hws := xr.size
    have HLA := Lib.hid (Nat.le_trans (pre_len hacc) HOL.out)
    clear hacc hbf xr hrt
    by_cases hz : r.size = 0
    · have e0 : (r.toList == ([] : List UInt8)) = true := etext_none hz
      have e1 : (r.toList != ([] : List UInt8)) = false := by simp [bne, e0]
      have hfin : acc = out := by
        have h := HACC.out
        rw [show r.data.toList = [] from List.eq_nil_of_length_eq_zero hz, decL_nil, List.append_nil] at h
        exact h
      subst hfin
      clear hz
      go_wp2_with (go_at_call 28; refine (Lx.String_any w1.heap.size w1.heap.size _ wr HBF.out hws).mono ?_)
      rintro e w2 ⟨rfl, x2⟩
      go_wp2_with fail
      go_ret
      exact ⟨rfl, X1.out.trans (Below.trans XR.out x2)⟩
    have e0 : (r.toList == ([] : List UInt8)) = false := etext_some hz
    have e1 : (r.toList != ([] : List UInt8)) = true := by simp [bne, e0]
    have HI := Lib.hid (IndexByte_any r 38 38 rfl)
    obtain ⟨z, hzz⟩ : ∃ z, Lib.indexByte r.data.toList 38 = z := ⟨_, rfl⟩
    rw [hzz] at HI
    have HZZ := Lib.hid hzz
    have HNZ := Lib.hid hz
    clear hzz hz
    by_cases hneg : z < 0
    · have hfin : acc ++ r.data.toList = out := by
        rw [← HACC.out, decL_all (indexByte_none (by rw [HZZ.out]; exact hneg))]
      have HFIN := Lib.hid hfin
      have hlen : acc.length + r.size ≤ 140737488355328 := by have := HLA.out; have := HRT.out; have := HTS.out; omega
      have HLN := Lib.hid hlen
      clear hfin hlen
      go_wp2_with (go_at_call 38; refine (HI.out _).mono ?_)
      rintro e w2 ⟨rfl, x2⟩
      have X2 := Lib.hid (XR.out.trans x2)
      have hs2 := X2.out.size
      have HB2 := Lib.hid (HBF.out.ext x2)
      clear x2
      go_wp2_with (go_at_call 39; refine (Lx.Write_any w1.heap.size w1.heap.size acc r out HFIN.out w2 HB2.out HLN.out hs2).mono ?_)
      rintro e w3 ⟨m3, rfl, _, hb3, x3, _⟩
      have X3 := Lib.hid (Below.trans X2.out x3)
      have hs3 := X3.out.size
      have HB3 := Lib.hid hb3
      clear x3 hb3
      go_wp2_with (go_at_call 28; refine (Lx.String_any w1.heap.size w1.heap.size out w3 HB3.out hs3).mono ?_)
      rintro e w4 ⟨rfl, x4⟩
      go_wp2_with fail
      go_ret
      exact ⟨rfl, X1.out.trans (Below.trans X3.out x4)⟩
    · obtain ⟨k, hk, hk38, hkb⟩ := indexByte_some (by rw [HZZ.out]; exact hneg)
      rw [HZZ.out] at hk
      subst hk
      have hkr : k < r.size := (List.getElem?_eq_some_iff.1 hk38).1
      have hat := decL_at hk38 hkb
      have hlen0 : r.data.toList.length = r.size := rfl
      obtain ⟨c, q, hcq⟩ : ∃ c q, r.data.toList.drop k = c :: q := by
        obtain ⟨h1, h2⟩ := List.getElem?_eq_some_iff.1 hk38
        exact ⟨_, _, List.drop_eq_getElem_cons h1⟩
      have hle : (entityL (r.data.toList.drop k)).2 ≤ r.size - k := by
        have h1 := entityL_le c q
        rw [← hcq, List.length_drop] at h1
        omega
      have hpos := entityL_pos (r.data.toList.drop k)
      have hx4 := entityL_len (r.data.toList.drop k)
      have hhead : (r.data.toList.drop k).head? = some 38 := by rw [List.head?_drop]; exact hk38
      have hcut : ∀ i j, r.extract i j = bs ((r.data.toList.drop i).take (j - i)) := fun i j => by
        have h := bs_cut r.data.toList i j
        rw [bs_list] at h; exact h
      have hp : (r.extract 0 k).data.toList = r.data.toList.take k := by rw [hcut, bs_data, List.drop_zero, Nat.sub_zero]
      have hd : (r.extract k r.size).data.toList = r.data.toList.drop k := by
        rw [hcut, bs_data]; exact List.take_of_length_le (by rw [List.length_drop]; omega)
      have hdz : (r.extract k r.size).size ≤ 1000000000000 := by
        show (r.extract k r.size).data.toList.length ≤ _
        rw [hd, List.length_drop]; have := HRT.out; have := HTS.out; omega
      have HENT := Lib.hid (fun W (hW : LW W) => (hd ▸ entity_any (r.extract k r.size) hdz (by rw [hd]; exact hhead) W hW : Calls Tryd.prog 40 #[.string (r.extract k r.size)] W (RTwo (.string (bs (entityL (r.data.toList.drop k)).1)) (.int .i64 (entityL (r.data.toList.drop k)).2) W)))
      obtain ⟨x, hx⟩ : ∃ x, (entityL (r.data.toList.drop k)).1 = x := ⟨_, rfl⟩
      obtain ⟨n, hn⟩ : ∃ n, (entityL (r.data.toList.drop k)).2 = n := ⟨_, rfl⟩
      rw [hx, hn] at HENT hat
      rw [hn] at hle hpos
      rw [hx] at hx4
      obtain ⟨acc1, ha1⟩ : ∃ a, acc ++ (r.extract 0 k).data.toList = a := ⟨_, rfl⟩
      obtain ⟨acc2, ha2⟩ : ∃ a, acc1 ++ (bs x).data.toList = a := ⟨_, rfl⟩
      have hnext : (r.extract (k + n) r.size).data.toList = (r.data.toList.drop k).drop n := by
        rw [hcut, bs_data, List.drop_drop]; exact List.take_of_length_le (by rw [List.length_drop]; omega)
      have hnz : (r.extract (k + n) r.size).size = r.size - (k + n) := by
        show (r.extract (k + n) r.size).data.toList.length = _
        rw [hnext, List.length_drop, List.length_drop]; omega
      have hacc2 : acc2 ++ decL (r.extract (k + n) r.size).data.toList = out := by
        rw [hnext, ← ha2, ← ha1, hp, bs_data, ← HACC.out, hat]; simp
      have HACC2 := Lib.hid hacc2
      have HNZ2 := Lib.hid hnz
      have HA1 := Lib.hid ha1
      have HA2 := Lib.hid ha2
      have hl1 : acc.length + (r.extract 0 k).size ≤ 140737488355328 := by
        have h1 : (r.extract 0 k).size = (r.data.toList.take k).length := by show (r.extract 0 k).data.toList.length = _; rw [hp]
        rw [h1, List.length_take]; have := HLA.out; have := HRT.out; have := HTS.out; omega
      have hl2 : acc1.length + (bs x).size ≤ 140737488355328 := by
        have h1 := pre_len hacc2
        have h2 := HOL.out
        have h3 : acc2.length = acc1.length + (bs x).size := by rw [← ha2, List.length_append]; rfl
        omega
      have HL1 := Lib.hid hl1
      have HL2 := Lib.hid hl2
      have kneg : decide ((k : Int) < 0) = false := decide_eq_false (by omega)
      have b1 : (0 : Int) ≤ (k : Int) := by omega
      have b2 : (k : Int) ≤ (r.size : Int) := by omega
      have hwk : IntKind.i64.wrap ((k : Int) + (n : Int)) = (k : Int) + (n : Int) := IntWalk.i64_in _ (by have := HRT.out; have := HTS.out; omega)
      have b3 : (0 : Int) ≤ (k : Int) + (n : Int) := by omega
      have b4 : (k : Int) + (n : Int) ≤ (r.size : Int) := by omega
      have hkn : ((k : Int) + (n : Int)).toNat = k + n := by omega
      have HPN := Lib.hid (And.intro hpos (And.intro hle hkr))
      clear hneg hk38 hkb hat hlen0 hcq hle hpos hx4 hhead hcut hp hd hdz hx hn ha1 ha2 hnext hnz hacc2 hl1 hl2 hkr
      go_wp2_with (go_at_call 38; refine (HI.out _).mono ?_)
      rintro e w2 ⟨rfl, x2⟩
      have X2 := Lib.hid (XR.out.trans x2)
      have hs2 := X2.out.size
      have HB2 := Lib.hid (HBF.out.ext x2)
      clear x2
      go_wp2_with (go_at_call 39; refine (Lx.Write_any w1.heap.size w1.heap.size acc (r.extract 0 k) acc1 HA1.out w2 HB2.out HL1.out hs2).mono ?_)
      rintro e w3 ⟨m3, rfl, _, hb3, x3, _⟩
      have X3 := Lib.hid (Below.trans X2.out x3)
      have HB3 := Lib.hid hb3
      clear x3 hb3
      go_wp2_with (go_at_call 40; refine (HENT.out _ (HL.out.ext (X1.out.trans X3.out))).mono ?_)
      rintro e w4 ⟨rfl, x4⟩
      have X4 := Lib.hid (Ext.trans (b := w3) X3.out x4)
      have hs4 := X4.out.size
      have HB4 := Lib.hid (HB3.out.ext x4)
      clear x4
      go_wp2_with (go_at_call 39; refine (Lx.Write_any w1.heap.size w1.heap.size acc1 (bs x) acc2 HA2.out w4 HB4.out HL2.out hs4).mono ?_)
      rintro e w5 ⟨m5, rfl, _, hb5, x5, _⟩
      have X5 := Lib.hid (Below.trans X4.out x5)
      have HB5 := Lib.hid hb5
      clear x5 hb5
      go_wp2_with fail
      go_roundw
      case rel => exact ⟨r.extract (k + n) r.size, acc2, by first | rfl | rw [hkn], by rw [HNZ2.out]; have := HRT.out; omega, HACC2.out, HB5.out, X5.out⟩
      case measure => simp only [strLen]; rw [HNZ2.out]; have := HPN.out; omega
end Go.Proofs.YtdafdoodegpdhaaDoor
