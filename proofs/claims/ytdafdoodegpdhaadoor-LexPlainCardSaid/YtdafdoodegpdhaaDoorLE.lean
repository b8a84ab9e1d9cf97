/- strings.IndexRune, IndexAny, ContainsAny at the three signs, of at most 7 bytes. -/
import Derived.Test.YtdafdoodegpdhaaDoorLD
import Derived.WalkMore
namespace Go.Proofs.YtdafdoodegpdhaaDoor
open Go Go.RowKit Go.BigFrame
set_option linter.unusedVariables false
set_option linter.unusedSimpArgs false

def signR (r : Int) : Prop := r = 43 ∨ r = 45 ∨ r = 95
def IRis (r : Int) (w : World) (e : Ending) (w' : World) : Prop := ∃ z : Int, e = .returned (.int .i64 z) ∧ (0 ≤ z ↔ signR r) ∧ Ext w w'
theorem index_high {x : UInt8} (hx : 128 ≤ x.toNat) (l : List UInt8) (h : ∀ b ∈ l, b.toNat < 128) : Lib.indexByte l x = -1 := by
  induction l with
  | nil => rfl
  | cons b r ih =>
    unfold Lib.indexByte
    have hb : (b == x) = false := by rw [beq_eq_false_iff_ne]; rintro rfl; have := h b (by simp); omega
    rw [if_neg (by simp [hb]), ih fun c hc => h c (by simp [hc])]
    rfl
theorem encode_high {n : Nat} (hn : n < 55296 ∨ 57344 ≤ n ∧ n ≤ 1114111) (h128 : 128 ≤ n) : ((Utf8.encode (n : Int)).size = 2 ∨ (Utf8.encode (n : Int)).size = 3 ∨ (Utf8.encode (n : Int)).size = 4) ∧ ∀ b ∈ (Utf8.encode (n : Int)).data.toList, 128 ≤ b.toNat := by
  have e := encode_nat hn
  have hs : ∀ b : ByteArray, b.size = b.data.toList.length := fun _ => rfl
  rw [hs (Utf8.encode (n : Int)), e]
  rw [if_neg (by omega)]
  split
  · exact ⟨.inl rfl, by intro b hb; simp only [List.mem_cons, List.not_mem_nil, or_false] at hb; rcases hb with h | h <;> (rw [h, ofNat_nat (by omega)]; omega)⟩
  · split
    · exact ⟨.inr (.inl rfl), by intro b hb; simp only [List.mem_cons, List.not_mem_nil, or_false] at hb; rcases hb with h | h | h <;> (rw [h, ofNat_nat (by omega)]; omega)⟩
    · exact ⟨.inr (.inr rfl), by intro b hb; simp only [List.mem_cons, List.not_mem_nil, or_false] at hb; rcases hb with h | h | h | h <;> (rw [h, ofNat_nat (by omega)]; omega)⟩
set_option maxHeartbeats 1000000 in
set_option maxRecDepth 100000 in
theorem IndexRune_low (r : Int) (h0 : 0 ≤ r) (h1 : r < 128) (w : World) : Calls Tryd.prog 124 #[.string ⟨#[43, 45, 95]⟩, .int .i32 r] w (IRis r w) := by
  obtain ⟨c, hc⟩ : ∃ c : UInt8, r = (c.toNat : Int) := ⟨UInt8.ofNat r.toNat, by rw [ofNat_nat (by omega)]; omega⟩
  subst hc
  have hw : IntKind.u8.wrap (c.toNat : Int) = (c.toNat : Int) := IntWalk.u8_in _ (by omega)
  have hz : 0 ≤ Lib.indexByte [43, 45, 95] c ↔ signR (c.toNat : Int) := by
    unfold signR
    revert c
    intro c _ _ _
    have h := all_bytes (p := fun c => (0 ≤ Lib.indexByte [43, 45, 95] c ↔ ((c.toNat : Int) = 43 ∨ (c.toNat : Int) = 45 ∨ (c.toNat : Int) = 95))) (by decide +kernel) c
    exact h
  have HZ := Lib.hid hz
  have HI := Lib.hid (IndexByte_any ⟨#[43, 45, 95]⟩ c (c.toNat : Int) rfl)
  clear hz
  go_enter Tryd.func124, Tryd.ntmps124
  go_wp2_with (go_at_call 38; refine (HI.out _).mono ?_)
  rintro e w1 ⟨rfl, x1⟩
  go_wp2_with fail
  go_ret
  exact ⟨_, rfl, HZ.out, x1⟩
set_option maxHeartbeats 2000000 in
set_option maxRecDepth 100000 in
theorem IndexRune_high (n : Nat) (h : n < 55296 ∨ 57344 ≤ n ∧ n ≤ 1114111) (h128 : 128 ≤ n) (hE : n ≠ 65533) (w : World) : Calls Tryd.prog 124 #[.string ⟨#[43, 45, 95]⟩, .int .i32 (n : Int)] w (IRis (n : Int) w) := by
  have hv : Utf8.valid (n : Int) = true := by unfold Utf8.valid; simp; omega
  have HV := Lib.hid (ValidRune_ok (n : Int) hv)
  obtain ⟨h234, hb⟩ := encode_high h h128
  have k1 : decide ((n : Int) < 128) = false := decide_eq_false (by omega)
  have k2 : decide (n < 128) = false := decide_eq_false (by omega)
  have k3 : ((n : Int) == 65533) = false := by rw [beq_eq_false_iff_ne]; omega
  have FIN := Lib.hid (fun (w' : World) (x : Ext w w') => (⟨-1, rfl, ⟨fun h => absurd h (by decide), fun h => by unfold signR at h; omega⟩, x⟩ : IRis (n : Int) w (.returned (.int .i64 (-1))) w'))
  have hcv : ∀ W : World, (Go.convert 21 9 (.int .i32 (n : Int))).run Tryd.prog W = .ok (.string (Utf8.encode (n : Int))) W := by
    intro W
    simp [convert, run_underlying Tryd.underlying21, run_underlying Tryd.underlying9, Conv.intToString]
  obtain ⟨e, he⟩ : ∃ e, Utf8.encode (n : Int) = e := ⟨_, rfl⟩
  rw [he] at h234 hb hcv
  have HB := Lib.hid hb
  clear he hb hv h hE h128
  rcases h234 with h2 | h3 | h4
  ·
    have hsz : e.size = 2 := h2
    have hlast : 1 < e.size := by omega
    obtain ⟨x, hx⟩ : ∃ x, e[1]'hlast = x := ⟨_, rfl⟩
    have hx128 : 128 ≤ x.toNat := HB.out x (by rw [← hx]; exact byte_mem.2 ⟨1, hlast, rfl⟩)
    have hix : ∀ W : World, (Instr.index 9 (.string e) (.int .i64 1)).run Tryd.prog W = .ok (.int .u8 (x.toNat : Int)) W := by
      intro W
      rw [run_index_string W 9 e .i64 1 Tryd.underlying9, dif_pos ⟨by omega, by omega⟩]
      exact congrArg (fun y : UInt8 => Result.ok (Value.int .u8 (y.toNat : Int)) W) hx
    have hneg : Lib.indexByte ((⟨#[43, 45, 95]⟩ : ByteArray).extract 2 3).data.toList x = -1 := index_high hx128 _ (by decide +kernel)
    have HI := Lib.hid (fun W => hneg ▸ IndexByte_any ((⟨#[43, 45, 95]⟩ : ByteArray).extract 2 3) x (x.toNat : Int) rfl W)
    have kne : ((45 : Int) == (x.toNat : Int)) = false := by rw [beq_eq_false_iff_ne]; omega
    have kne2 : ((45 : Int) != (x.toNat : Int)) = true := by simp [bne, kne]
    clear h2 hlast hx hx128 hneg
    go_enter Tryd.func124, Tryd.ntmps124
    go_wp2_with (go_at_call 78; refine (HV.out _).mono ?_)
    rintro e1 w1 ⟨rfl, x1⟩
    have X1 := Lib.hid x1
    clear x1
    go_wp2_with fail
    go_step3
    go_wp2_with fail
    go_loopw [9, 10, 11, 12] (fun i _ _ _ wr => i = .int .i64 1 ∧ Ext w wr) (fun _ _ _ _ _ => 0)
    case atStart => exact ⟨rfl, X1.out⟩
    case round =>
      obtain ⟨rfl, xr⟩ := hrel
      have XR := Lib.hid xr
      clear xr
      have hix0 : ∀ W : World, (Instr.index 9 (.string ⟨#[43, 45, 95]⟩) (.int .i64 1)).run Tryd.prog W = .ok (.int .u8 45) W := by
        intro W
        rw [run_index_string W 9 ⟨#[43, 45, 95]⟩ .i64 1 Tryd.underlying9, dif_pos ⟨by decide, by decide⟩]
        rfl
      go_wp2_with fail
      go_step3
      go_upto_region 6 with fail
      refine wp_region_ext (by kernel_rfl) (by kernel_rfl) ?_
      repeat (go_big_quiet_step (fail))
      refine wpQuiet_nil ?_
      rintro _ ⟨u0, rfl⟩
      have XU0 := Lib.hid (XR.out.trans u0.ext)
      go_upto_region 7 with fail
      refine wp_region_ext (by kernel_rfl) (by kernel_rfl) ?_
      repeat (go_big_quiet_step ((go_at_call 38; exact inExt (HI.out _))))
      refine wpQuiet_nil ?_
      rintro _ ⟨u, rfl⟩
      go_wp2_with fail
      rw [Exit.noGoto_ret]
      go_ret
      exact FIN.out _ (XU0.out.trans u.ext)
  ·
    have hsz : e.size = 3 := h3
    have hlast : 2 < e.size := by omega
    obtain ⟨x, hx⟩ : ∃ x, e[2]'hlast = x := ⟨_, rfl⟩
    have hx128 : 128 ≤ x.toNat := HB.out x (by rw [← hx]; exact byte_mem.2 ⟨2, hlast, rfl⟩)
    have hix : ∀ W : World, (Instr.index 9 (.string e) (.int .i64 2)).run Tryd.prog W = .ok (.int .u8 (x.toNat : Int)) W := by
      intro W
      rw [run_index_string W 9 e .i64 2 Tryd.underlying9, dif_pos ⟨by omega, by omega⟩]
      exact congrArg (fun y : UInt8 => Result.ok (Value.int .u8 (y.toNat : Int)) W) hx
    have hneg : Lib.indexByte ((⟨#[43, 45, 95]⟩ : ByteArray).extract 3 3).data.toList x = -1 := index_high hx128 _ (by decide +kernel)
    have HI := Lib.hid (fun W => hneg ▸ IndexByte_any ((⟨#[43, 45, 95]⟩ : ByteArray).extract 3 3) x (x.toNat : Int) rfl W)
    have kne : ((95 : Int) == (x.toNat : Int)) = false := by rw [beq_eq_false_iff_ne]; omega
    have kne2 : ((95 : Int) != (x.toNat : Int)) = true := by simp [bne, kne]
    clear h3 hlast hx hx128 hneg
    go_enter Tryd.func124, Tryd.ntmps124
    go_wp2_with (go_at_call 78; refine (HV.out _).mono ?_)
    rintro e1 w1 ⟨rfl, x1⟩
    have X1 := Lib.hid x1
    clear x1
    go_wp2_with fail
    go_step3
    go_wp2_with fail
    go_loopw [9, 10, 11, 12] (fun i _ _ _ wr => i = .int .i64 2 ∧ Ext w wr) (fun _ _ _ _ _ => 0)
    case atStart => exact ⟨rfl, X1.out⟩
    case round =>
      obtain ⟨rfl, xr⟩ := hrel
      have XR := Lib.hid xr
      clear xr
      have hix0 : ∀ W : World, (Instr.index 9 (.string ⟨#[43, 45, 95]⟩) (.int .i64 2)).run Tryd.prog W = .ok (.int .u8 95) W := by
        intro W
        rw [run_index_string W 9 ⟨#[43, 45, 95]⟩ .i64 2 Tryd.underlying9, dif_pos ⟨by decide, by decide⟩]
        rfl
      go_wp2_with fail
      go_step3
      go_upto_region 6 with fail
      refine wp_region_ext (by kernel_rfl) (by kernel_rfl) ?_
      repeat (go_big_quiet_step (fail))
      refine wpQuiet_nil ?_
      rintro _ ⟨u0, rfl⟩
      have XU0 := Lib.hid (XR.out.trans u0.ext)
      go_upto_region 7 with fail
      refine wp_region_ext (by kernel_rfl) (by kernel_rfl) ?_
      repeat (go_big_quiet_step ((go_at_call 38; exact inExt (HI.out _))))
      refine wpQuiet_nil ?_
      rintro _ ⟨u, rfl⟩
      go_wp2_with fail
      rw [Exit.noGoto_ret]
      go_ret
      exact FIN.out _ (XU0.out.trans u.ext)
  · have hsz : e.size = 4 := h4
    clear h4
    go_enter Tryd.func124, Tryd.ntmps124
    go_wp2_with (go_at_call 78; refine (HV.out _).mono ?_)
    rintro e1 w1 ⟨rfl, x1⟩
    have X1 := Lib.hid x1
    clear x1
    go_wp2_with fail
    go_step3
    go_wp2_with fail
    go_loopw [9, 10, 11, 12] (fun i _ _ _ wr => i = .int .i64 3 ∧ Ext w wr) (fun _ _ _ _ _ => 0)
    case atStart => exact ⟨rfl, X1.out⟩
    case round =>
      obtain ⟨rfl, xr⟩ := hrel
      have XR := Lib.hid xr
      clear xr
      go_wp2_with fail
      rw [Exit.noGoto_ret]
      go_ret
      exact FIN.out _ XR.out
set_option maxHeartbeats 1000000 in
set_option maxRecDepth 100000 in
theorem IndexRune_bad (w : World) : Calls Tryd.prog 124 #[.string ⟨#[43, 45, 95]⟩, .int .i32 65533] w (IRis 65533 w) := by
  go_enter Tryd.func124, Tryd.ntmps124
  go_wp2_with fail
  go_loopw [5, 6] (fun _ _ wr => ∃ pos : Nat, wr.heap[w.heap.size]? = some (.stringIter ⟨#[43, 45, 95]⟩ pos) ∧ Ext w wr ∧ pos ≤ 3) (fun _ _ wr => 3 - wr.iterPos w.heap.size)
  case atStart => exact ⟨0, by have := World.iter_heap w ⟨#[43, 45, 95]⟩ 0; simpa using this, (Ext.refl w).alloc _, Nat.zero_le _⟩
  case round =>
    obtain ⟨pos, hit, xr, hle⟩ := hrel
    have hsz : w.heap.size < wr.heap.size := (Array.getElem?_eq_some_iff.1 hit).1
    by_cases hp : pos < (⟨#[43, 45, 95]⟩ : ByteArray).size
    · have hp3 : pos < 3 := hp
      have hdec : Utf8.decode ⟨#[43, 45, 95]⟩ pos = ((if pos = 0 then 43 else if pos = 1 then 45 else 95), 1) := by
        have h : pos = 0 ∨ pos = 1 ∨ pos = 2 := by omega
        rcases h with rfl | rfl | rfl <;> decide +kernel
      have hnx : ∀ ty, (Instr.next (.pointer (some ⟨w.heap.size, 0, none⟩)) true ty).run Tryd.prog wr = _ := fun ty => Lib.run_next_any_at wr w.heap.size ⟨#[43, 45, 95]⟩ pos ty hit hp
      have hit2 := Lib.iterAt_heap wr w.heap.size ⟨#[43, 45, 95]⟩ pos (pos + 1) hit
      have xr2 := xr.iterAt (Nat.le_refl _) ⟨#[43, 45, 95]⟩ (pos + 1)
      rw [hdec] at hnx
      obtain ⟨v, hv, hv2⟩ : ∃ v : Nat, (if pos = 0 then 43 else if pos = 1 then 45 else 95) = v ∧ v < 128 := ⟨_, rfl, by split; decide; split <;> decide⟩
      rw [hv] at hnx
      have HIT := Lib.hid hit
      have HIT2 := Lib.hid hit2
      have XR2 := Lib.hid xr2
      have k1 : ((v : Int) == 65533) = false := by rw [beq_eq_false_iff_ne]; omega
      clear hit hit2 xr xr2 hdec hv hp
      go_wp2_with fail
      go_roundw
      case rel => exact ⟨pos + 1, HIT2.out, XR2.out, by omega⟩
      case measure => simp only [World.iterPos, HIT2.out, HIT.out]; omega
    · have hnx : ∀ ty, (Instr.next (.pointer (some ⟨w.heap.size, 0, none⟩)) true ty).run Tryd.prog wr = _ := fun ty => Lib.run_next_end_at wr w.heap.size ⟨#[43, 45, 95]⟩ pos ty hit hp
      have XR := Lib.hid xr
      clear xr
      go_wp2
      go_ret
      exact ⟨-1, rfl, ⟨fun h => absurd h (by decide), fun h => by unfold signR at h; omega⟩, XR.out⟩
theorem IndexRune_any (r : Int) (h : Utf8.valid r = true) (w : World) : Calls Tryd.prog 124 #[.string ⟨#[43, 45, 95]⟩, .int .i32 r] w (IRis r w) := by
  obtain ⟨n, rfl, hn⟩ := valid_cases h
  by_cases h1 : n < 128
  · exact IndexRune_low _ (by omega) (by omega) w
  · by_cases h2 : n = 65533
    · subst h2; exact IndexRune_bad w
    · exact IndexRune_high n hn (by omega) h2 w
end Go.Proofs.YtdafdoodegpdhaaDoor
