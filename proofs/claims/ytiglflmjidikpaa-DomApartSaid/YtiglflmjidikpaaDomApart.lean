/- DomApart: what is done to a node loose from the host is not seen in the host's tree; what is done to a copy is not seen in the tree. No conditions. -/
import Derived.Test.YtiglflmjidikpaaApart
import Derived.Test.YtiglflmjidikpaaDomSound
namespace Go.Proofs.Ytiglflmjidikpaa
open Go Go.RowKit Go.BigFrame Go.ChangeShapes Go.WideShapes
set_option linter.unusedVariables false
set_option linter.unusedSimpArgs false

theorem sit_copy {w0 w : World} {tb : Nat} {T : Tr} {g : World} (h : Sit w0 w tb T g) {d : Nat → Nat} (hw : WF T d) (hA : AttrsOk T) :
    Calls Try.prog 20 #[.pointer (some ⟨tb, 0, none⟩)] w (fun e w' => ∃ tc, e = .returned (.pointer (some ⟨tc, 0, none⟩)) ∧ InTree w w' tc) := by
  obtain ⟨own, ptr, hT, hO, _⟩ := h.out
  refine (Copy_any hT hO hw hA).mono ?_
  rintro e w' ⟨tc, own', ptr', rfl, hT', hO', hx', hf'⟩
  exact ⟨tc, rfl, own', ptr', T, hT', hO', ⟨⟨d, hw⟩, hA⟩, hx', hf'⟩
def turned : ByteArray := ⟨#[116, 117, 114, 110, 101, 100]⟩
set_option maxRecDepth 100000 in
set_option maxHeartbeats 8000000 in
theorem domApart_walk (cap : Int) (hc : (Lit.int .i64 cap).wf = true) (deep : Int) (hd : (Lit.int .i64 deep).wf = true) {w : World} (v : Value) (l : List Cl) (hl : CallsRd w l v) (v2 : Value) (l2 : List Cl) (hl2 : CallsRd w l2 v2) :
    Calls Try.prog 3 #[.int .i64 cap, .int .i64 deep, v, v2] w (RBool true w) := by
  have HL := Lib.hid hl
  obtain ⟨ao, vcap, rfl, _⟩ := hl
  obtain ⟨ao2, vcap2, rfl, hc21, hc22, hno2, hcl2⟩ := hl2
  have HL2 := Lib.hid (show CallsRd w l2 (.slice ao2 l2.length vcap2) from ⟨ao2, vcap2, rfl, hc21, hc22, hno2, hcl2⟩)
  have HNO := Lib.hid hno2
  have HCL := Lib.hid hcl2
  unfold maxLen at hc22
  clear hc hd hno2 hcl2
  go_enter Try.func3, Try.ntmps3
  go_wp2_with fail
  refine (Heavy_any HL.out).mono ?_
  rintro e w1 ⟨b, rfl, hx1, hb⟩
  cases b with
  | true =>
    go_wp2_with (go_at_call 16; refine (awake_any _).mono ?_; rintro e w2 ⟨rfl, hx2⟩)
    go_ret
    exact ⟨rfl, hx1.trans hx2⟩
  | false =>
    have HG := Lib.hid (hb rfl)
    clear hb
    go_wp2_with fail
    refine (Heavy_any (HL2.out.ext hx1)).mono ?_
    rintro e w2 ⟨b, rfl, hx2, hb⟩
    replace hx2 := hx1.trans hx2
    clear hx1
    cases b with
    | true =>
      go_wp2_with (go_at_call 16; refine (awake_any _).mono ?_; rintro e w3 ⟨rfl, hx3⟩)
      go_ret
      exact ⟨rfl, hx2.trans hx3⟩
    | false =>
      have HG2 := Lib.hid (hb rfl).2
      clear hb
      go_wp2_with fail
      refine (Played_any cap deep (HL.out.ext hx2) HG.out).mono ?_
      rintro e w3 (⟨rfl, hx3⟩ | ⟨tb, rfl, ht⟩)
      · go_wp2_with (go_at_call 16; refine (awake_any _).mono ?_; rintro e w4 ⟨rfl, hx4⟩)
        go_ret
        exact ⟨rfl, (hx2.trans hx3).trans hx4⟩
      · obtain ⟨T, ⟨⟨d, hw⟩, hA⟩, hs⟩ := ht.sit
        obtain ⟨m, hm⟩ : ∃ m, m = T.plain ((0 : Nat) : Int) := ⟨_, rfl⟩
        have fm : m.fair = true := hm ▸ plain_fair hA _
        obtain ⟨rd, r1, _, _⟩ := hw.root
        have HS := Lib.hid hs
        have HX2 := Lib.hid hx2
        have HW := Lib.hid hw
        have HAA := Lib.hid hA
        have Hm := Lib.hid hm
        have FM := Lib.hid fm
        have HR := Lib.hid r1
        clear ht hs hx2 hw hA hm fm r1
        go_wp2_with fail
        refine (sit_plain HS.out HW.out HAA.out HR.out Hm.out.symm (z := 0) rfl).mono ?_
        rintro e w5 ⟨a5, ac5, k5, kc5, g5, rfl, hr5, hs5, hc5⟩
        have HS5 := Lib.hid hs5
        have HR5 := Lib.hid hr5
        clear hs5 hr5 hc5
        go_wp2_with fail
        refine (sit_count HS5.out).mono ?_
        rintro e w6 ⟨rfl, hs6⟩
        have xm := (Ext.refl w6).alloc (.cells #[.int .i64 m.tag, .slice a5 m.attrs.length ac5, .string m.text, .slice k5 m.kids.length kc5] 30)
        have bM := heap_alloc_new w6 (.cells #[.int .i64 m.tag, .slice a5 m.attrs.length ac5, .string m.text, .slice k5 m.kids.length kc5] 30)
        obtain ⟨g7, hs7, hc7, hn7⟩ := hs6.grow xm
        have HBM := Lib.hid (Box4.of bM (Nat.le_refl _) hn7)
        have HR7 := Lib.hid (HR5.out.cells hc7)
        have HS7 := Lib.hid hs7
        clear xm bM hs7 hc7 hn7 hs6
        go_wp2_with fail
        obtain ⟨wc, hwc⟩ : ∃ wc : World, wc = w6.alloc (.cells #[.int .i64 m.tag, .slice a5 m.attrs.length ac5, .string m.text, .slice k5 m.kids.length kc5] 30) := ⟨_, rfl⟩
        rw [← hwc] at HS7 ⊢
        clear hwc
        refine (sit_copy HS7.out HW.out HAA.out).mono ?_
        rintro e w8 ⟨tc, rfl, ht8⟩
        have HT8 := Lib.hid ht8
        have HXC := Lib.hid (HX2.out.trans HS7.out.before)
        clear ht8
        go_wp2_with fail
        go_loopw [13, 14] (fun i _ wr => ∃ k : Nat, k ≤ l2.length ∧ i = .int .i64 k ∧ InTree wc wr tc) (fun i _ _ => l2.length - (intOf i).toNat)
        case atStart => exact ⟨0, Nat.zero_le _, rfl, HT8.out⟩
        case round =>
          obtain ⟨k, hk, rfl, hin⟩ := hrel
          clear HT8
          have HIN := Lib.hid hin
          have hwr := hin.before
          clear hin
          by_cases hkk : k < l2.length
          · obtain ⟨c, hc⟩ : ∃ c, l2[k]? = some c := ⟨l2[k], by simp [hkk]⟩
            obtain ⟨q1', q2', q3', q4'⟩ := HG2.out c (List.mem_of_getElem? hc)
            cases ao2 with
            | none => exact absurd (HNO.out rfl) (by omega)
            | some a =>
              obtain ⟨b, off, sp⟩ := a
              obtain ⟨av, c6, c7, c8, c9, q0, q1, q2, q3, q4, q5, q6, q7, q8, q9, hra, hrn⟩ := HCL.out _ rfl k c hc
              obtain ⟨aa, acap, rfl, hac⟩ := hra.len_of
              obtain ⟨n0, n1, en, hna, hnk⟩ := hrn.open
              obtain ⟨naa, nac, en0, _⟩ := hna.len_of
              obtain ⟨nka, nkc, en1, _⟩ := hnk
              subst en0 en1
              cases en
              have X := (HXC.out.trans hwr).cells
              replace q0 := X _ _ q0
              replace q1 := X _ _ q1
              replace q2 := X _ _ q2
              replace q3 := X _ _ q3
              replace q4 := X _ _ q4
              replace q5 := X _ _ q5
              replace q6 := X _ _ q6
              replace q7 := X _ _ q7
              replace q8 := X _ _ q8
              replace q9 := X _ _ q9
              rw [add_pos _ _ (by decide)] at q1 q2 q3 q4 q5 q6 q7 q8 q9
              have HRA := Lib.hid (hra.ext HXC.out)
              have HWR := Lib.hid hwr
              clear X hra hrn hna hc hwr q3' q4'
              go_upto_region 12 with fail
              have bM := heap_alloc_new wr (.cells #[.int .i64 c.what, .int .i64 c.a, .int .i64 c.b, .int .i64 c.c, .string c.s, .slice aa c.attrs.length acap, .int .i64 c.n.tag, .slice naa c.n.attrs.length nac, .string c.n.text, .slice nka c.n.kids.length nkc] 35)
              have xm := (Ext.refl wr).alloc (.cells #[.int .i64 c.what, .int .i64 c.a, .int .i64 c.b, .int .i64 c.c, .string c.s, .slice aa c.attrs.length acap, .int .i64 c.n.tag, .slice naa c.n.attrs.length nac, .string c.n.text, .slice nka c.n.kids.length nkc] 35)
              obtain ⟨wm, hwm⟩ : ∃ wm : World, wm = wr.alloc (.cells #[.int .i64 c.what, .int .i64 c.a, .int .i64 c.b, .int .i64 c.c, .string c.s, .slice aa c.attrs.length acap, .int .i64 c.n.tag, .slice naa c.n.attrs.length nac, .string c.n.text, .slice nka c.n.kids.length nkc] 35) := ⟨_, rfl⟩
              rw [← hwm] at bM xm ⊢
              have HBX := Lib.hid (HIN.out.box xm bM)
              clear q0 q1 q2 q3 q4 q5 q6 q7 q8 q9 HIN hwm xm
              have u1 := cellOf bM (i := 1) (v := .int .i64 c.a) rfl
              have u2 := cellOf bM (i := 2) (v := .int .i64 c.b) rfl
              have u3 := cellOf bM (i := 3) (v := .int .i64 c.c) rfl
              clear bM
              go_wp2_with fail
              refine (HBX.out.play fun own ptr T hT hO hG hA => Insert_play hT hO hG _ _ _).mono ?_
              rintro e w12 ⟨⟨v12, rfl⟩, hk2⟩
              clear u1 u2 u3
              have hb2 := hk2.obj; have x21 := cellOf hb2 (i := 1) (v := .int .i64 c.a) rfl; have x22 := cellOf hb2 (i := 2) (v := .int .i64 c.b) rfl; have x23 := cellOf hb2 (i := 3) (v := .int .i64 c.c) rfl; have x24 := cellOf hb2 (i := 4) (v := .string c.s) rfl; have x25 := cellOf hb2 (i := 5) (v := .slice aa c.attrs.length acap) rfl; have HK2 := Lib.hid hk2; clear hk2 hb2
              go_wp2_with fail
              refine (HK2.out.play fun own ptr T hT hO hG hA => Remove_play hT hO hG _).mono ?_
              rintro e w13 ⟨⟨v13, rfl⟩, hk3⟩
              clear x21 x22 x23 x24 x25
              have hb3 := hk3.obj; have x31 := cellOf hb3 (i := 1) (v := .int .i64 c.a) rfl; have x32 := cellOf hb3 (i := 2) (v := .int .i64 c.b) rfl; have x33 := cellOf hb3 (i := 3) (v := .int .i64 c.c) rfl; have x34 := cellOf hb3 (i := 4) (v := .string c.s) rfl; have x35 := cellOf hb3 (i := 5) (v := .slice aa c.attrs.length acap) rfl; have HK3 := Lib.hid hk3; clear hk3 hb3
              go_wp2_with fail
              refine (HK3.out.play fun own ptr T hT hO hG hA => SetText_play hT hO hG _ c.s (by omega)).mono ?_
              rintro e w14 ⟨⟨v14, rfl⟩, hk4⟩
              clear x31 x32 x33 x34 x35
              have hb4 := hk4.obj; have x41 := cellOf hb4 (i := 1) (v := .int .i64 c.a) rfl; have x42 := cellOf hb4 (i := 2) (v := .int .i64 c.b) rfl; have x43 := cellOf hb4 (i := 3) (v := .int .i64 c.c) rfl; have x44 := cellOf hb4 (i := 4) (v := .string c.s) rfl; have x45 := cellOf hb4 (i := 5) (v := .slice aa c.attrs.length acap) rfl; have HK4 := Lib.hid hk4; clear hk4 hb4
              go_wp2_with fail
              refine (HK4.out.play fun own ptr T hT hO hG hA => SetAttrs_play hT hO hG _ (HRA.out.ext HK4.out.tree.before) (by omega)).mono ?_
              rintro e w15 ⟨⟨v15, rfl⟩, hk5⟩
              clear x41 x42 x43 x44 x45
              have hb5 := hk5.obj; have x51 := cellOf hb5 (i := 1) (v := .int .i64 c.a) rfl; have x52 := cellOf hb5 (i := 2) (v := .int .i64 c.b) rfl; have x53 := cellOf hb5 (i := 3) (v := .int .i64 c.c) rfl; have x54 := cellOf hb5 (i := 4) (v := .string c.s) rfl; have x55 := cellOf hb5 (i := 5) (v := .slice aa c.attrs.length acap) rfl; have HK5 := Lib.hid hk5; clear hk5 hb5
              go_wp2_with fail
              refine (HK5.out.play fun own ptr T hT hO hG hA => Drop_play hT hO hG _).mono ?_
              rintro e w16 ⟨⟨v16, rfl⟩, hk6⟩
              clear x51 x52 x53 x54 x55
              have HK6 := Lib.hid hk6
              clear hk6
              go_wp2_with fail
              go_roundw
              case rel => exact ⟨k + 1, by omega, by go_num, HK6.out.tree⟩
              case measure => simp [intOf]; omega
          · have hs9 := HS7.out.ext hwr
            have hk9 := hs9.box HBM.out
            have HS9 := Lib.hid (hs9.ext ((Ext.refl _).drew))
            clear hs9 HIN hwr
            go_upto_region 17 with fail
            go_region_held3 (fun w' => w'.cell? ⟨w6.heap.size, 0, none⟩ = some (.int .i64 m.tag) ∧ w'.cell? ⟨w6.heap.size, 1, none⟩ = some (.slice a5 m.attrs.length ac5) ∧ w'.cell? ⟨w6.heap.size, 2, none⟩ = some (.string m.text) ∧ w'.cell? ⟨w6.heap.size, 3, none⟩ = some (.slice k5 m.kids.length kc5))
              (first | exact hkeep | exact hk9 | go_keep)
              (first
              | (go_at_call 19; refine (sit_count HS11.out).mono ?_; rintro e w12 ⟨rfl, hs12⟩; have hkeep := hs12.box HB10.out; have HS12 := Lib.hid hs12; clear hs12)
              | (go_at_call 26; refine (sit_sameNode HS10.out FM.out HR10.out HRm10.out).mono ?_; rintro e w11 ⟨rfl, hs11⟩; have hkeep := hs11.box HB10.out; have HS11 := Lib.hid hs11; clear hs11)
              | (go_at_call 18; refine (sit_plain HS9.out HW.out HAA.out HR.out Hm.out.symm (z := 0) rfl).mono ?_; rintro e w10 ⟨a10, ac10, k10, kc10, g10, rfl, hr10, hs10, hc10⟩; have hkeep := hs10.box (HBM.out.cells hc10); have HS10 := Lib.hid hs10; have HR10 := Lib.hid hr10; have HRm10 := Lib.hid (HR7.out.cells hc10); have HB10 := Lib.hid (HBM.out.cells hc10); clear hs10 hr10 hc10))
            have GT := Lib.hid (show GoodT T from ⟨⟨d, HW.out⟩, HAA.out⟩)
            clear hk9 hkeep
            go_wp2_with fail
            go_loopw [15] (fun i wr => ∃ (id : Nat) (T' : Tr), 1 ≤ id ∧ id ≤ 100 ∧ i = .int .i64 id ∧ GoodT T' ∧ T'.plain ((0 : Nat) : Int) = m ∧ Sit w2 wr tb T' g10) (fun i _ => 100 - (intOf i).toNat)
            case atStart => exact ⟨1, T, Nat.le_refl _, by decide, rfl, GT.out, Hm.out.symm, HS12.out⟩
            case round =>
              obtain ⟨id, T', h1, h2, rfl, hG', hm', hs'⟩ := hrel
              have HG' := Lib.hid hG'
              have HM' := Lib.hid hm'
              have HS' := Lib.hid hs'
              clear hG' hm' HS12
              by_cases hlt : id < 100
              · clear hs'
                cases hg : T'.get? (id : Int) with
                | none =>
                  have HN := Lib.hid hg
                  clear hg
                  go_wp2_with (go_at_call 27; refine (sit_has' HS'.out HN.out).mono ?_; rintro e w13 ⟨rfl, hs13⟩; have HS13 := Lib.hid hs13; clear hs13)
                  go_roundw
                  case rel => exact ⟨id + 1, T', by omega, by omega, by go_num, HG'.out, HM'.out, HS13.out⟩
                  case measure => simp [intOf]; omega
                | some nd =>
                  obtain ⟨i', hi', hn⟩ := nat_of hg
                  obtain rfl : i' = id := by omega
                  have HN := Lib.hid hg
                  have HI := Lib.hid hn
                  clear hg hn hi'
                  obtain ⟨⟨d', hw'⟩, hA'⟩ := HG'.out
                  have HW' := Lib.hid hw'
                  clear hw' hA'
                  cases hliv : T'.within i' 0 with
                  | true =>
                    have HV := Lib.hid hliv
                    clear hliv
                    go_wp2_with (first
                      | (go_at_call 27; refine (sit_has'' HS'.out HN.out).mono ?_; rintro e w13 ⟨rfl, hs13⟩; have HS13 := Lib.hid hs13; clear hs13)
                      | (go_at_call 28; refine (sit_live HS13.out HW'.out HI.out HV.out).mono ?_; rintro e w14 ⟨rfl, hs14⟩; have HS14 := Lib.hid hs14; clear hs14))
                    go_roundw
                    case rel => exact ⟨i' + 1, T', by omega, by omega, by go_num, HG'.out, HM'.out, HS14.out⟩
                    case measure => simp [intOf]; omega
                  | false =>
                    have HV := Lib.hid hliv
                    clear hliv
                    go_wp2_with (first
                      | (go_at_call 27; refine (sit_has'' HS'.out HN.out).mono ?_; rintro e w13 ⟨rfl, hs13⟩; have HS13 := Lib.hid hs13; clear hs13)
                      | (go_at_call 28; refine (sit_live HS13.out HW'.out HI.out HV.out).mono ?_; rintro e w14 ⟨rfl, hs14⟩; have HS14 := Lib.hid hs14; clear hs14))
                    refine (loose_text HS14.out HG'.out HM'.out HI.out HV.out turned (by decide)).mono ?_
                    rintro e w15 ⟨⟨v15, rfl⟩, T2, nd2, hG2, hm2, hi2, hl2', hs15⟩
                    have XA := (Ext.refl w15).alloc (.cells #[.string turned, .string ⟨#[]⟩] 44)
                    have bA := heap_alloc_new w15 (.cells #[.string turned, .string ⟨#[]⟩] 44)
                    have RA : RowRd (w15.alloc (.cells #[.string turned, .string ⟨#[]⟩] 44)) 2 (.slice (some ⟨w15.heap.size, 0, none⟩) [(turned, (⟨#[]⟩ : ByteArray))].length 1) [(turned, (⟨#[]⟩ : ByteArray))].length (attrCells [(turned, (⟨#[]⟩ : ByteArray))]) :=
                      ⟨rfl, _, 1, rfl, Nat.le_refl _, (fun h => by cases h), fun a ha j x hx => by
                        cases ha
                        rw [Addr.add_lit, Nat.zero_add]
                        exact cellOf bA (by simpa [attrCells] using hx)⟩
                    have HS15 := Lib.hid (hs15.ext XA)
                    have HG2' := Lib.hid hG2
                    have HM2 := Lib.hid hm2
                    have HI2 := Lib.hid hi2
                    have HL2' := Lib.hid hl2'
                    have HRA := Lib.hid RA
                    clear XA bA RA hG2 hm2 hi2 hl2' hs15
                    go_wp2_with fail
                    refine (loose_attrs HS15.out HG2'.out HM2.out HI2.out HL2'.out HRA.out (by decide)).mono ?_
                    rintro e w16 ⟨⟨v16, rfl⟩, T3, nd3, hG3, hm3, hi3, hl3, hs16⟩
                    have HS16 := Lib.hid hs16
                    have HG3 := Lib.hid hG3
                    have HM3 := Lib.hid hm3
                    have HI3 := Lib.hid hi3
                    have HL3 := Lib.hid hl3
                    clear hG3 hm3 hi3 hl3 hs16
                    go_wp2_with fail
                    refine (loose_tag HS16.out HG3.out HM3.out HI3.out HL3.out 14 (by decide) (by decide)).mono ?_
                    rintro e w17 ⟨⟨v17, rfl⟩, T4, nd4, hG4, hm4, hi4, hl4, hs17⟩
                    have HS17 := Lib.hid hs17
                    have HG4 := Lib.hid hG4
                    have HM4 := Lib.hid hm4
                    have HI4 := Lib.hid hi4
                    have HL4 := Lib.hid hl4
                    clear hG4 hm4 hi4 hl4 hs17
                    go_wp2_with fail
                    refine (loose_remove HS17.out HG4.out HM4.out HI4.out HL4.out).mono ?_
                    rintro e w18 ⟨⟨v18, rfl⟩, T5, nd5, hG5, hm5, hi5, hl5, hs18⟩
                    have HS18 := Lib.hid hs18
                    have HG5 := Lib.hid hG5
                    have HM5 := Lib.hid hm5
                    clear hG5 hm5 hi5 hl5 hs18
                    go_wp2_with fail
                    go_roundw
                    case rel => exact ⟨i' + 1, T5, by omega, by omega, by go_num, HG5.out, HM5.out, HS18.out⟩
                    case measure => simp [intOf]; omega
              · have hk20 := hs'.box HB10.out
                have HS20 := Lib.hid (hs'.ext ((Ext.refl _).drew))
                obtain ⟨⟨d', hw'⟩, hA'⟩ := HG'.out
                obtain ⟨rd', r1', _, _⟩ := hw'.root
                have HW' := Lib.hid hw'
                have HA' := Lib.hid hA'
                have HR' := Lib.hid r1'
                clear hs' hw' hA' r1'
                go_upto_region 27 with fail
                go_region_held3 (fun w' => w'.cell? ⟨w6.heap.size, 0, none⟩ = some (.int .i64 m.tag) ∧ w'.cell? ⟨w6.heap.size, 1, none⟩ = some (.slice a5 m.attrs.length ac5) ∧ w'.cell? ⟨w6.heap.size, 2, none⟩ = some (.string m.text) ∧ w'.cell? ⟨w6.heap.size, 3, none⟩ = some (.slice k5 m.kids.length kc5))
                  (first | exact hkeep | exact hk20 | go_keep)
                  (first
                  | (go_at_call 16; refine (awake_any _).mono ?_; rintro e w24 ⟨rfl, hx24⟩; have hkeep := (HS23.out.ext hx24).box HB22.out)
                  | (go_at_call 26; refine (sit_sameNode HS22.out FM.out HR22.out HRm22.out).mono ?_; rintro e w23 ⟨rfl, hs23⟩; have hkeep := hs23.box HB22.out; have HS23 := Lib.hid hs23; clear hs23)
                  | (go_at_call 18; refine (sit_plain HS20.out HW'.out HA'.out HR'.out HM'.out (z := 0) rfl).mono ?_; rintro e w22 ⟨a22, ac22, k22, kc22, g22, rfl, hr22, hs22, hc22⟩; have hkeep := hs22.box (HB10.out.cells hc22); have HS22 := Lib.hid hs22; have HR22 := Lib.hid hr22; have HRm22 := Lib.hid (HRm10.out.cells hc22); have HB22 := Lib.hid (HB10.out.cells hc22); clear hs22 hr22 hc22))
                go_wp2_with fail
                go_ret
                exact ⟨rfl, HX2.out.trans (HS23.out.before.trans hx24)⟩
end Go.Proofs.Ytiglflmjidikpaa
