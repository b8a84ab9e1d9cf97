/- DomBack: a node that is removed, and inserted where it was, leaves all as it was; inserted elsewhere it is there. No conditions. -/
import Derived.Test.YtiglflmjidikpaaSit
import Derived.Test.YtiglflmjidikpaaDomSound
namespace Go.Proofs.Ytiglflmjidikpaa
open Go Go.RowKit Go.BigFrame Go.ChangeShapes Go.WideShapes
set_option linter.unusedVariables false
set_option linter.unusedSimpArgs false

/-- a node that is taken off -/
theorem WF.off {T : Tr} {d : Nat → Nat} (hw : WF T d) (hA : AttrsOk T) {i p : Nat} {nd pd : Nd} (hi : T.nodes[i]? = some (some nd)) (hp : T.nodes[p]? = some (some pd)) (hpar : nd.parent = (p : Int)) :
    ∃ (T1 : Tr) (d1 : Nat → Nat), T.unlink p i pd nd = T1 ∧ WF T1 d1 ∧ AttrsOk T1 ∧ T1.nodes[i]? = some (some { nd with parent := -1 }) ∧ T1.nodes[p]? = some (some { pd with kids := pd.kids.erase (i : Int) }) ∧ T1.plain i = T.plain i ∧ d1 i = 0 ∧ i ≠ 0 ∧
      pd.tag ≠ 0 ∧ posOf pd.kids i = ((pd.kids.idxOf (i : Int) : Nat) : Int) ∧ pd.kids.idxOf (i : Int) ≤ (pd.kids.erase (i : Int)).length ∧ T1.within p i = false ∧ (d1 p : Int) + 1 + T1.height i ≤ T1.deep ∧
      T1.link p (pd.kids.idxOf (i : Int)) i { pd with kids := pd.kids.erase (i : Int) } { nd with parent := -1 } = T ∧ T.count = T1.count := by
  obtain ⟨h1, h2, h3, h4⟩ := hw.up_out hp hi hpar
  have hw1 := hw.unlink hp hi hpar
  have hg := fun j => Tr.set2_get (pd' := { pd with kids := pd.kids.erase (i : Int) }) (kd' := { nd with parent := -1 }) hp hi j
  have hi1 : (T.unlink p i pd nd).nodes[i]? = some (some { nd with parent := -1 }) := by
    show (T.set2 p i _ _).nodes[i]? = _
    rw [hg, if_pos rfl]
  have hp1 : (T.unlink p i pd nd).nodes[p]? = some (some { pd with kids := pd.kids.erase (i : Int) }) := by
    show (T.set2 p i _ _).nodes[p]? = _
    rw [hg, if_neg h4, if_pos rfl]
  have hpl := hw.plain_set2 (pd' := { pd with kids := pd.kids.erase (i : Int) }) (q := -1) hp hi h1
  obtain ⟨k1, k2, k3⟩ := posOf_mem h3
  have hhd := hw.high_deep 50 i nd hi
  have hd0 : i ≠ 0 := fun e => by
    subst e
    obtain ⟨rd, r1, r2, _⟩ := hw.root
    obtain rfl := some_inj2 r1 hi
    omega
  have hle : (pd.kids.erase (i : Int)).length + 1 = pd.kids.length := by
    have := List.length_erase_of_mem h3; have := List.length_pos_of_mem h3; omega
  refine ⟨T.unlink p i pd nd, _, rfl, hw1, hA.set2 (show pd.attrs.length ≤ 60000 from hA _ _ hp) (show nd.attrs.length ≤ 60000 from hA _ _ hi), hi1, hp1, hpl.1, ?_, hd0, fun e => ?_, k1, by omega, ?_, ?_, ?_, rfl⟩
  · show (if T.within i i then d i - d i else d i) = 0
    rw [hw.within_self hi]; simp
  · have := (hw.text p pd hp).2.2 e
    rw [this] at h3; cases h3
  · cases hin : (T.unlink p i pd nd).within p i with
    | false => rfl
    | true =>
      have e0 : (if T.within i i then d i - d i else d i) = 0 := by rw [hw.within_self hi]; simp
      rcases Nat.eq_zero_or_pos (d p) with hz | hz
      · have h5 := (hw1.within_depth p _ hp1 hin).2 (by
          show (if T.within i i then d i - d i else d i) = (if T.within p i then d p - d i else d p)
          rw [e0, h1]; simpa using hz.symm)
        exact absurd h5 h4
      · -- the parent's way up is as it was
        have key : ∀ (j : Nat) (jd : Nd), T.nodes[j]? = some (some jd) → T.within j i = false → (T.unlink p i pd nd).within j i = false := by
          refine hw.induct _ (fun j jd hj hjp hjd hji => ?_) (fun j jd q qd hj hjp hq hjd ih hji => ?_)
          · have hne : j ≠ i := fun e => by subst e; rw [hw.within_self hj] at hji; cases hji
            have hj1 : ∃ jd', (T.unlink p i pd nd).nodes[j]? = some (some jd') ∧ jd'.parent = -1 := by
              by_cases e : j = p
              · subst e; obtain rfl := some_inj2 hp hj; exact ⟨_, hp1, hjp⟩
              · refine ⟨jd, ?_, hjp⟩
                show (T.set2 p i _ _).nodes[j]? = _
                rw [hg, if_neg hne, if_neg e]; exact hj
            obtain ⟨jd', e1, e2⟩ := hj1
            rw [hw1.within_root e1 e2]
            exact decide_eq_false (by omega)
          · have hne : j ≠ i := fun e => by subst e; rw [hw.within_self hj] at hji; cases hji
            have hj1 : ∃ jd', (T.unlink p i pd nd).nodes[j]? = some (some jd') ∧ jd'.parent = (q : Int) := by
              by_cases e : j = p
              · subst e; obtain rfl := some_inj2 hp hj; exact ⟨_, hp1, hjp⟩
              · refine ⟨jd, ?_, hjp⟩
                show (T.set2 p i _ _).nodes[j]? = _
                rw [hg, if_neg hne, if_neg e]; exact hj
            obtain ⟨jd', e1, e2⟩ := hj1
            rw [hw1.within_step e1, if_neg (by omega), e2]
            refine ih ?_
            rw [hw.within_step hj, if_neg (by omega), hjp] at hji
            exact hji
        rw [key p pd hp h1] at hin; cases hin
  · show ((if T.within p i then d p - d i else d p : Nat) : Int) + 1 + (T.unlink p i pd nd).height i ≤ T.deep
    have e : (T.unlink p i pd nd).height i = T.height i := hpl.2
    rw [h1, e]
    have : (d i : Int) + T.height i ≤ T.deep := hhd
    simp
    omega
  · exact Tr.link_unlink hp hi h4 hpar (hw.kids p pd hp).1 h3
/-- a loose node that is hung up -/
theorem WF.on {T : Tr} {d : Nat → Nat} (hw : WF T d) (hA : AttrsOk T) {i p a : Nat} {nd pd : Nd} (hi : T.nodes[i]? = some (some nd)) (hp : T.nodes[p]? = some (some pd)) (hpar : nd.parent = -1) (ht : pd.tag ≠ 0) (h0 : i ≠ 0) (ha : a ≤ pd.kids.length) (hin : T.within p i = false)
    (hdp : (d p : Int) + 1 + T.height i ≤ T.deep) :
    ∃ (T1 : Tr) (d1 : Nat → Nat), T.link p a i pd nd = T1 ∧ WF T1 d1 ∧ AttrsOk T1 ∧ T1.nodes[i]? = some (some { nd with parent := p }) ∧ T1.nodes[p]? = some (some { pd with kids := pd.kids.take a ++ [(i : Int)] ++ pd.kids.drop a }) ∧ T1.plain i = T.plain i ∧
      posOf (pd.kids.take a ++ [(i : Int)] ++ pd.kids.drop a) i = (a : Int) ∧
      T1.unlink p i { pd with kids := pd.kids.take a ++ [(i : Int)] ++ pd.kids.drop a } { nd with parent := p } = T := by
  have hpi : p ≠ i := fun e => by subst e; rw [hw.within_self hp] at hin; cases hin
  have hno : (i : Int) ∉ pd.kids := fun hm => by
    have := hw.kid_parent hp hm hi; omega
  have hw1 := hw.link (at' := a) hp hi ht h0 hpar hin hdp
  have hg := fun j => Tr.set2_get (pd' := { pd with kids := pd.kids.take a ++ [(i : Int)] ++ pd.kids.drop a }) (kd' := { nd with parent := p }) hp hi j
  refine ⟨T.link p a i pd nd, _, rfl, hw1, ?_, ?_, ?_, ?_, ?_, Tr.unlink_link hp hi hpi hpar hno⟩
  · rw [Tr.link_eq]; exact hA.set2 (show pd.attrs.length ≤ 60000 from hA _ _ hp) (show nd.attrs.length ≤ 60000 from hA _ _ hi)
  · rw [Tr.link_eq, hg, if_pos rfl]
  · rw [Tr.link_eq, hg, if_neg hpi, if_pos rfl]
  · rw [Tr.link_eq]; exact (hw.plain_set2 (q := (p : Int)) hp hi hin).1
  · refine posOf_at (k := a) ?_ ?_
    · rw [List.append_assoc, List.getElem?_append_right (by rw [List.length_take]; omega), List.length_take, show a - min a pd.kids.length = 0 by omega]; rfl
    · rw [List.append_assoc, List.take_append_of_le_length (by rw [List.length_take]; omega), List.take_take]
      exact fun h => hno (List.mem_of_mem_take h)
set_option maxRecDepth 100000 in
set_option maxHeartbeats 4000000 in
theorem domBack_walk (cap : Int) (hc : (Lit.int .i64 cap).wf = true) (deep : Int) (hd : (Lit.int .i64 deep).wf = true) {w : World} (v : Value) (l : List Cl) (hl : CallsRd w l v) (id : Int) (hi1 : (Lit.int .i64 id).wf = true) (par : Int) (hp1 : (Lit.int .i64 par).wf = true) (at' : Int) (ha1 : (Lit.int .i64 at').wf = true) :
    Calls Try.prog 5 #[.int .i64 cap, .int .i64 deep, v, .int .i64 id, .int .i64 par, .int .i64 at'] w (RBool true w) := by
  have HL := Lib.hid hl
  obtain ⟨ao, vcap, rfl, _⟩ := hl
  clear hc hd hi1 hp1 ha1
  go_enter Try.func5, Try.ntmps5
  go_wp2_with fail
  refine (Heavy_any HL.out).mono ?_
  rintro e w1 ⟨b, rfl, hx1, hb⟩
  cases b with
  | true =>
    go_wp2_with (go_at_call 16; refine (awake_any _).mono ?_; rintro e w2 ⟨rfl, hx2⟩)
    go_ret
    exact ⟨rfl, hx1.trans hx2⟩
  | false =>
    have HG := Lib.hid (hb rfl)
    clear hb
    go_wp2_with fail
    refine (Played_any cap deep (HL.out.ext hx1) HG.out).mono ?_
    rintro e w2 (⟨rfl, hx2⟩ | ⟨tb, rfl, ht⟩)
    · go_wp2_with (go_at_call 16; refine (awake_any _).mono ?_; rintro e w3 ⟨rfl, hx3⟩)
      go_ret
      exact ⟨rfl, (hx1.trans hx2).trans hx3⟩
    · obtain ⟨T, ⟨⟨d, hw⟩, hA⟩, hs⟩ := ht.sit
      have HS := Lib.hid hs
      have HX1 := Lib.hid hx1
      clear ht hs hx1
      cases hid : T.get? id with
      | none =>
        have HN := Lib.hid hid
        have HW := Lib.hid hw
        have HAA := Lib.hid hA
        clear hid hw hA
        go_wp2_with (first
          | (go_at_call 27; refine (sit_has' HS.out HN.out).mono ?_; rintro e w3 ⟨rfl, hs3⟩; have HS3 := Lib.hid hs3; clear hs3)
          | (go_at_call 16; refine (awake_any _).mono ?_; rintro e w4 ⟨rfl, hx4⟩))
        go_ret
        exact ⟨rfl, (HX1.out.trans HS3.out.before).trans hx4⟩
      | some nd =>
        obtain ⟨i, rfl, hi⟩ := nat_of hid
        rcases hw.parent_cases hi with hpar | ⟨p, pd, hpar, hp, hin, hpi⟩
        · have HN := Lib.hid hid
          have HP := Lib.hid hpar
          have HI := Lib.hid hi
          have HW := Lib.hid hw
          have HAA := Lib.hid hA
          clear hid hw hA hi hpar
          go_wp2_with (first
            | (go_at_call 27; refine (sit_has'' HS.out HN.out).mono ?_; rintro e w3 ⟨rfl, hs3⟩; have HS3 := Lib.hid hs3; clear hs3)
            | (go_at_call 34; refine (sit_parent' HS3.out HN.out HP.out).mono ?_; rintro e w4 ⟨rfl, hs4⟩; have HS4 := Lib.hid hs4; clear hs4)
            | (go_at_call 16; refine (awake_any _).mono ?_; rintro e w5 ⟨rfl, hx5⟩))
          go_ret
          exact ⟨rfl, (HX1.out.trans HS4.out.before).trans hx5⟩
        · obtain ⟨T1, d1, hT1, hw1, hA1, hi1, hp1, hpl1, hd1, hi0, htag, hpos, hle, hin1, hdp1, hback, _⟩ := hw.off hA hi hp hpar
          obtain ⟨n, hn⟩ : ∃ n, n = T.plain i := ⟨_, rfl⟩
          obtain ⟨m, hm⟩ : ∃ m, m = T.plain ((0 : Nat) : Int) := ⟨_, rfl⟩
          obtain ⟨r, hr⟩ : ∃ r, r = T1.plain ((0 : Nat) : Int) := ⟨_, rfl⟩
          obtain ⟨rd, r1, _, _⟩ := hw.root
          obtain ⟨rd1, r11, _, _⟩ := hw1.root
          obtain ⟨z, hz⟩ : ∃ z : Nat, z = pd.kids.idxOf (i : Int) := ⟨_, rfl⟩
          rw [← hn] at hpl1
          rw [← hz] at hpos hle hback
          have fn : n.fair = true := hn ▸ plain_fair hA _
          have fm : m.fair = true := hm ▸ plain_fair hA _
          have fr : r.fair = true := hr ▸ plain_fair hA1 _
          have HN := Lib.hid hid
          have HP := Lib.hid hpar
          have HI := Lib.hid hi
          have HPN := Lib.hid hp
          have HW := Lib.hid hw
          have HAA := Lib.hid hA
          have HT1 := Lib.hid hT1
          have HW1 := Lib.hid hw1
          have HA1 := Lib.hid hA1
          have HI1 := Lib.hid hi1
          have HP1 := Lib.hid hp1
          have HPL1 := Lib.hid hpl1
          have HD1 := Lib.hid hd1
          have HI0 := Lib.hid hi0
          have HTG := Lib.hid htag
          have HPOS := Lib.hid hpos
          have HLE := Lib.hid hle
          have HIN1 := Lib.hid hin1
          have HDP1 := Lib.hid hdp1
          have HBK := Lib.hid hback
          have Hn := Lib.hid hn
          have Hm := Lib.hid hm
          have Hr := Lib.hid hr
          have HR := Lib.hid r1
          have HR1 := Lib.hid r11
          have FN := Lib.hid fn
          have FM := Lib.hid fm
          have FR := Lib.hid fr
          clear hid hpar hi hp hw hA hT1 hw1 hA1 hi1 hp1 hpl1 hd1 hi0 htag hpos hle hin1 hdp1 hback hn hm hr r1 r11 hin hpi hz fn fm fr
          go_wp2_with (first
            | (go_at_call 27; refine (sit_has'' HS.out HN.out).mono ?_; rintro e w3 ⟨rfl, hs3⟩; have HS3 := Lib.hid hs3; clear hs3)
            | (go_at_call 34; refine (sit_parent' HS3.out HN.out HP.out).mono ?_; rintro e w4 ⟨rfl, hs4⟩; have HS4 := Lib.hid hs4; clear hs4))
          refine (sit_plain HS4.out HW.out HAA.out HR.out Hm.out.symm (z := 0) rfl).mono ?_
          rintro e w5 ⟨a5, ac5, k5, kc5, g5, rfl, hr5, hs5, hc5⟩
          have HS5 := Lib.hid hs5
          have HR5 := Lib.hid hr5
          clear hs5 hr5 hc5
          go_wp2_with fail
          refine (sit_plain HS5.out HW.out HAA.out HI.out Hn.out.symm rfl).mono ?_
          rintro e w6 ⟨a6, ac6, k6, kc6, g6, rfl, hr6, hs6, hc6⟩
          have HS6 := Lib.hid hs6
          have HR6 := Lib.hid hr6
          have HR5' := Lib.hid (HR5.out.cells hc6)
          clear hs6 hr6 hc6
          have xm := ((Ext.refl w6).alloc (.cells #[.int .i64 m.tag, .slice a5 m.attrs.length ac5, .string m.text, .slice k5 m.kids.length kc5] 30)).alloc (.cells #[.int .i64 n.tag, .slice a6 n.attrs.length ac6, .string n.text, .slice k6 n.kids.length kc6] 30)
          have bM := ((Ext.refl (w6.alloc (.cells #[.int .i64 m.tag, .slice a5 m.attrs.length ac5, .string m.text, .slice k5 m.kids.length kc5] 30))).alloc (.cells #[.int .i64 n.tag, .slice a6 n.attrs.length ac6, .string n.text, .slice k6 n.kids.length kc6] 30)).block (heap_alloc_new w6 (.cells #[.int .i64 m.tag, .slice a5 m.attrs.length ac5, .string m.text, .slice k5 m.kids.length kc5] 30))
          have bN := heap_alloc_new (w6.alloc (.cells #[.int .i64 m.tag, .slice a5 m.attrs.length ac5, .string m.text, .slice k5 m.kids.length kc5] 30)) (.cells #[.int .i64 n.tag, .slice a6 n.attrs.length ac6, .string n.text, .slice k6 n.kids.length kc6] 30)
          rw [show (w6.alloc (.cells #[.int .i64 m.tag, .slice a5 m.attrs.length ac5, .string m.text, .slice k5 m.kids.length kc5] 30)).heap.size = w6.heap.size + 1 by simp] at bN
          obtain ⟨g7, hs7, hc7, hn7⟩ := HS6.out.grow xm
          have HBM := Lib.hid (Box4.of bM (Nat.le_refl _) hn7)
          have HBN := Lib.hid (Box4.of bN (Nat.le_succ _) hn7)
          have HR7m := Lib.hid (HR5'.out.cells hc7)
          have HR7n := Lib.hid (HR6.out.cells hc7)
          have HS7 := Lib.hid hs7
          clear xm bM bN hs7 hc7 hn7
          go_wp2_with fail
          obtain ⟨wm, hwm⟩ : ∃ wm : World, wm = (w6.alloc (.cells #[.int .i64 m.tag, .slice a5 m.attrs.length ac5, .string m.text, .slice k5 m.kids.length kc5] 30)).alloc (.cells #[.int .i64 n.tag, .slice a6 n.attrs.length ac6, .string n.text, .slice k6 n.kids.length kc6] 30) := ⟨_, rfl⟩
          rw [← hwm] at HS7 ⊢
          clear hwm
          refine (sit_parent' HS7.out HN.out HP.out).mono ?_
          rintro e w8 ⟨rfl, hs8⟩
          have HS8 := Lib.hid hs8
          clear hs8
          go_wp2_with fail
          refine (sit_index HS8.out HW.out HI.out HPN.out HP.out HPOS.out).mono ?_
          rintro e w9 ⟨rfl, hs9⟩
          have hk9 := hs9.box HBN.out
          have HS9 := Lib.hid (hs9.ext ((Ext.refl w9).drew))
          clear hs9
          go_upto_region 8 with fail
          go_region_held3 (fun w' => w'.cell? ⟨w6.heap.size + 1, 0, none⟩ = some (.int .i64 n.tag) ∧ w'.cell? ⟨w6.heap.size + 1, 1, none⟩ = some (.slice a6 n.attrs.length ac6) ∧ w'.cell? ⟨w6.heap.size + 1, 2, none⟩ = some (.string n.text) ∧ w'.cell? ⟨w6.heap.size + 1, 3, none⟩ = some (.slice k6 n.kids.length kc6))
            (first | exact hkeep | exact hk9 | go_keep)
            (first
            | (go_at_call 26; refine (sit_sameNode HS14.out FN.out HR14.out HR14n.out).mono ?_; rintro e w15 ⟨rfl, hs15⟩; have hkeep := hs15.box HBN14.out; have HS15 := Lib.hid hs15; clear hs15)
            | (go_at_call 18; refine (sit_plain HS13.out HW1.out HA1.out HI1.out HPL1.out rfl).mono ?_; rintro e w14 ⟨a14, ac14, k14, kc14, g14, rfl, hr14, hs14, hc14⟩; have hkeep := hs14.box (HBN.out.cells hc14); have HS14 := Lib.hid hs14; have HR14 := Lib.hid hr14; have HR14n := Lib.hid (HR7n.out.cells hc14); have HR14m := Lib.hid (HR7m.out.cells hc14); have HBN14 := Lib.hid (HBN.out.cells hc14); have HBM14 := Lib.hid (HBM.out.cells hc14); clear hs14 hr14 hc14)
            | (go_at_call 36; refine (sit_depth HS12.out HW1.out HI1.out (z := 0) (by rw [HD1.out]; rfl)).mono ?_; rintro e w13 ⟨rfl, hs13⟩; have hkeep := hs13.box HBN.out; have HS13 := Lib.hid hs13; clear hs13)
            | (go_at_call 35; refine (sit_index_root HS11.out HI1.out rfl).mono ?_; rintro e w12 ⟨rfl, hs12⟩; have hkeep := hs12.box HBN.out; have HS12 := Lib.hid hs12; clear hs12)
            | (go_at_call 34; refine (sit_parent' HS10.out (Tr.get_of HI1.out) (z := -1) rfl).mono ?_; rintro e w11 ⟨rfl, hs11⟩; have hkeep := hs11.box HBN.out; have HS11 := Lib.hid hs11; clear hs11)
            | (go_at_call 22; refine (sit_remove HS9.out HW.out HPN.out HI.out HP.out HT1.out).mono ?_; rintro e w10 ⟨rfl, hs10⟩; have hkeep := hs10.box HBN.out; have HS10 := Lib.hid hs10; clear hs10))
          go_wp2_with fail
          refine (sit_plain HS15.out HW1.out HA1.out HR1.out Hr.out.symm (z := 0) rfl).mono ?_
          rintro e w16 ⟨a16, ac16, k16, kc16, g16, rfl, hr16, hs16, hc16⟩
          have xr := (Ext.refl w16).alloc (.cells #[.int .i64 r.tag, .slice a16 r.attrs.length ac16, .string r.text, .slice k16 r.kids.length kc16] 30)
          have bR := heap_alloc_new w16 (.cells #[.int .i64 r.tag, .slice a16 r.attrs.length ac16, .string r.text, .slice k16 r.kids.length kc16] 30)
          obtain ⟨g17, hs17, hc17, hn17⟩ := hs16.grow xr
          have HBR := Lib.hid (Box4.of bR (Nat.le_refl _) hn17)
          have cc := Lib.hid (show Cells g14 g17 from fun q y hq => hc17 _ _ (hc16 _ _ hq))
          have HBM17 := Lib.hid (HBM14.out.cells cc.out)
          have HBN17 := Lib.hid (HBN14.out.cells cc.out)
          have HR17m := Lib.hid (HR14m.out.cells cc.out)
          have HR17n := Lib.hid (HR14n.out.cells cc.out)
          have HR17r := Lib.hid (hr16.cells hc17)
          have HS17 := Lib.hid hs17
          clear xr bR hs17 hc17 hn17 hr16 hs16 hc16
          go_wp2_with fail
          obtain ⟨wr, hwr⟩ : ∃ wr : World, wr = w16.alloc (.cells #[.int .i64 r.tag, .slice a16 r.attrs.length ac16, .string r.text, .slice k16 r.kids.length kc16] 30) := ⟨_, rfl⟩
          rw [← hwr] at HS17 ⊢
          clear hwr
          refine (sit_insert_any HS17.out HW1.out par at' HI1.out HI0.out rfl).mono ?_
          rintro e w18 (⟨er, her, rfl, hs18⟩ | ⟨p2, a2, pd2, rfl, rfl, hp2, ht2, ha2, hin2, hdp2, rfl, hs18⟩)
          · have HS18 := Lib.hid hs18
            clear hs18
            have hk20 := HS18.out.box HBM17.out
            have HS20 := Lib.hid (HS18.out.ext ((Ext.refl _).drew))
            go_upto_region 14 with fail
            go_region_held3 (fun w' => w'.cell? ⟨w6.heap.size, 0, none⟩ = some (.int .i64 m.tag) ∧ w'.cell? ⟨w6.heap.size, 1, none⟩ = some (.slice a5 m.attrs.length ac5) ∧ w'.cell? ⟨w6.heap.size, 2, none⟩ = some (.string m.text) ∧ w'.cell? ⟨w6.heap.size, 3, none⟩ = some (.slice k5 m.kids.length kc5))
              (first | exact hkeep | exact hk20 | go_keep)
              (first
              | (go_at_call 16; refine (awake_any _).mono ?_; rintro e w24 ⟨rfl, hx24⟩; have hkeep := (HS23.out.ext hx24).box HB22.out)
              | (go_at_call 26; refine (sit_sameNode HS22.out FM.out HR22.out HM22.out).mono ?_; rintro e w23 ⟨rfl, hs23⟩; have hkeep := hs23.box HB22.out; have HS23 := Lib.hid hs23; clear hs23)
              | (go_at_call 18; refine (sit_plain HS21.out HW.out HAA.out HR.out Hm.out.symm (z := 0) rfl).mono ?_; rintro e w22 ⟨a20, ac20, k20, kc20, g22, rfl, hr20, hs22, hc20⟩; have hkeep := hs22.box (HBM17.out.cells hc20); have HS22 := Lib.hid hs22; have HR22 := Lib.hid hr20; have HM22 := Lib.hid (HR17m.out.cells hc20); have HB22 := Lib.hid (HBM17.out.cells hc20); clear hs22 hr20 hc20)
              | (go_at_call 21; refine (sit_insert HS20.out HW1.out HP1.out HI1.out HTG.out HI0.out rfl HLE.out HIN1.out HDP1.out HBK.out rfl).mono ?_; rintro e w21 ⟨rfl, hs21⟩; have hkeep := hs21.box HBM17.out; have HS21 := Lib.hid hs21; clear hs21))
            go_wp2_with fail
            go_ret
            exact ⟨rfl, HX1.out.trans (HS23.out.before.trans hx24)⟩
          · obtain ⟨T2, d2, hT2, hw2, hA2, hi2, hp22, hpl2, hpos2, hun2⟩ := HW1.out.on HA1.out HI1.out hp2 rfl ht2 HI0.out ha2 hin2 hdp2
            rw [hT2] at hs18
            rw [HPL1.out] at hpl2
            have hk18 := And.intro (hs18.box HBN17.out) (hs18.box HBR.out)
            have HS18 := Lib.hid (hs18.ext ((Ext.refl w18).drew))
            have HW2 := Lib.hid hw2
            have HA2 := Lib.hid hA2
            have HI2 := Lib.hid hi2
            have HP2 := Lib.hid hp22
            have HPL2 := Lib.hid hpl2
            have HPOS2 := Lib.hid hpos2
            have HUN2 := Lib.hid hun2
            clear hs18 hT2 hw2 hA2 hi2 hp22 hpl2 hpos2 hun2 hp2 ht2 ha2 hin2 hdp2
            go_upto_region 12 with fail
            go_region_held3 (fun w' => (w'.cell? ⟨w6.heap.size + 1, 0, none⟩ = some (.int .i64 n.tag) ∧ w'.cell? ⟨w6.heap.size + 1, 1, none⟩ = some (.slice a6 n.attrs.length ac6) ∧ w'.cell? ⟨w6.heap.size + 1, 2, none⟩ = some (.string n.text) ∧ w'.cell? ⟨w6.heap.size + 1, 3, none⟩ = some (.slice k6 n.kids.length kc6)) ∧ w'.cell? ⟨w16.heap.size, 0, none⟩ = some (.int .i64 r.tag) ∧ w'.cell? ⟨w16.heap.size, 1, none⟩ = some (.slice a16 r.attrs.length ac16) ∧ w'.cell? ⟨w16.heap.size, 2, none⟩ = some (.string r.text) ∧ w'.cell? ⟨w16.heap.size, 3, none⟩ = some (.slice k16 r.kids.length kc16))
              (first | exact hkeep | exact hk18 | go_keep)
              (first
              | (go_at_call 26; refine (sit_sameNode HS24.out FR.out HR24.out HR24r.out).mono ?_; rintro e w25 ⟨rfl, hs25⟩; have hkeep := And.intro (hs25.box HBN24.out) (hs25.box HBR24.out); have HS25 := Lib.hid hs25; clear hs25)
              | (go_at_call 18; refine (sit_plain HS23.out HW1.out HA1.out HR1.out Hr.out.symm (z := 0) rfl).mono ?_; rintro e w24 ⟨a24, ac24, k24, kc24, g24, rfl, hr24, hs24, hc24⟩; have hkeep := And.intro (hs24.box (HBN21.out.cells hc24)) (hs24.box (HBR21.out.cells hc24)); have HS24 := Lib.hid hs24; have HR24 := Lib.hid hr24; have HR24r := Lib.hid (HR21r.out.cells hc24); have HR24m := Lib.hid (HR21m.out.cells hc24); have HBN24 := Lib.hid (HBN21.out.cells hc24); have HBR24 := Lib.hid (HBR21.out.cells hc24); have HBM24 := Lib.hid (HBM21.out.cells hc24); clear hs24 hr24 hc24)
              | (go_at_call 22; refine (sit_remove HS22.out HW2.out HP2.out HI2.out rfl HUN2.out).mono ?_; rintro e w23 ⟨rfl, hs23⟩; have hkeep := And.intro (hs23.box HBN21.out) (hs23.box HBR21.out); have HS23 := Lib.hid hs23; clear hs23)
              | (go_at_call 26; refine (sit_sameNode HS21.out FN.out HR21.out HR21n.out).mono ?_; rintro e w22 ⟨rfl, hs22⟩; have hkeep := And.intro (hs22.box HBN21.out) (hs22.box HBR21.out); have HS22 := Lib.hid hs22; clear hs22)
              | (go_at_call 18; refine (sit_plain HS20.out HW2.out HA2.out HI2.out HPL2.out rfl).mono ?_; rintro e w21 ⟨a21, ac21, k21, kc21, g21, rfl, hr21, hs21, hc21⟩; have hkeep := And.intro (hs21.box (HBN17.out.cells hc21)) (hs21.box (HBR.out.cells hc21)); have HS21 := Lib.hid hs21; have HR21 := Lib.hid hr21; have HR21n := Lib.hid (HR17n.out.cells hc21); have HR21m := Lib.hid (HR17m.out.cells hc21); have HR21r := Lib.hid (HR17r.out.cells hc21); have HBN21 := Lib.hid (HBN17.out.cells hc21); have HBM21 := Lib.hid (HBM17.out.cells hc21); have HBR21 := Lib.hid (HBR.out.cells hc21); clear hs21 hr21 hc21)
              | (go_at_call 35; refine (sit_index HS19.out HW2.out HI2.out HP2.out rfl HPOS2.out).mono ?_; rintro e w20 ⟨rfl, hs20⟩; have hkeep := And.intro (hs20.box HBN17.out) (hs20.box HBR.out); have HS20 := Lib.hid hs20; clear hs20)
              | (go_at_call 34; refine (sit_parent' HS18.out (Tr.get_of HI2.out) rfl).mono ?_; rintro e w19 ⟨rfl, hs19⟩; have hkeep := And.intro (hs19.box HBN17.out) (hs19.box HBR.out); have HS19 := Lib.hid hs19; clear hs19))
            clear hk18
            have hk30 := HS25.out.box HBM24.out
            have HS30 := Lib.hid (HS25.out.ext ((Ext.refl _).drew))
            go_upto_region 14 with fail
            go_region_held3 (fun w' => w'.cell? ⟨w6.heap.size, 0, none⟩ = some (.int .i64 m.tag) ∧ w'.cell? ⟨w6.heap.size, 1, none⟩ = some (.slice a5 m.attrs.length ac5) ∧ w'.cell? ⟨w6.heap.size, 2, none⟩ = some (.string m.text) ∧ w'.cell? ⟨w6.heap.size, 3, none⟩ = some (.slice k5 m.kids.length kc5))
              (first | exact hkeep | exact hk30 | go_keep)
              (first
              | (go_at_call 16; refine (awake_any _).mono ?_; rintro e w34 ⟨rfl, hx34⟩; have hkeep := (HS33.out.ext hx34).box HB32.out)
              | (go_at_call 26; refine (sit_sameNode HS32.out FM.out HR32.out HM32.out).mono ?_; rintro e w33 ⟨rfl, hs33⟩; have hkeep := hs33.box HB32.out; have HS33 := Lib.hid hs33; clear hs33)
              | (go_at_call 18; refine (sit_plain HS31.out HW.out HAA.out HR.out Hm.out.symm (z := 0) rfl).mono ?_; rintro e w32 ⟨a30, ac30, k30, kc30, g32, rfl, hr30, hs32, hc30⟩; have hkeep := hs32.box (HBM24.out.cells hc30); have HS32 := Lib.hid hs32; have HR32 := Lib.hid hr30; have HM32 := Lib.hid (HR24m.out.cells hc30); have HB32 := Lib.hid (HBM24.out.cells hc30); clear hs32 hr30 hc30)
              | (go_at_call 21; refine (sit_insert HS30.out HW1.out HP1.out HI1.out HTG.out HI0.out rfl HLE.out HIN1.out HDP1.out HBK.out rfl).mono ?_; rintro e w31 ⟨rfl, hs31⟩; have hkeep := hs31.box HBM24.out; have HS31 := Lib.hid hs31; clear hs31))
            go_wp2_with fail
            go_ret
            exact ⟨rfl, HX1.out.trans (HS33.out.before.trans hx34)⟩
end Go.Proofs.Ytiglflmjidikpaa
