/- quillworklaw08: Sound: a good tree is sound. No conditions. -/
import Derived.Test.YtiglflmjidikpaaPlayed
namespace Go.Proofs.Ytiglflmjidikpaa
open Go Go.RowKit Go.BigFrame
set_option linter.unusedVariables false
set_option linter.unusedSimpArgs false

section
variable {w u : World} {own : Ow} {ptr : Nat → Nat} {tb : Nat} {T : Tr} {d : Nat → Nat} {i : Nat} {nd : Nd}
theorem s_has (hT : TreeAt w own ptr tb T) (hO : Owned own w) (h : T.nodes[i]? = some (some nd)) (x : Ext w u) : Calls Try.prog 27 #[.pointer (some ⟨tb, 0, none⟩), .int .i64 i] u (RSame (.bool true) u) :=
  Has_some (hT.keep (x.keep hO)) (Tr.get_of h)
theorem s_tag (hT : TreeAt w own ptr tb T) (hO : Owned own w) (h : T.nodes[i]? = some (some nd)) (x : Ext w u) : Calls Try.prog 46 #[.pointer (some ⟨tb, 0, none⟩), .int .i64 i] u (RSame (.int .i64 nd.tag) u) :=
  Tag_some (hT.keep (x.keep hO)) (Tr.get_of h)
theorem s_parent (hT : TreeAt w own ptr tb T) (hO : Owned own w) (h : T.nodes[i]? = some (some nd)) (x : Ext w u) {p : Int} (hp : nd.parent = p) : Calls Try.prog 34 #[.pointer (some ⟨tb, 0, none⟩), .int .i64 i] u (RSame (.int .i64 p) u) :=
  hp ▸ Parent_some (hT.keep (x.keep hO)) (Tr.get_of h)
theorem s_depth (hT : TreeAt w own ptr tb T) (hO : Owned own w) (hw : WF T d) (h : T.nodes[i]? = some (some nd)) (x : Ext w u) {z : Int} (hz : (d i : Int) = z) : Calls Try.prog 36 #[.pointer (some ⟨tb, 0, none⟩), .int .i64 i] u (RSame (.int .i64 z) u) :=
  hz ▸ Depth_some (hT.keep (x.keep hO)) hw h
theorem s_live (hT : TreeAt w own ptr tb T) (hO : Owned own w) (hw : WF T d) (h : T.nodes[i]? = some (some nd)) (x : Ext w u) {b : Bool} (hz : T.within i 0 = b) : Calls Try.prog 28 #[.pointer (some ⟨tb, 0, none⟩), .int .i64 i] u (RSame (.bool b) u) :=
  hz ▸ Live_some (hT.keep (x.keep hO)) hw h
theorem s_height (hT : TreeAt w own ptr tb T) (hO : Owned own w) (hw : WF T d) (h : T.nodes[i]? = some (some nd)) (x : Ext w u) : Calls Try.prog 50 #[.pointer (some ⟨tb, 0, none⟩), .int .i64 i] u (RSame (.int .i64 (T.height i)) u) :=
  Height_fuel (hT.keep (x.keep hO)) hw 50 i nd h (by omega) (by omega)
/-- all of a node that the walk asks for -/
structure Told (T : Tr) (d : Nat → Nat) (i : Nat) (nd : Nd) (p z h : Int) (b : Bool) : Prop where
  node : T.nodes[i]? = some (some nd)
  up : nd.parent = p
  depth : (d i : Int) = z
  height : T.height i = h
  live : T.within i 0 = b
variable {p z h : Int} {b : Bool}
theorem t_has (hT : TreeAt w own ptr tb T) (hO : Owned own w) (x : Ext w u) (t : Told T d i nd p z h b) : Calls Try.prog 27 #[.pointer (some ⟨tb, 0, none⟩), .int .i64 i] u (RVal (.bool true) u) := RSame.val (s_has hT hO t.node x)
theorem t_parent (hT : TreeAt w own ptr tb T) (hO : Owned own w) (x : Ext w u) (t : Told T d i nd p z h b) : Calls Try.prog 34 #[.pointer (some ⟨tb, 0, none⟩), .int .i64 i] u (RVal (.int .i64 p) u) := RSame.val (s_parent hT hO t.node x t.up)
theorem t_depth (hT : TreeAt w own ptr tb T) (hO : Owned own w) (hw : WF T d) (x : Ext w u) (t : Told T d i nd p z h b) : Calls Try.prog 36 #[.pointer (some ⟨tb, 0, none⟩), .int .i64 i] u (RVal (.int .i64 z) u) := RSame.val (s_depth hT hO hw t.node x t.depth)
theorem t_height (hT : TreeAt w own ptr tb T) (hO : Owned own w) (hw : WF T d) (x : Ext w u) (t : Told T d i nd p z h b) : Calls Try.prog 50 #[.pointer (some ⟨tb, 0, none⟩), .int .i64 i] u (RVal (.int .i64 h) u) := t.height ▸ RSame.val (s_height hT hO hw t.node x)
theorem t_live (hT : TreeAt w own ptr tb T) (hO : Owned own w) (hw : WF T d) (x : Ext w u) (t : Told T d i nd p z h b) : Calls Try.prog 28 #[.pointer (some ⟨tb, 0, none⟩), .int .i64 i] u (RVal (.bool b) u) := RSame.val (s_live hT hO hw t.node x t.live)
theorem u_has (hT : TreeAt w own ptr tb T) (hO : Owned own w) (x : Ext w u) (t : Told T d i nd p z h b) : Calls Try.prog 27 #[.pointer (some ⟨tb, 0, none⟩), .int .i64 i] u (RSame (.bool true) u) := (s_has hT hO t.node x)
theorem u_parent (hT : TreeAt w own ptr tb T) (hO : Owned own w) (x : Ext w u) (t : Told T d i nd p z h b) : Calls Try.prog 34 #[.pointer (some ⟨tb, 0, none⟩), .int .i64 i] u (RSame (.int .i64 p) u) := (s_parent hT hO t.node x t.up)
theorem u_depth (hT : TreeAt w own ptr tb T) (hO : Owned own w) (hw : WF T d) (x : Ext w u) (t : Told T d i nd p z h b) : Calls Try.prog 36 #[.pointer (some ⟨tb, 0, none⟩), .int .i64 i] u (RSame (.int .i64 z) u) := (s_depth hT hO hw t.node x t.depth)
theorem u_live (hT : TreeAt w own ptr tb T) (hO : Owned own w) (hw : WF T d) (x : Ext w u) (t : Told T d i nd p z h b) : Calls Try.prog 28 #[.pointer (some ⟨tb, 0, none⟩), .int .i64 i] u (RSame (.bool b) u) := (s_live hT hO hw t.node x t.live)
theorem u_tag (hT : TreeAt w own ptr tb T) (hO : Owned own w) (x : Ext w u) (t : Told T d i nd p z h b) : Calls Try.prog 46 #[.pointer (some ⟨tb, 0, none⟩), .int .i64 i] u (RSame (.int .i64 nd.tag) u) := s_tag hT hO t.node x
theorem nodup_pos {l : List Int} (hn : l.Nodup) {k : Nat} {x : Int} (h : l[k]? = some x) : posOf l x = k := by
  refine posOf_at h fun hm => ?_
  obtain ⟨hlt, rfl⟩ := List.getElem?_eq_some_iff.1 h
  rw [← List.take_append_drop k l, List.nodup_append] at hn
  refine hn.2.2 _ hm _ ?_ rfl
  rw [List.mem_iff_getElem?]
  exact ⟨0, by simp⟩
theorem s_index (hT : TreeAt w own ptr tb T) (hO : Owned own w) (hw : WF T d) (h : T.nodes[i]? = some (some nd)) (x : Ext w u) {p n : Nat} {pd : Nd} (hp : nd.parent = (p : Int)) (hpd : T.nodes[p]? = some (some pd)) (hn : pd.kids[n]? = some (i : Int)) :
    Calls Try.prog 35 #[.pointer (some ⟨tb, 0, none⟩), .int .i64 i] u (RVal (.int .i64 n) u) := by
  have := hw.kids_len hpd
  have h1 := Index_kid (hT.keep (x.keep hO)) (Tr.get_of h) (hp ▸ Tr.get_of hpd) (by omega)
  rw [nodup_pos (hw.kids p pd hpd).1 hn] at h1
  exact h1
theorem s_kids (hT : TreeAt w own ptr tb T) (hO : Owned own w) (hw : WF T d) (h : T.nodes[i]? = some (some nd)) (x : Ext w u) :
    Calls Try.prog 49 #[.pointer (some ⟨tb, 0, none⟩), .int .i64 i] u (RRow 3 1 nd.kids.length (nd.kids.map (Value.int .i64)) u) :=
  Kids_some (hT.keep (x.keep hO)) (Tr.get_of h) (by have := hw.kids_len h; omega)
theorem s_kid (hw : WF T d) (h : T.nodes[i]? = some (some nd)) {n : Nat} {k : Int} (hk : nd.kids[n]? = some k) :
    ∃ (j : Nat) (kd : Nd), k = (j : Int) ∧ T.nodes[j]? = some (some kd) ∧ kd.parent = (i : Int) ∧ (d j : Int) = d i + 1 ∧ T.height j + 1 ≤ T.height i ∧ T.within j 0 = T.within i 0 := by
  obtain ⟨j, kd, h1, h2, h3, h4⟩ := hw.kid h hk
  subst h1
  refine ⟨j, kd, rfl, h2, h3, by omega, hw.hgt_kid h (List.mem_of_getElem? hk), ?_⟩
  rw [hw.within_step h2, h3]
  obtain ⟨rd, r1, r2, _⟩ := hw.root
  rw [if_neg (fun e => by
    have e' : j = 0 := by omega
    subst e'
    obtain rfl := some_inj2 r1 h2
    omega)]
theorem cnt_snoc (l : List (Option Nd)) (k : Nat) (x : Option Nd) (h : l[k]? = some x) : (l.take (k + 1)).countP Option.isSome = (l.take k).countP Option.isSome + (if x.isSome then 1 else 0) := by
  obtain ⟨hlt, rfl⟩ := List.getElem?_eq_some_iff.1 h
  rw [List.take_succ_eq_append_getElem hlt, List.countP_append, List.countP_singleton]
theorem cnt_le (l : List (Option Nd)) (k : Nat) : (l.take k).countP Option.isSome ≤ l.countP Option.isSome := by
  have := congrArg (List.countP Option.isSome) (List.take_append_drop k l)
  rw [List.countP_append] at this
  omega
end
set_option maxRecDepth 100000 in
set_option maxHeartbeats 8000000 in
theorem Sound_any {w : World} {own : Ow} {ptr : Nat → Nat} {tb : Nat} {T : Tr} {d : Nat → Nat} (hT : TreeAt w own ptr tb T) (hO : Owned own w) (hw : WF T d) : Calls Try.prog 37 #[.pointer (some ⟨tb, 0, none⟩)] w (RBool true w) := by
  obtain ⟨rd, r1, r2, r3⟩ := hw.root
  have hcap : T.count ≤ T.cap := hw.small.count1
  have hcap1 := hw.small.cap1
  have hlen := hw.small.len
  have hcount := hw.count
  have HT := Lib.hid hT
  have HO := Lib.hid hO
  have HW := Lib.hid hw
  have HR := Lib.hid r1
  have x0 : Ext w w := Ext.refl w
  clear hT hO hw r1
  go_enter Try.func37, Try.ntmps37
  go_wp2_with (go_at_call 45; refine (Room_any HT.out).mono ?_; rintro e w' ⟨rfl, hy⟩; have HY := Lib.hid hy; clear hy)
  go_wp2_with fail
  go_loopw [5, 6] (fun n id wr => ∃ k : Nat, k ≤ T.nodes.length ∧ id = .int .i64 k ∧ n = .int .i64 (((T.nodes.take k).countP Option.isSome : Nat) : Int) ∧ Ext w wr) (fun _ id _ => T.nodes.length - (intOf id).toNat)
  case atStart => exact ⟨0, Nat.zero_le _, rfl, rfl, HY.out⟩
  case round =>
    obtain ⟨k, hk, rfl, rfl, xr⟩ := hrel
    have HXR := Lib.hid xr
    clear xr HY
    have hle := cnt_le T.nodes k
    obtain ⟨c, hc⟩ : ∃ c, c = (T.nodes.take k).countP Option.isSome := ⟨_, rfl⟩
    rw [← hc] at hle ⊢
    obtain ⟨m, hm⟩ : ∃ m, m = T.nodes.countP Option.isSome := ⟨_, rfl⟩
    rw [← hm] at hle hcount
    by_cases hlt : c < m
    · have hkl : k < T.nodes.length := by
        rcases Nat.lt_or_ge k T.nodes.length with h | h
        · exact h
        · rw [List.take_of_length_le h] at hc; omega
      obtain ⟨o, ho⟩ : ∃ o, T.nodes[k]? = some o := ⟨T.nodes[k], by simp [hkl]⟩
      have hsn := cnt_snoc _ _ _ ho
      rw [← hc] at hsn
      cases o with
      | none =>
        have HN : Hid (T.get? (k : Int) = none) := Lib.hid (by rw [T.get_nat, ho]; rfl)
        clear ho
        go_wp2_with (first
          | (go_at_call 19; refine (Count_any (HT.out.keep (HXR.out.keep HO.out))).mono ?_; rintro e w' ⟨rfl, rfl⟩; rw [hcount])
          | (go_at_call 27; refine (Has_none (HT.out.keep (HXR.out.keep HO.out)) HN.out).mono ?_; rintro e w' ⟨rfl, rfl⟩))
        go_roundw
        case rel => exact ⟨k + 1, by omega, by go_num, by rw [hsn, hc]; simp, HXR.out⟩
        case measure => simp [intOf]; omega
      | some nd =>
        have HN := Lib.hid ho
        have hkl2 := HW.out.kids_len ho
        clear ho
        have hs2 : (T.nodes.take (k + 1)).countP Option.isSome = c + 1 := hsn
        clear hsn
        go_wp2_with (first
          | (go_at_call 19; refine (Count_any (HT.out.keep (HXR.out.keep HO.out))).mono ?_; rintro e w' ⟨rfl, rfl⟩; rw [hcount])
          | (go_at_call 27; refine (s_has HT.out HO.out HN.out HXR.out).mono ?_; rintro e w' ⟨rfl, rfl⟩)
          | (go_at_call 49; refine (s_kids HT.out HO.out HW.out HN.out HXR.out).mono ?_; rintro e wk ⟨vk, rfl, hrk, hxk⟩; have HXK := Lib.hid (HXR.out.trans hxk); have HRK := Lib.hid (RowP.rd hrk); clear hrk hxk; obtain ⟨ka, kcap, rfl, hkc⟩ := HRK.out.len_of))
        have hrk := HRK.out
        have hx0 := Lib.hid (Ext.refl wk)
        go_loopw [8] (fun i wy => ∃ n : Nat, n ≤ nd.kids.length ∧ i = .int .i64 n ∧ Ext wk wy) (fun i _ => nd.kids.length - (intOf i).toNat)
        case atStart => exact ⟨0, Nat.zero_le _, rfl, Ext.refl wk⟩
        case round =>
          obtain ⟨n, hn, rfl, xy⟩ := hrel
          have HXY := Lib.hid (HXK.out.trans xy)
          by_cases hnl : n < nd.kids.length
          · obtain ⟨x, hx⟩ : ∃ x, nd.kids[n]? = some x := ⟨nd.kids[n], by simp [hnl]⟩
            obtain ⟨j, kd, rfl, hj, hjp, hjd, hjh, hjl⟩ := s_kid HW.out HN.out hx
            obtain ⟨_, ka', kcap', e1, k3, k4, k5⟩ := hrk
            cases e1
            cases ka with
            | none => exact absurd (k4 rfl).1 (by omega)
            | some ga =>
              obtain ⟨g, go, gs⟩ := ga
              have q := xy.cells _ _ (k5 _ rfl n (.int .i64 j) (by rw [List.getElem?_map, hx]; rfl))
              have qu := fun u : ExtOf wr => u.ext.cells _ _ q
              have HX := Lib.hid hx
              have HJ := Lib.hid hj
              obtain ⟨lv, hlv⟩ : ∃ lv, lv = T.within k 0 := ⟨_, rfl⟩
              obtain ⟨zk, hzk⟩ : ∃ z, z = T.height k := ⟨_, rfl⟩
              obtain ⟨zj, hzj⟩ : ∃ z, z = T.height j := ⟨_, rfl⟩
              obtain ⟨dk, hdk⟩ : ∃ z, z = (d k : Int) := ⟨_, rfl⟩
              have hd50 := HW.out.d50 HN.out
              have BJ := Lib.hid (show Told T d j kd k (dk + 1) zj lv from ⟨hj, hjp, by rw [hjd, hdk], hzj.symm, by rw [hjl, hlv]⟩)
              have BN := Lib.hid (show Told T d k nd nd.parent dk zk lv from ⟨HN.out, rfl, hdk.symm, hzk.symm, hlv.symm⟩)
              have HJP := Lib.hid hjp
              rw [← hzk, ← hzj] at hjh
              have hh : decide (zk ≤ zj) = false := by rw [decide_eq_false_iff_not]; omega
              have e1 : IntKind.i64.wrap (dk + 1) = dk + 1 := IntWalk.i64_in _ (by omega)
              have HXW := Lib.hid xy
              clear xy k5 q hx hj hjh hlv hzk hzj hdk hjp hjd hjl hd50
              go_upto_region 14 with fail
              refine wp_region_ext (by kernel_rfl) (by kernel_rfl) ?_
              repeat (go_big_quiet_step (first
                | (go_at_call 27; exact inExt (t_has HT.out HO.out (HXY.out.trans (ExtOf.ext _)) BJ.out))
                | (go_at_call 34; exact inExt (t_parent HT.out HO.out (HXY.out.trans (ExtOf.ext _)) BJ.out))
                | (go_at_call 35; exact inExt (s_index HT.out HO.out HW.out HJ.out (HXY.out.trans (ExtOf.ext _)) HJP.out HN.out HX.out))
                | (go_at_call 36; exact inExt (t_depth HT.out HO.out HW.out (HXY.out.trans (ExtOf.ext _)) (by first | exact BJ.out | exact BN.out)))
                | (go_at_call 50; exact inExt (t_height HT.out HO.out HW.out (HXY.out.trans (ExtOf.ext _)) (by first | exact BJ.out | exact BN.out)))
                | (go_at_call 28; exact inExt (t_live HT.out HO.out HW.out (HXY.out.trans (ExtOf.ext _)) (by first | exact BJ.out | exact BN.out)))))
              refine wpQuiet_nil ?_
              rintro _ ⟨u, rfl⟩
              clear qu
              go_wp2_with fail
              go_roundw
              case rel => exact ⟨n + 1, by omega, by go_num, HXW.out.trans u.ext⟩
              case measure => simp [intOf]; omega
          · have htx := HW.out.text k nd HN.out
            have hdk := HW.out.deep k nd HN.out
            have hd0 := HW.out.small.deep0
            have htag : ∀ P : Prop, (nd.tag = 0 → nd.kids.length = 0 → P) → (nd.tag ≠ 0 → P) → P := fun P h1 h2 => by
              by_cases h : nd.tag = 0
              · exact h1 h (by rw [htx.2.2 h]; rfl)
              · exact h2 h
            have HTAG := Lib.hid htag
            clear htag htx xy hrk HXK hn hx0
            rcases HW.out.up k nd HN.out with ⟨hp, hd⟩ | ⟨p, pd, hp, hpn, hpd, hpk⟩
            · have hl := HW.out.within_root HN.out hp 0
              by_cases hk0 : (k : Int) = 0
              · have hk1 : decide ((k : Int) = 0) = true := by simpa using hk0
                have he : ((k : Int) == 0) = true := by simpa using hk0
                rw [hk1] at hl
                have BK := Lib.hid (show Told T d k nd (-1) 0 (T.height k) true from ⟨HN.out, hp, by omega, rfl, hl⟩)
                clear hp hd hl hk1 hdk hk0
                refine HTAG.out _ (fun ht0 ht1 => ?_) (fun ht0 => ?_)
                all_goals go_wp2_with (first
              | (go_at_call 34; refine (u_parent HT.out HO.out (by first | exact HXY.out | exact HXI.out) (by first | exact BK.out | exact BP.out)).mono ?_; rintro e w' ⟨rfl, rfl⟩)
              | (go_at_call 36; refine (u_depth HT.out HO.out HW.out (by first | exact HXY.out | exact HXI.out) (by first | exact BK.out | exact BP.out)).mono ?_; rintro e w' ⟨rfl, rfl⟩)
              | (go_at_call 27; refine (u_has HT.out HO.out (by first | exact HXY.out | exact HXI.out) (by first | exact BK.out | exact BP.out)).mono ?_; rintro e w' ⟨rfl, rfl⟩)
              | (go_at_call 28; refine (u_live HT.out HO.out HW.out (by first | exact HXY.out | exact HXI.out) (by first | exact BK.out | exact BP.out)).mono ?_; rintro e w' ⟨rfl, rfl⟩)
              | (go_at_call 46; refine (u_tag HT.out HO.out (by first | exact HXY.out | exact HXI.out) (by first | exact BK.out | exact BP.out)).mono ?_; rintro e w' ⟨rfl, rfl⟩))
                · go_roundw
                  case rel => exact ⟨k + 1, by omega, by go_num, by rw [hs2, hc]; (first | rfl | (simp; done) | go_num), HXY.out⟩
                  case measure => simp [intOf]; omega
                · go_roundw
                  case rel => exact ⟨k + 1, by omega, by go_num, by rw [hs2, hc]; (first | rfl | (simp; done) | go_num), HXY.out⟩
                  case measure => simp [intOf]; omega
              · have hk1 : decide ((k : Int) = 0) = false := by simpa using hk0
                have he : ((k : Int) == 0) = false := by simpa using hk0
                rw [hk1] at hl
                have BK := Lib.hid (show Told T d k nd (-1) 0 (T.height k) false from ⟨HN.out, hp, by omega, rfl, hl⟩)
                clear hp hd hl hk1 hdk hk0
                refine HTAG.out _ (fun ht0 ht1 => ?_) (fun ht0 => ?_)
                all_goals go_wp2_with (first
              | (go_at_call 34; refine (u_parent HT.out HO.out (by first | exact HXY.out | exact HXI.out) (by first | exact BK.out | exact BP.out)).mono ?_; rintro e w' ⟨rfl, rfl⟩)
              | (go_at_call 36; refine (u_depth HT.out HO.out HW.out (by first | exact HXY.out | exact HXI.out) (by first | exact BK.out | exact BP.out)).mono ?_; rintro e w' ⟨rfl, rfl⟩)
              | (go_at_call 27; refine (u_has HT.out HO.out (by first | exact HXY.out | exact HXI.out) (by first | exact BK.out | exact BP.out)).mono ?_; rintro e w' ⟨rfl, rfl⟩)
              | (go_at_call 28; refine (u_live HT.out HO.out HW.out (by first | exact HXY.out | exact HXI.out) (by first | exact BK.out | exact BP.out)).mono ?_; rintro e w' ⟨rfl, rfl⟩)
              | (go_at_call 46; refine (u_tag HT.out HO.out (by first | exact HXY.out | exact HXI.out) (by first | exact BK.out | exact BP.out)).mono ?_; rintro e w' ⟨rfl, rfl⟩))
                · go_roundw
                  case rel => exact ⟨k + 1, by omega, by go_num, by rw [hs2, hc]; (first | rfl | (simp; done) | go_num), HXY.out⟩
                  case measure => simp [intOf]; omega
                · go_roundw
                  case rel => exact ⟨k + 1, by omega, by go_num, by rw [hs2, hc]; (first | rfl | (simp; done) | go_num), HXY.out⟩
                  case measure => simp [intOf]; omega
            · have hk0 : (k : Int) ≠ 0 := fun e => by
                have e' : k = 0 := by omega
                subst e'
                obtain rfl := some_inj2 HR.out HN.out
                omega
              have hl := HW.out.within_step HN.out 0
              rw [if_neg hk0, hp] at hl
              have he : ((k : Int) == 0) = false := by simpa using hk0
              obtain ⟨lv, hlv⟩ : ∃ lv, lv = T.within k 0 := ⟨_, rfl⟩
              rw [← hlv] at hl
              obtain ⟨dk, hdk'⟩ : ∃ z, z = (d k : Int) := ⟨_, rfl⟩
              rw [← hdk'] at hdk
              have hpt : (pd.tag == 0) = false := by rw [beq_eq_false_iff_ne]; exact fun e => by rw [(HW.out.text p pd hpn).2.2 e] at hpk; cases hpk
              obtain ⟨n', hn'⟩ := List.mem_iff_getElem?.1 hpk
              have BK := Lib.hid (show Told T d k nd p dk (T.height k) lv from ⟨HN.out, hp, hdk'.symm, rfl, hlv.symm⟩)
              have BP := Lib.hid (show Told T d p pd pd.parent (d p) (T.height p) lv from ⟨hpn, rfl, rfl, rfl, hl.symm⟩)
              have HP := Lib.hid hp
              have HPN := Lib.hid hpn
              have HPK := Lib.hid hn'
              clear hp hl hlv hpn hpk hpd hn' hdk' hk0
              refine HTAG.out _ (fun ht0 ht1 => ?_) (fun ht0 => ?_)
              all_goals go_wp2_with (first
              | (go_at_call 34; refine (u_parent HT.out HO.out (by first | exact HXY.out | exact HXI.out) (by first | exact BK.out | exact BP.out)).mono ?_; rintro e w' ⟨rfl, rfl⟩)
              | (go_at_call 36; refine (u_depth HT.out HO.out HW.out (by first | exact HXY.out | exact HXI.out) (by first | exact BK.out | exact BP.out)).mono ?_; rintro e w' ⟨rfl, rfl⟩)
              | (go_at_call 27; refine (u_has HT.out HO.out (by first | exact HXY.out | exact HXI.out) (by first | exact BK.out | exact BP.out)).mono ?_; rintro e w' ⟨rfl, rfl⟩)
              | (go_at_call 28; refine (u_live HT.out HO.out HW.out (by first | exact HXY.out | exact HXI.out) (by first | exact BK.out | exact BP.out)).mono ?_; rintro e w' ⟨rfl, rfl⟩)
              | (go_at_call 46; refine (u_tag HT.out HO.out (by first | exact HXY.out | exact HXI.out) (by first | exact BK.out | exact BP.out)).mono ?_; rintro e w' ⟨rfl, rfl⟩)
              | (go_at_call 35; refine (s_index HT.out HO.out HW.out HN.out HXY.out HP.out HPN.out HPK.out).mono ?_; rintro e wi ⟨rfl, hyi⟩; have HXI := Lib.hid (HXY.out.trans hyi); clear hyi))
              · go_roundw
                case rel => exact ⟨k + 1, by omega, by go_num, by rw [hs2, hc]; (first | rfl | (simp; done) | go_num), HXI.out⟩
                case measure => simp [intOf]; omega
              · go_roundw
                case rel => exact ⟨k + 1, by omega, by go_num, by rw [hs2, hc]; (first | rfl | (simp; done) | go_num), HXI.out⟩
                case measure => simp [intOf]; omega
    · have hcm : c = m := by omega
      have r1 := HR.out
      have hz := r2
      go_wp2_with (first
        | (go_at_call 19; refine (Count_any (HT.out.keep (HXR.out.keep HO.out))).mono ?_; rintro e w' ⟨rfl, rfl⟩; rw [hcount])
        | (go_at_call 27; refine (s_has (i := 0) HT.out HO.out HR.out HXR.out).mono ?_; rintro e w' ⟨rfl, rfl⟩)
        | (go_at_call 34; refine (s_parent (i := 0) HT.out HO.out HR.out HXR.out r2).mono ?_; rintro e w' ⟨rfl, rfl⟩)
        | (go_at_call 46; refine (s_tag (i := 0) HT.out HO.out HR.out HXR.out).mono ?_; rintro e w' ⟨rfl, rfl⟩; rw [r3]))
      go_ret
      exact ⟨by simp, HXR.out⟩
end Go.Proofs.Ytiglflmjidikpaa
