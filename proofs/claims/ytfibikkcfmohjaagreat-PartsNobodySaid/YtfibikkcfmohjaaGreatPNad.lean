/- what of V1 V2 V2b V3 W1 W2 W3 W4 VQ VA VB VC VD VE VF VG VH VI VJ VK VL VR VS VU VV VT VW VX VY VAA VTB VTC VTD VTE D0 DB DA DC DD DE DF DG DH DI DJ DK DL DM DN DOa DP EY EA EB EC ED EE EF EFa EFb EFc EFd EFe EG EH EJ GA GP GN GB GC GD GE GF GG GH GI GJ GK GL GM GO GQ GR GS is leant on -/
import Derived.Test.YtfibikkcfmohjaaGreatPNac
set_option linter.unusedVariables false
set_option linter.unusedSimpArgs false
set_option maxRecDepth 100000
set_option maxHeartbeats 4000000
namespace Go.Proofs.YtfibikkcfmohjaaGreat
open Go Go.RowKit Go.BigFrame
def Tr.splitText (T : Tr) (i m : Nat) (nd : Nd) (a : Nat) : Tr := if 0 ≤ nd.parent then T.cut3 i m nd a nd.parent.toNat (T.idx i + 1).toNat (T.look nd.parent) else T.cut2 i nd a
section
variable {T : Tr} {d : Nat → Nat} {i m : Nat} {nd : Nd} {a : Nat} {H : List Hd}
theorem lengthOf_text {i : Nat} {nd : Nd} (h : T.nodes[i]? = some (some nd)) (ht : nd.tag = 0) : T.lengthOf i = (runes nd.text : Int) := by
  rw [lengthOf_eq, Tr.get_of h]
  show (if nd.tag = -1 then (-1 : Int) else if nd.tag = 0 then (runes nd.text : Int) else (nd.kids.length : Int)) = _
  rw [if_neg (by omega), if_pos ht]
theorem get_same {T T' : Tr} {n : Int} (h1 : ∀ nd, T.get? n = some nd → T'.get? n = some nd) (h2 : ∀ nd, T'.get? n = some nd → T.get? n = some nd) : T'.get? n = T.get? n := by
  cases e : T.get? n with
  | some x => exact h1 x e
  | none =>
    cases e2 : T'.get? n with
    | none => rfl
    | some y => rw [h2 y e2] at e; cases e
theorem CutOk.get2 (h : CutOk T d i m nd a) {n : Int} (h1 : n ≠ i) (h2 : n ≠ m) : (T.cut2 i nd a).get? n = T.get? n := by
  refine get_same (fun x hx => ?_) fun x hx => ?_
  · obtain ⟨j, rfl, hj⟩ := nat_of hx
    exact Tr.get_of (h.old2 j x (by omega) hj)
  · obtain ⟨j, rfl, hj⟩ := nat_of hx
    exact Tr.get_of (h.back2 j x (by omega) (by omega) hj)
theorem CutOk.len2 (h : CutOk T d i m nd a) (ht : nd.tag = 0) (hal : a ≤ runes nd.text) : (T.cut2 i nd a).lengthOf i = a ∧ (T.cut2 i nd a).lengthOf m = (runes nd.text : Int) - a ∧ ∀ n : Int, n ≠ i → n ≠ m → (T.cut2 i nd a).lengthOf n = T.lengthOf n := by
  refine ⟨?_, ?_, fun n h1 h2 => by rw [lengthOf_eq, lengthOf_eq, h.get2 h1 h2]⟩
  · rw [lengthOf_text h.at2 ht]
    show (runes (headB nd.text a) : Int) = a
    rw [runes_headB _ _ hal]
  · rw [lengthOf_text h.new2 rfl]
    show (runes (tailB nd.text a) : Int) = _
    rw [runes_tailB]
    omega
theorem kid_idx (hw : WF T d) {p : Nat} {pd : Nd} (hn : T.nodes[i]? = some (some nd)) (hp : nd.parent = (p : Int)) (hpd : T.nodes[p]? = some (some pd)) (hk : (i : Int) ∈ pd.kids) : T.idx i = (pd.kids.idxOf (i : Int) : Int) ∧ pd.kids.idxOf (i : Int) < pd.kids.length := by
  refine ⟨?_, List.idxOf_lt_length_of_mem hk⟩
  unfold Tr.idx
  rw [Tr.get_of hn]
  show (match T.get? nd.parent with | none => (-1 : Int) | some pd => posOf pd.kids i) = _
  rw [hp, Tr.get_of hpd]
  exact (posOf_mem hk).1
theorem idx_root (hn : T.nodes[i]? = some (some nd)) (hp : nd.parent = -1) : T.idx i = -1 := by
  unfold Tr.idx
  rw [Tr.get_of hn]
  show (match T.get? nd.parent with | none => (-1 : Int) | some pd => posOf pd.kids i) = _
  rw [hp, get_neg T (by decide)]
theorem pSplitText_yes (h : StOk T H) (hl : H.length ≤ 50000) (hn : T.nodes[i]? = some (some nd)) (ht : nd.tag = 0) (hal : a ≤ runes nd.text) (hroom : T.count < T.cap) :
    ∃ m : Nat, T.newId = (m : Int) ∧ StOk (T.splitText i m nd a) (H.map (moved (cutP i a m nd.parent (T.idx i)))) ∧
      ∀ (w : World) (own : Ow) (ptr : Nat → Nat) (lb tb : Nat) (hv : Value) (hb : Option Nat), LiveAt w own ptr lb tb T hv hb H →
        Calls Tryz.prog 10 #[.pointer (some ⟨lb, 0, none⟩), .int .i64 i, .int .i64 a] w (LTwo own lb tb hb w m 0 (T.splitText i m nd a) (H.map (moved (cutP i a m nd.parent (T.idx i))))) := by
  obtain ⟨⟨d, hw⟩, hat⟩ := h.good
  have hG : GoodT T := ⟨⟨d, hw⟩, hat⟩
  obtain ⟨m, hc⟩ := cut_ok hw hat h.utf hn ht a (by omega)
  have hut := h.utf i nd hn
  have hts := (hat i nd hn).2
  have hsz := headB_size nd.text a hut
  have hS1 : StOk (T.cut1 nd a) H := ⟨hc.good1, hc.keeps.mayH h.may, h.offs, h.utf.put (tailB_anew nd.text a)⟩
  obtain ⟨c, hS2, p2⟩ := SetText_live (T := T.cut1 nd a) (T' := T.cut2 i nd a) (id := (i : Int)) (er := 0) (s := headB nd.text a) hS1 (by omega) (by omega) hc.good2 (.inr ⟨rfl, i, nd, rfl, hc.at1, ht, by rw [headB_anew]; rfl⟩) (fun w own ptr tb hT hO => by
    have h9 := SetText_ok hT hO hc.at1 (by simp [ht]) (headB nd.text a) (by omega) (by rw [headB_anew]; omega)
    rw [headB_anew] at h9
    exact h9)
  have s1 : ∀ (W : World) (o : Ow) (p : Nat → Nat) (tb : Nat), TreeAt W o p tb T → Owned o W → Calls Tryz.prog 52 #[.pointer (some ⟨tb, 0, none⟩), .string (tailB nd.text a)] W (TwoAfter o W tb m (T.cut1 nd a)) := fun W o p tb hT hO => by
    have h9 := Text_ok hT hO hw (tailB nd.text a) (by omega) (by rw [tailB_anew]; omega) (by omega)
    rw [tailB_anew, hc.id] at h9
    exact h9
  obtain ⟨l1, l2, l3⟩ := hc.len2 ht hal
  have hli := lengthOf_text hn ht
  have hlm : T.lengthOf m = -1 := by rw [lengthOf_eq, hc.none]
  have hsm := len_small hG (Tr.get_of hn)
  have hms := len_small hc.good2 (Tr.get_of hc.new2)
  have oi : okI (i : Int) := by unfold okI; omega
  have oa : okI (a : Int) := by unfold okI; omega
  have om : okI (m : Int) := by unfold okI; omega
  rcases hw.up i nd hn with ⟨hp, _⟩ | ⟨p, pd, hp, hpd, hd, hk⟩
  · have hx := idx_root hn hp
    have hT3 : T.splitText i m nd a = T.cut2 i nd a := by
      unfold Tr.splitText
      rw [if_neg (by omega)]
    have hmay : ∀ n x, T.may n x = true → (T.cut2 i nd a).may (cutP i a m nd.parent (-1) n x).1 (cutP i a m nd.parent (-1) n x).2 = true := fun n x hm =>
      may_cut (id := (i : Int)) (f := (m : Int)) l1 (by rw [l2, hli]) (fun h => by omega) (fun n h1 h2 _ => l3 n h1 h2) hlm (by omega) (fun _ => by rw [lengthOf_eq, get_neg T (by omega)]) (by omega) hm
    refine ⟨m, hc.id, ?_, fun w own ptr lb tb hv hb hL => ?_⟩
    · rw [hT3, hx]
      exact ⟨hc.good2, h.may.map hmay, offs_moved _ h.offs, hS2.utf⟩
    · rw [hT3, hx]
      exact pSplitText_does (m := m) (T1 := T.cut1 nd a) (T2 := T.cut2 i nd a) (T3 := T.cut2 i nd a) hL hw hat hl h.okH hn ht hal hroom hx (by omega) oi oa om (by rw [hp]; unfold okI; omega) hc.good2 (SameOff.movedIf H 0 _) (fun y hy h0 => hmay _ _ (h.may y hy h0))
        (fun W o p hT hO => s1 W o p tb hT hO) (fun W o p hv b hL => p2 W o p lb tb hv b hL) (fun h => by omega) (fun _ => ⟨rfl, rfl⟩)
  · obtain ⟨hpi, hpm, htag, hp2, hin, hdp⟩ := hc.up hw hn hp hpd hk hd
    obtain ⟨hx, hxl⟩ := kid_idx hw hn hp hpd hk
    have hkl := hw.kids_len hpd
    obtain ⟨x, hxe⟩ : ∃ x, pd.kids.idxOf (i : Int) = x := ⟨_, rfl⟩
    rw [hxe] at hx hxl
    have hlook : T.look nd.parent = pd := by rw [hp]; exact look_of hpd
    have hT3 : T.splitText i m nd a = T.cut3 i m nd a p (x + 1) pd := by
      unfold Tr.splitText
      rw [if_pos (by omega), hlook, hx, hp]
      rfl
    have htb : (pd.tag == 0) = false := by simpa using htag
    have hG3 : GoodT (T.cut3 i m nd a p (x + 1) pd) := ⟨⟨_, hc.wf2.link hp2 hc.new2 htag hc.ne0 rfl hin hdp⟩, by
      show AttrsOk ((T.cut2 i nd a).link p (x + 1) m pd _)
      rw [Tr.link_eq]
      exact hc.attrs2.set2 (show NdOk pd from hc.attrs2 _ _ hp2) (show NdOk (⟨0, [], tailB nd.text a, [], -1⟩ : Nd) from hc.attrs2 _ _ hc.new2)⟩
    obtain ⟨hS3, p3⟩ := Insert_live (T := T.cut2 i nd a) (T' := T.cut3 i m nd a p (x + 1) pd) (p := (p : Int)) (q := ((x + 1 : Nat) : Int)) (k := (m : Int)) (er := 0) hS2 (by rw [(movedD_is 0 _ H).2.2]; omega) hG3 (.inr ⟨rfl, p, x + 1, m, pd, _, rfl, rfl, rfl, hp2, hc.new2, htag, hpm, rfl, by omega, rfl⟩)
      (fun w own ptr tb hT hO => Insert_ok hT hO hc.wf2 hp2 hc.new2 htb hc.ne0 rfl (by omega) (by omega) hin hdp (insertsAt_any _ _))
    obtain ⟨k1, k2⟩ := link_len (a := x + 1) hp2 hc.new2 hpm htag (tag_ne hc.wf2 hp2) (by omega)
    have hmay : ∀ n y, T.may n y = true → (T.cut3 i m nd a p (x + 1) pd).may (cutP i a m nd.parent x n y).1 (cutP i a m nd.parent x n y).2 = true := fun n y hm => by
      rw [hp]
      exact may_cut (id := (i : Int)) (f := (m : Int)) (u := (p : Int)) (by rw [show (T.cut3 i m nd a p (x + 1) pd).lengthOf i = _ from k1 i (by omega), l1]) (by rw [show (T.cut3 i m nd a p (x + 1) pd).lengthOf m = _ from k1 m (by omega), l2, hli]) (fun _ => by rw [show (T.cut3 i m nd a p (x + 1) pd).lengthOf p = _ from k2, l3 p (by omega) (by omega)])
        (fun n h1 h2 h3 => by rw [show (T.cut3 i m nd a p (x + 1) pd).lengthOf n = _ from k1 n h3, l3 n h1 h2]) hlm (by omega) (fun h => by omega) (by omega) hm
    refine ⟨m, hc.id, ?_, fun w own ptr lb tb hv hb hL => ?_⟩
    · rw [hT3, hx]
      exact ⟨hG3, h.may.map hmay, offs_moved _ h.offs, hS3.utf⟩
    · rw [hT3, hx]
      exact pSplitText_does (m := m) (x := (x : Int)) (T1 := T.cut1 nd a) (T2 := T.cut2 i nd a) (T3 := T.cut3 i m nd a p (x + 1) pd) hL hw hat hl h.okH hn ht hal hroom hx (by omega) oi oa om (by rw [hp]; have := len_small hG (Tr.get_of hpd); unfold okI; omega) hG3 ((SameOff.movedIf H 0 _).trans (SameOff.movedIf _ 0 _)) (fun y hy h0 => hmay _ _ (h.may y hy h0))
        (fun W o p hT hO => s1 W o p tb hT hO) (fun W o p hv b hL => p2 W o p lb tb hv b hL) (fun _ W o q hv b hL => by
          rw [hp, show ((x : Int) + 1) = ((x + 1 : Nat) : Int) by omega]
          exact p3 W o q lb tb hv b hL) (fun h => by omega)
end
structure JoinBox (lb : Nat) (i j u x l : Int) (b3 b4 b5 b6 b7 b8 : Nat) (w : World) : Prop where
  c3 : w.heap[b3]? = some (.cells #[.pointer (some ⟨lb, 0, none⟩)] 42 (0, 0))
  c4 : w.heap[b4]? = some (.cells #[.int .i64 i] 3 (0, 0))
  c5 : w.heap[b5]? = some (.cells #[.int .i64 j] 3 (0, 0))
  c6 : w.heap[b6]? = some (.cells #[.int .i64 u] 3 (0, 0))
  c7 : w.heap[b7]? = some (.cells #[.int .i64 x] 3 (0, 0))
  c8 : w.heap[b8]? = some (.cells #[.int .i64 l] 3 (0, 0))
theorem JoinBox.move {lb : Nat} {i j u x l : Int} {b3 b4 b5 b6 b7 b8 : Nat} {w w' : World} (h : JoinBox lb i j u x l b3 b4 b5 b6 b7 b8 w) (k : ∀ b, b = b3 ∨ b = b4 ∨ b = b5 ∨ b = b6 ∨ b = b7 ∨ b = b8 → w'.heap[b]? = w.heap[b]?) : JoinBox lb i j u x l b3 b4 b5 b6 b7 b8 w' :=
  ⟨(k _ (by simp)).trans h.c3, (k _ (by simp)).trans h.c4, (k _ (by simp)).trans h.c5, (k _ (by simp)).trans h.c6, (k _ (by simp)).trans h.c7, (k _ (by simp)).trans h.c8⟩
theorem told_txt {w : World} {own : Ow} {ptr : Nat → Nat} {tb : Nat} {T : Tr} (hT : TreeAt w own ptr tb T) (k : Int) : Calls Tryz.prog 49 #[.pointer (some ⟨tb, 0, none⟩), .int .i64 k] w (RVal (.string (T.txt k)) w) := by
  unfold Tr.txt
  cases hg : T.get? k with
  | none => exact RSame.ext (Told_none hT hg)
  | some nd => exact RSame.ext (Told_some hT hg)
section
variable {own : Ow} {lb tb : Nat} {hb : Option Nat} {w wk : World} {L : Nat → Prop} {T T1 T2 T3 : Tr} {H H1 H2 H3 : List Hd} {i j b3 b4 b5 b6 b7 b8 : Nat} {u x l : Int} {s t : ByteArray}
theorem does_join (hbx : JoinBox lb i j u x l b3 b4 b5 b6 b7 b8 wk) (hL : ∀ b, b = b3 ∨ b = b4 ∨ b = b5 ∨ b = b6 ∨ b = b7 ∨ b = b8 → L b) (hs : T.txt i = s) (ht : T.txt j = t) (hz : s.size + t.size ≤ 30000)
    (s1 : ∀ (W : World) (o : Ow) (p : Nat → Nat) (hv : Value) (b : Option Nat), LiveAt W o p lb tb T hv b H → Calls Tryz.prog 70 #[.pointer (some ⟨lb, 0, none⟩), .int .i64 j] W (LErr o lb tb b W 0 T1 H1))
    (s2 : ∀ (W : World) (o : Ow) (p : Nat → Nat) (hv : Value) (b : Option Nat), LiveAt W o p lb tb T1 hv b H1 → Calls Tryz.prog 71 #[.pointer (some ⟨lb, 0, none⟩), .int .i64 j] W (LErr o lb tb b W 0 T2 H2))
    (s3 : ∀ (W : World) (o : Ow) (p : Nat → Nat) (hv : Value) (b : Option Nat), LiveAt W o p lb tb T2 hv b H2 → Calls Tryz.prog 53 #[.pointer (some ⟨lb, 0, none⟩), .int .i64 i, .string (s ++ t)] W (LErr o lb tb b W 0 T3 H3)) :
    DoesK own lb tb hb w L T H T3 H3 wk (fun W => JoinBox lb i j u x l b3 b4 b5 b6 b7 b8 W) (.func (.func 170) #[] #[.pointer (some ⟨b3, 0, none⟩), .pointer (some ⟨b4, 0, none⟩), .pointer (some ⟨b5, 0, none⟩)]) := by
  refine ⟨_, _, rfl, enters_of Tryz.func170 (by kernel_rfl) rfl, fun L' W hsub hk hfr => ?_⟩
  have BW := qh (hbx.move (w' := W) fun b hb => hfr b (hL b hb))
  have HL := qh (fun b hb => hsub b (hL b hb))
  have HK := qh hk
  have S1 := qh s1
  have S2 := qh s2
  have S3 := qh s3
  have HT1 := qh (fun (v : ExtOf W) (k : Int) => inExt (u := v) (by
    obtain ⟨o, p, hv, b, h1⟩ := (hk.more v.ext).live
    exact told_txt h1.tree k))
  have HS := qh hs
  have HTT := qh ht
  have z1 : (T.txt i).size + (T.txt j).size ≤ 9223372036854775807 := by rw [hs, ht]; omega
  clear hbx hL s1 s2 s3 hsub hk hfr hz hs ht
  show Calls Tryz.prog 170 #[.pointer (some ⟨b3, 0, none⟩), .pointer (some ⟨b4, 0, none⟩), .pointer (some ⟨b5, 0, none⟩)] W _
  go_enter Tryz.func170, Tryz.ntmps170
  go_upto_region 0 with fail
  have r0 : ∀ v : ExtOf W, v.val.cell? ⟨lb, 0, none⟩ = some (.pointer (some ⟨tb, 0, none⟩)) := fun v => (HK.out.more v.ext).ptr_
  have r3 : ∀ v : ExtOf W, v.val.cell? ⟨b3, 0, none⟩ = some (.pointer (some ⟨lb, 0, none⟩)) := fun v => v.ext.cell (cellOf BW.out.c3 rfl)
  have r4 : ∀ v : ExtOf W, v.val.cell? ⟨b4, 0, none⟩ = some (.int .i64 i) := fun v => v.ext.cell (cellOf BW.out.c4 rfl)
  have r5 : ∀ v : ExtOf W, v.val.cell? ⟨b5, 0, none⟩ = some (.int .i64 j) := fun v => v.ext.cell (cellOf BW.out.c5 rfl)
  refine wp_region_ext (by kernel_rfl) (by kernel_rfl) ?_
  repeat (go_big_quiet_step ((go_at_call 49; exact HT1.out _ _)))
  refine wpQuiet_nil ?_
  rintro _ ⟨v, rfl⟩
  have hx1 := v.ext
  obtain ⟨w1, hw1⟩ : ∃ V, v.val = V := ⟨_, rfl⟩
  rw [hw1] at hx1 ⊢
  clear r0 r3 r4 r5 hw1 z1 HT1
  clear v
  rw [HS.out, HTT.out]
  have HK1 := qh (HK.out.more hx1)
  have HF1 := qh (fun b (hb : L' b) => Below.block hx1 b (by obtain ⟨_, _, _, _, _, _, h3⟩ := HK.out.out; exact (h3 b hb).2.2))
  have B1 := qh (BW.out.move (w' := w1) fun b hb => HF1.out b (HL.out b hb))
  clear hx1
  have y3 := cellOf B1.out.c3 (i := 0) rfl
  have y5 := cellOf B1.out.c5 (i := 0) rfl
  go_wp2_with (go_at_call 70; refine (HK1.out.call (v := .int .i64 0) fun o p hv b h => S1.out _ o p hv b h).mono ?_)
  rintro e w2 ⟨rfl, hk2, hf2⟩
  have HK2 := qh hk2
  have HF2 := qh (fun b (hb : L' b) => (hf2 b hb).trans (HF1.out b hb))
  have B2 := qh (BW.out.move (w' := w2) fun b hb => HF2.out b (HL.out b hb))
  clear hk2 hf2 y3 y5
  have y3 := cellOf B2.out.c3 (i := 0) rfl
  have y5 := cellOf B2.out.c5 (i := 0) rfl
  go_wp2_with (go_at_call 71; refine (HK2.out.call (v := .int .i64 0) fun o p hv b h => S2.out _ o p hv b h).mono ?_)
  rintro e w3 ⟨rfl, hk3, hf3⟩
  have HK3 := qh hk3
  have HF3 := qh (fun b (hb : L' b) => (hf3 b hb).trans (HF2.out b hb))
  have B3 := qh (BW.out.move (w' := w3) fun b hb => HF3.out b (HL.out b hb))
  clear hk3 hf3 y3 y5
  have y3 := cellOf B3.out.c3 (i := 0) rfl
  have y4 := cellOf B3.out.c4 (i := 0) rfl
  go_wp2_with (go_at_call 53; refine (HK3.out.call (v := .int .i64 0) fun o p hv b h => S3.out _ o p hv b h).mono ?_)
  rintro e w4 ⟨rfl, hk4, hf4⟩
  have HF := qh (And.intro hk4 (And.intro (fun b (hb : L' b) (_ : ¬ L b) => (hf4 b hb).trans (HF3.out b hb)) (BW.out.move (w' := w4) fun b hb => (hf4 b (HL.out b hb)).trans (HF3.out b (HL.out b hb)))))
  clear hk4 hf4 y3 y4
  go_wp2_with fail
  go_end0
  exact ⟨rfl, HF.out⟩
end
section
variable {w : World} {own : Ow} {ptr : Nat → Nat} {lb tb : Nat} {T T1 T2 T3 : Tr} {hv : Value} {hb : Option Nat} {H H1 H2 H3 : List Hd} {d : Nat → Nat} {s t : ByteArray}
def JoinIs (own : Ow) (lb tb : Nat) (hb : Option Nat) (w : World) (T' : Tr) (H' : List Hd) (e : Ending) (w' : World) : Prop := e = .returned (.tuple #[]) ∧ LAfter own lb tb hb w T' H' w'
theorem pJoin_does (hL : LiveAt w own ptr lb tb T hv hb H) (hw : WF T d) (hat : AttrsOk T) (hl : H.length ≤ 50000) (hok : okH H) {i j l : Nat} {u x : Int} (hu : T.up i = u) (hx : T.idx j = x) (hle : T.lengthOf i = (l : Int))
    (hoi : okI i) (hoj : okI j) (hol : okI l) (hou : okI u) (hox : okI x) (hs : T.txt i = s) (ht : T.txt j = t) (hz : s.size + t.size ≤ 30000)
    (hG : GoodT T3) (hso : SameOff H H3) (hmay : ∀ y ∈ H, y.off = 0 → T3.may (joinP i j l u x y.node y.at').1 (joinP i j l u x y.node y.at').2 = true)
    (s1 : ∀ (W : World) (o : Ow) (p : Nat → Nat) (hv : Value) (b : Option Nat), LiveAt W o p lb tb T hv b H → Calls Tryz.prog 70 #[.pointer (some ⟨lb, 0, none⟩), .int .i64 j] W (LErr o lb tb b W 0 T1 H1))
    (s2 : ∀ (W : World) (o : Ow) (p : Nat → Nat) (hv : Value) (b : Option Nat), LiveAt W o p lb tb T1 hv b H1 → Calls Tryz.prog 71 #[.pointer (some ⟨lb, 0, none⟩), .int .i64 j] W (LErr o lb tb b W 0 T2 H2))
    (s3 : ∀ (W : World) (o : Ow) (p : Nat → Nat) (hv : Value) (b : Option Nat), LiveAt W o p lb tb T2 hv b H2 → Calls Tryz.prog 53 #[.pointer (some ⟨lb, 0, none⟩), .int .i64 i, .string (s ++ t)] W (LErr o lb tb b W 0 T3 H3)) :
    Calls Tryz.prog 138 #[.pointer (some ⟨lb, 0, none⟩), .int .i64 i, .int .i64 j] w (JoinIs own lb tb hb w T3 (H.map (moved (joinP i j l u x)))) := by
  have xa := (Ext.refl w).alloc (.cells #[.pointer (some ⟨lb, 0, none⟩)] 42)
  have ba := heap_alloc_new w (.cells #[.pointer (some ⟨lb, 0, none⟩)] 42)
  obtain ⟨wa, hwa⟩ : ∃ W : World, W = w.alloc (.cells #[.pointer (some ⟨lb, 0, none⟩)] 42) := ⟨_, rfl⟩
  have sa : wa.heap.size = w.heap.size + 1 := by rw [hwa]; simp
  rw [← hwa] at xa ba
  have xb := (Ext.refl wa).alloc (.cells #[.int .i64 i] 3)
  have bb := heap_alloc_new wa (.cells #[.int .i64 i] 3)
  obtain ⟨wb, hwb⟩ : ∃ W : World, W = wa.alloc (.cells #[.int .i64 i] 3) := ⟨_, rfl⟩
  have sb : wb.heap.size = wa.heap.size + 1 := by rw [hwb]; simp
  rw [← hwb] at xb bb
  have xc := (Ext.refl wb).alloc (.cells #[.int .i64 j] 3)
  have bc := heap_alloc_new wb (.cells #[.int .i64 j] 3)
  obtain ⟨wc, hwc⟩ : ∃ W : World, W = wb.alloc (.cells #[.int .i64 j] 3) := ⟨_, rfl⟩
  rw [← hwc] at xc bc
  obtain ⟨b3, hb3⟩ : ∃ b, w.heap.size = b := ⟨_, rfl⟩
  have hb4 : wa.heap.size = b3 + 1 := by omega
  have hb5 : wb.heap.size = b3 + 1 + 1 := by omega
  rw [hb3] at ba
  rw [hb4] at bb
  rw [hb5] at bc
  have B3 := qh ((xb.trans xc).block ba)
  have B4 := qh (xc.block bb)
  have B5 := qh bc
  have XC := qh ((xa.trans xb).trans xc)
  have HWA := qh hwa
  have HWB := qh hwb
  have HWC := qh hwc
  have HSA := qh hb3
  have HH := qh hL
  have HPA := qh (fun (W : World) (y : Ext w W) => by
    have h9 := at_up ((hL.ext y).tree.tat (hL.ext y).ownd) (i : Int)
    rw [hu] at h9
    exact h9)
  have HIX := qh (fun (W : World) (y : Ext w W) => by
    have h9 := at_idx ((hL.ext y).tree.tat (hL.ext y).ownd) hw (j : Int)
    rw [hx] at h9
    exact h9)
  have HLE := qh (fun (W : World) (y : Ext w W) => by
    have h9 := Length_any ((hL.ext y).tree.tat (hL.ext y).ownd) hw hat (i : Int)
    rw [hle] at h9
    exact h9)
  have HO := qh (And.intro hoi (And.intro hoj (And.intro hol (And.intro hou hox))))
  have HZ := qh hz
  have HG := qh hG
  have HSO := qh hso
  have HMAY := qh hmay
  have HOK := qh hok
  have HL := qh hl
  have HS := qh hs
  have HTT := qh ht
  have S1 := qh s1
  have S2 := qh s2
  have S3 := qh s3
  clear hL hw hat hl hok hu hx hle hoi hoj hol hou hox hz hG hso hmay hs ht s1 s2 s3 xa ba hwa sa xb bb hwb sb xc bc hwc hb3 hb4 hb5
  go_enter Tryz.func138, Tryz.ntmps138
  go_upto_region 1 with fail
  rw [HSA.out, ← HWA.out, ← HWB.out, ← HWC.out]
  go_cut [6, 7, 8] (fun p q r wx => ∃ bp bq br : Nat, p = .pointer (some ⟨bp, 0, none⟩) ∧ q = .pointer (some ⟨bq, 0, none⟩) ∧ r = .pointer (some ⟨br, 0, none⟩) ∧ Ext wc wx ∧ wx.heap[bp]? = some (.cells #[.int .i64 u] 3 (0, 0)) ∧ wx.heap[bq]? = some (.cells #[.int .i64 x] 3 (0, 0)) ∧ wx.heap[br]? = some (.cells #[.int .i64 l] 3 (0, 0)) ∧ wc.heap.size ≤ bp ∧ wc.heap.size ≤ bq ∧ wc.heap.size ≤ br)
  case first =>
    refine wp_region_N (S := fun w' => Ext wc w') (n := 24) (by kernel_rfl) ?_
    have hS : Ext wc wc.drew := (Ext.refl wc).drew
    obtain ⟨wz, hwz⟩ : ∃ V : World, V = wc.drew := ⟨_, rfl⟩
    rw [← hwz] at hS ⊢
    clear hwz
    show wpN _ _ _ _ _ 24 24 (Array.replicate 24 false) _ _
    have y3 := cellOf B3.out (i := 0) rfl
    have y4 := cellOf B4.out (i := 0) rfl
    have y5 := cellOf B5.out (i := 0) rfl
    have yt := (HH.out.ext XC.out).ptr_
    refine wpN_take (i := 0) (v := .pointer (some ⟨lb, 0, none⟩)) (o := { dst := some 9, op := _, type := _, pos := _, after := _, guard := none }) rfl (by kernel_rfl) (by kernel_rfl) (by kernel_rfl) (by kernel_rfl) (by kernel_rfl) (fun _ _ _ h => h) (Or.inl ⟨by rfl, fun w' hSw => ?_⟩) hS ?_
    · (have z3 := hSw.cell y3; have z4 := hSw.cell y4; have z5 := hSw.cell y5; have zt := hSw.cell yt; clear hS y3 y4 y5 yt; go_simp)
    try simp only [Act.put, zA, zB, zC]
    refine wpN_take (i := 1) (v := .pointer (some ⟨lb, 0, none⟩)) (o := { dst := some 10, op := _, type := _, pos := _, after := _, guard := none }) rfl (by kernel_rfl) (by kernel_rfl) (by kernel_rfl) (by kernel_rfl) (by kernel_rfl) (fun _ _ _ h => h) (Or.inl ⟨by rfl, fun w' hSw => ?_⟩) hS ?_
    · (have z3 := hSw.cell y3; have z4 := hSw.cell y4; have z5 := hSw.cell y5; have zt := hSw.cell yt; clear hS y3 y4 y5 yt; go_simp)
    try simp only [Act.put, zA, zB, zC]
    refine wpN_take (i := 2) (v := .pointer (some ⟨lb, 0, none⟩)) (o := { dst := some 11, op := _, type := _, pos := _, after := _, guard := none }) rfl (by kernel_rfl) (by kernel_rfl) (by kernel_rfl) (by kernel_rfl) (by kernel_rfl) (fun _ _ _ h => h) (Or.inl ⟨by rfl, fun w' hSw => ?_⟩) hS ?_
    · (have z3 := hSw.cell y3; have z4 := hSw.cell y4; have z5 := hSw.cell y5; have zt := hSw.cell yt; clear hS y3 y4 y5 yt; go_simp)
    try simp only [Act.put, zA, zB, zC]
    refine wpN_take (i := 3) (v := .pointer (some ⟨tb, 0, none⟩)) (o := { dst := some 12, op := _, type := _, pos := _, after := _, guard := none }) rfl (by kernel_rfl) (by kernel_rfl) (by kernel_rfl) (by kernel_rfl) (by kernel_rfl) (fun _ _ _ h => h) (Or.inl ⟨by rfl, fun w' hSw => ?_⟩) hS ?_
    · (have z3 := hSw.cell y3; have z4 := hSw.cell y4; have z5 := hSw.cell y5; have zt := hSw.cell yt; clear hS y3 y4 y5 yt; go_simp)
    try simp only [Act.put, zA, zB, zC]
    refine wpN_take (i := 4) (v := .int .i64 i) (o := { dst := some 13, op := _, type := _, pos := _, after := _, guard := none }) rfl (by kernel_rfl) (by kernel_rfl) (by kernel_rfl) (by kernel_rfl) (by kernel_rfl) (fun _ _ _ h => h) (Or.inl ⟨by rfl, fun w' hSw => ?_⟩) hS ?_
    · (have z3 := hSw.cell y3; have z4 := hSw.cell y4; have z5 := hSw.cell y5; have zt := hSw.cell yt; clear hS y3 y4 y5 yt; go_simp)
    try simp only [Act.put, zA, zB, zC]
    refine wpN_take (i := 6) (v := .pointer (some ⟨lb, 0, none⟩)) (o := { dst := some 15, op := _, type := _, pos := _, after := _, guard := none }) rfl (by kernel_rfl) (by kernel_rfl) (by kernel_rfl) (by kernel_rfl) (by kernel_rfl) (fun _ _ _ h => h) (Or.inl ⟨by rfl, fun w' hSw => ?_⟩) hS ?_
    · (have z3 := hSw.cell y3; have z4 := hSw.cell y4; have z5 := hSw.cell y5; have zt := hSw.cell yt; clear hS y3 y4 y5 yt; go_simp)
    try simp only [Act.put, zA, zB, zC]
    refine wpN_take (i := 7) (v := .pointer (some ⟨lb, 0, none⟩)) (o := { dst := some 16, op := _, type := _, pos := _, after := _, guard := none }) rfl (by kernel_rfl) (by kernel_rfl) (by kernel_rfl) (by kernel_rfl) (by kernel_rfl) (fun _ _ _ h => h) (Or.inl ⟨by rfl, fun w' hSw => ?_⟩) hS ?_
    · (have z3 := hSw.cell y3; have z4 := hSw.cell y4; have z5 := hSw.cell y5; have zt := hSw.cell yt; clear hS y3 y4 y5 yt; go_simp)
    try simp only [Act.put, zA, zB, zC]
    refine wpN_take (i := 8) (v := .pointer (some ⟨lb, 0, none⟩)) (o := { dst := some 17, op := _, type := _, pos := _, after := _, guard := none }) rfl (by kernel_rfl) (by kernel_rfl) (by kernel_rfl) (by kernel_rfl) (by kernel_rfl) (fun _ _ _ h => h) (Or.inl ⟨by rfl, fun w' hSw => ?_⟩) hS ?_
    · (have z3 := hSw.cell y3; have z4 := hSw.cell y4; have z5 := hSw.cell y5; have zt := hSw.cell yt; clear hS y3 y4 y5 yt; go_simp)
    try simp only [Act.put, zA, zB, zC]
    refine wpN_take (i := 9) (v := .pointer (some ⟨tb, 0, none⟩)) (o := { dst := some 18, op := _, type := _, pos := _, after := _, guard := none }) rfl (by kernel_rfl) (by kernel_rfl) (by kernel_rfl) (by kernel_rfl) (by kernel_rfl) (fun _ _ _ h => h) (Or.inl ⟨by rfl, fun w' hSw => ?_⟩) hS ?_
    · (have z3 := hSw.cell y3; have z4 := hSw.cell y4; have z5 := hSw.cell y5; have zt := hSw.cell yt; clear hS y3 y4 y5 yt; go_simp)
    try simp only [Act.put, zA, zB, zC]
    refine wpN_take (i := 10) (v := .int .i64 j) (o := { dst := some 19, op := _, type := _, pos := _, after := _, guard := none }) rfl (by kernel_rfl) (by kernel_rfl) (by kernel_rfl) (by kernel_rfl) (by kernel_rfl) (fun _ _ _ h => h) (Or.inl ⟨by rfl, fun w' hSw => ?_⟩) hS ?_
    · (have z3 := hSw.cell y3; have z4 := hSw.cell y4; have z5 := hSw.cell y5; have zt := hSw.cell yt; clear hS y3 y4 y5 yt; go_simp)
    try simp only [Act.put, zA, zB, zC]
    refine wpN_take (i := 12) (v := .pointer (some ⟨lb, 0, none⟩)) (o := { dst := some 21, op := _, type := _, pos := _, after := _, guard := none }) rfl (by kernel_rfl) (by kernel_rfl) (by kernel_rfl) (by kernel_rfl) (by kernel_rfl) (fun _ _ _ h => h) (Or.inl ⟨by rfl, fun w' hSw => ?_⟩) hS ?_
    · (have z3 := hSw.cell y3; have z4 := hSw.cell y4; have z5 := hSw.cell y5; have zt := hSw.cell yt; clear hS y3 y4 y5 yt; go_simp)
    try simp only [Act.put, zA, zB, zC]
    refine wpN_take (i := 13) (v := .pointer (some ⟨lb, 0, none⟩)) (o := { dst := some 22, op := _, type := _, pos := _, after := _, guard := none }) rfl (by kernel_rfl) (by kernel_rfl) (by kernel_rfl) (by kernel_rfl) (by kernel_rfl) (fun _ _ _ h => h) (Or.inl ⟨by rfl, fun w' hSw => ?_⟩) hS ?_
    · (have z3 := hSw.cell y3; have z4 := hSw.cell y4; have z5 := hSw.cell y5; have zt := hSw.cell yt; clear hS y3 y4 y5 yt; go_simp)
    try simp only [Act.put, zA, zB, zC]
    refine wpN_take (i := 14) (v := .pointer (some ⟨lb, 0, none⟩)) (o := { dst := some 23, op := _, type := _, pos := _, after := _, guard := none }) rfl (by kernel_rfl) (by kernel_rfl) (by kernel_rfl) (by kernel_rfl) (by kernel_rfl) (fun _ _ _ h => h) (Or.inl ⟨by rfl, fun w' hSw => ?_⟩) hS ?_
    · (have z3 := hSw.cell y3; have z4 := hSw.cell y4; have z5 := hSw.cell y5; have zt := hSw.cell yt; clear hS y3 y4 y5 yt; go_simp)
    try simp only [Act.put, zA, zB, zC]
    refine wpN_take (i := 15) (v := .pointer (some ⟨tb, 0, none⟩)) (o := { dst := some 24, op := _, type := _, pos := _, after := _, guard := none }) rfl (by kernel_rfl) (by kernel_rfl) (by kernel_rfl) (by kernel_rfl) (by kernel_rfl) (fun _ _ _ h => h) (Or.inl ⟨by rfl, fun w' hSw => ?_⟩) hS ?_
    · (have z3 := hSw.cell y3; have z4 := hSw.cell y4; have z5 := hSw.cell y5; have zt := hSw.cell yt; clear hS y3 y4 y5 yt; go_simp)
    try simp only [Act.put, zA, zB, zC]
    refine wpN_take (i := 16) (v := .int .i64 i) (o := { dst := some 25, op := _, type := _, pos := _, after := _, guard := none }) rfl (by kernel_rfl) (by kernel_rfl) (by kernel_rfl) (by kernel_rfl) (by kernel_rfl) (fun _ _ _ h => h) (Or.inl ⟨by rfl, fun w' hSw => ?_⟩) hS ?_
    · (have z3 := hSw.cell y3; have z4 := hSw.cell y4; have z5 := hSw.cell y5; have zt := hSw.cell yt; clear hS y3 y4 y5 yt; go_simp)
    try simp only [Act.put, zA, zB, zC]
    clear y3 y4 y5 yt
    have HS0 := qh hS
    clear hS
    refine name_act' fun A hA => with_wpN fun W hto hof => ?_
    have st_5_11_17_18_19_20 : ∀ (W1 : World) (bp : Nat) (bq : Nat) (br : Nat), Ext wc W1 → W1.heap[bp]? = some (.cells #[.int .i64 0] 3 (0, 0)) → wc.heap.size ≤ bp → W1.heap[bq]? = some (.cells #[.int .i64 0] 3 (0, 0)) → wc.heap.size ≤ bq → W1.heap[br]? = some (.cells #[.int .i64 0] 3 (0, 0)) → wc.heap.size ≤ br → bp ≠ bq → bp ≠ br → bq ≠ br → W 3 #[true, true, true, true, true, true, true, true, true, true, true, true, true, true, true, true, true, true, true, true, true, false, false, false] ((((((A.put (some 14) (.int .i64 u)).put (some 20) (.int .i64 x)).put (some 26) (.int .i64 l)).put (some 6) (.pointer (some ⟨bp, 0, none⟩))).put (some 7) (.pointer (some ⟨bq, 0, none⟩))).put (some 8) (.pointer (some ⟨br, 0, none⟩))) W1 := by
      intro W1 bp bq br hX hbp hbpg hbq hbqg hbr hbrg hne1819 hne1820 hne1920
      have X := qh hX
      have F_bp := qh hbp
      have F_bpg := qh hbpg
      have F_bq := qh hbq
      have F_bqg := qh hbqg
      have F_br := qh hbr
      have F_brg := qh hbrg
      have F_ne1819 := qh hne1819
      have F_ne1820 := qh hne1820
      have F_ne1920 := qh hne1920
      clear hX hbp hbpg hbq hbqg hbr hbrg hne1819 hne1820 hne1920
      rw [hA]
      try simp only [Act.put, zA, zB, zC]
      refine hto _ _ _ _ ?_
      have k0 := cellOf F_bp.out (i := 0) rfl
      have f0 := freeOf F_bp.out 0
      have hp1 : (W1.setCell ⟨bp, 0, none⟩ (.int .i64 u)).heap[bp]? = some (.cells #[.int .i64 u] 3 (0, 0)) := heap_setCell_same F_bp.out (.int .i64 u)
      have hq1 := (heap_setCell_other (p := ⟨bp, 0, none⟩) (.int .i64 u) (Ne.symm F_ne1819.out)).trans F_bq.out
      have hr1 := (heap_setCell_other (p := ⟨bp, 0, none⟩) (.int .i64 u) (Ne.symm F_ne1820.out)).trans F_br.out
      have HX1 := qh (X.out.setCell (p := ⟨bp, 0, none⟩) F_bpg.out (.int .i64 u))
      obtain ⟨V1, hV1⟩ : ∃ V : World, V = W1.setCell ⟨bp, 0, none⟩ (.int .i64 u) := ⟨_, rfl⟩
      rw [← hV1] at hp1 hq1 hr1 HX1
      have HV1 := qh hV1
      clear hV1
      have k1 := cellOf hq1 (i := 0) rfl
      have f1 := freeOf hq1 0
      have hp2 := (heap_setCell_other (p := ⟨bq, 0, none⟩) (.int .i64 x) F_ne1819.out).trans hp1
      have hq2 : (V1.setCell ⟨bq, 0, none⟩ (.int .i64 x)).heap[bq]? = some (.cells #[.int .i64 x] 3 (0, 0)) := heap_setCell_same hq1 (.int .i64 x)
      have hr2 := (heap_setCell_other (p := ⟨bq, 0, none⟩) (.int .i64 x) (Ne.symm F_ne1920.out)).trans hr1
      have HX2 := qh (HX1.out.setCell (p := ⟨bq, 0, none⟩) F_bqg.out (.int .i64 x))
      obtain ⟨V2, hV2⟩ : ∃ V : World, V = V1.setCell ⟨bq, 0, none⟩ (.int .i64 x) := ⟨_, rfl⟩
      rw [← hV2] at hp2 hq2 hr2 HX2
      have HV2 := qh hV2
      clear hV2
      have k2 := cellOf hr2 (i := 0) rfl
      have f2 := freeOf hr2 0
      have HF := qh (And.intro (HX2.out.setCell (p := ⟨br, 0, none⟩) F_brg.out (.int .i64 l)) (And.intro ((heap_setCell_other (p := ⟨br, 0, none⟩) (.int .i64 l) F_ne1820.out).trans hp2) (And.intro ((heap_setCell_other (p := ⟨br, 0, none⟩) (.int .i64 l) F_ne1920.out).trans hq2) (heap_setCell_same hr2 (.int .i64 l) : (V2.setCell ⟨br, 0, none⟩ (.int .i64 l)).heap[br]? = some (.cells #[.int .i64 l] 3 (0, 0))))))
      clear hp1 hq1 hr1 hp2 hq2 hr2
      refine wpN_one (i := 21) (o := { dst := none, op := _, type := _, pos := _, after := _, guard := none }) (by kernel_rfl) rfl (fun K hK => ?_)
      go_simp
      rw [← HV1.out]
      refine hK.out _ _ (.inr HX1.out) ?_
      clear hK K
      refine wpN_one (i := 22) (o := { dst := none, op := _, type := _, pos := _, after := _, guard := none }) (by kernel_rfl) rfl (fun K hK => ?_)
      go_simp
      rw [← HV2.out]
      refine hK.out _ _ (.inr HX2.out) ?_
      clear hK K
      refine wpN_one (i := 23) (o := { dst := none, op := _, type := _, pos := _, after := _, guard := none }) (by kernel_rfl) rfl (fun K hK => ?_)
      go_simp
      refine hK.out _ _ (.inr HF.out.1) ?_
      clear hK K
      refine wpN_done (by kernel_rfl) ?_
      go_wp2_with fail
      go_meet
      exact ⟨bp, bq, br, rfl, rfl, rfl, HF.out.1, HF.out.2.1, HF.out.2.2.1, HF.out.2.2.2, F_bpg.out, F_bqg.out, F_brg.out⟩
    rw [hA] at st_5_11_17_18_19_20
    try simp only [Act.put, zA, zB, zC] at st_5_11_17_18_19_20
    have ST_5_11_17_18_19_20 := qh st_5_11_17_18_19_20
    clear st_5_11_17_18_19_20
    have st_5_11_17_18_19 : ∀ (W1 : World) (bp : Nat) (bq : Nat), Ext wc W1 → W1.heap[bp]? = some (.cells #[.int .i64 0] 3 (0, 0)) → wc.heap.size ≤ bp → W1.heap[bq]? = some (.cells #[.int .i64 0] 3 (0, 0)) → wc.heap.size ≤ bq → bp ≠ bq → W 4 #[true, true, true, true, true, true, true, true, true, true, true, true, true, true, true, true, true, true, true, true, false, false, false, false] (((((A.put (some 14) (.int .i64 u)).put (some 20) (.int .i64 x)).put (some 26) (.int .i64 l)).put (some 6) (.pointer (some ⟨bp, 0, none⟩))).put (some 7) (.pointer (some ⟨bq, 0, none⟩))) W1 := by
      intro W1 bp bq hX hbp hbpg hbq hbqg hne1819
      have X := qh hX
      have F_bp := qh hbp
      have F_bpg := qh hbpg
      have F_bq := qh hbq
      have F_bqg := qh hbqg
      have F_ne1819 := qh hne1819
      clear hX hbp hbpg hbq hbqg hne1819
      rw [hA]
      try simp only [Act.put, zA, zB, zC]
      refine hto _ _ _ _ ?_
      refine wpN_one (i := 20) (o := { dst := some 8, op := _, type := _, pos := _, after := _, guard := none }) (by kernel_rfl) rfl (fun K hK => ?_)
      go_simp
      have xx := (Ext.refl W1).alloc (.cells #[.int .i64 0] 3)
      have bb := heap_alloc_new W1 (.cells #[.int .i64 0] 3)
      obtain ⟨W2, hW2⟩ : ∃ V : World, V = W1.alloc (.cells #[.int .i64 0] 3) := ⟨_, rfl⟩
      obtain ⟨br, hbr⟩ : ∃ b, W1.heap.size = b := ⟨_, rfl⟩
      rw [← hW2] at xx bb
      rw [hbr] at bb
      have XX := qh xx
      have BB := qh bb
      have HX2 := qh (X.out.trans xx)
      have HBN := qh hbr
      have HJJ := qh (hbr ▸ X.out.size)
      rw [← hW2, hbr]
      clear xx bb hW2 hbr
      refine hK.out _ _ (.inr HX2.out) ?_
      clear hK K
      try simp only [Act.put, zA, zB, zC]
      exact hof _ _ _ _ (ST_5_11_17_18_19_20.out W2 bp bq br HX2.out (XX.out.block F_bp.out) F_bpg.out (XX.out.block F_bq.out) F_bqg.out (BB.out) (HJJ.out) F_ne1819.out (HBN.out ▸ ne_new F_bp.out) (HBN.out ▸ ne_new F_bq.out))
    rw [hA] at st_5_11_17_18_19
    try simp only [Act.put, zA, zB, zC] at st_5_11_17_18_19
    have ST_5_11_17_18_19 := qh st_5_11_17_18_19
    clear st_5_11_17_18_19
    have st_5_11_17_18_20 : ∀ (W1 : World) (bp : Nat) (br : Nat), Ext wc W1 → W1.heap[bp]? = some (.cells #[.int .i64 0] 3 (0, 0)) → wc.heap.size ≤ bp → W1.heap[br]? = some (.cells #[.int .i64 0] 3 (0, 0)) → wc.heap.size ≤ br → bp ≠ br → W 4 #[true, true, true, true, true, true, true, true, true, true, true, true, true, true, true, true, true, true, true, false, true, false, false, false] (((((A.put (some 14) (.int .i64 u)).put (some 20) (.int .i64 x)).put (some 26) (.int .i64 l)).put (some 6) (.pointer (some ⟨bp, 0, none⟩))).put (some 8) (.pointer (some ⟨br, 0, none⟩))) W1 := by
      intro W1 bp br hX hbp hbpg hbr hbrg hne1820
      have X := qh hX
      have F_bp := qh hbp
      have F_bpg := qh hbpg
      have F_br := qh hbr
      have F_brg := qh hbrg
      have F_ne1820 := qh hne1820
      clear hX hbp hbpg hbr hbrg hne1820
      rw [hA]
      try simp only [Act.put, zA, zB, zC]
      refine hto _ _ _ _ ?_
      refine wpN_one (i := 19) (o := { dst := some 7, op := _, type := _, pos := _, after := _, guard := none }) (by kernel_rfl) rfl (fun K hK => ?_)
      go_simp
      have xx := (Ext.refl W1).alloc (.cells #[.int .i64 0] 3)
      have bb := heap_alloc_new W1 (.cells #[.int .i64 0] 3)
      obtain ⟨W2, hW2⟩ : ∃ V : World, V = W1.alloc (.cells #[.int .i64 0] 3) := ⟨_, rfl⟩
      obtain ⟨bq, hbq⟩ : ∃ b, W1.heap.size = b := ⟨_, rfl⟩
      rw [← hW2] at xx bb
      rw [hbq] at bb
      have XX := qh xx
      have BB := qh bb
      have HX2 := qh (X.out.trans xx)
      have HBN := qh hbq
      have HJJ := qh (hbq ▸ X.out.size)
      rw [← hW2, hbq]
      clear xx bb hW2 hbq
      refine hK.out _ _ (.inr HX2.out) ?_
      clear hK K
      try simp only [Act.put, zA, zB, zC]
      exact hof _ _ _ _ (ST_5_11_17_18_19_20.out W2 bp bq br HX2.out (XX.out.block F_bp.out) F_bpg.out (BB.out) (HJJ.out) (XX.out.block F_br.out) F_brg.out (HBN.out ▸ ne_new F_bp.out) F_ne1820.out (Ne.symm (HBN.out ▸ ne_new F_br.out)))
    rw [hA] at st_5_11_17_18_20
    try simp only [Act.put, zA, zB, zC] at st_5_11_17_18_20
    have ST_5_11_17_18_20 := qh st_5_11_17_18_20
    clear st_5_11_17_18_20
    have st_5_11_17_19_20 : ∀ (W1 : World) (bq : Nat) (br : Nat), Ext wc W1 → W1.heap[bq]? = some (.cells #[.int .i64 0] 3 (0, 0)) → wc.heap.size ≤ bq → W1.heap[br]? = some (.cells #[.int .i64 0] 3 (0, 0)) → wc.heap.size ≤ br → bq ≠ br → W 4 #[true, true, true, true, true, true, true, true, true, true, true, true, true, true, true, true, true, true, false, true, true, false, false, false] (((((A.put (some 14) (.int .i64 u)).put (some 20) (.int .i64 x)).put (some 26) (.int .i64 l)).put (some 7) (.pointer (some ⟨bq, 0, none⟩))).put (some 8) (.pointer (some ⟨br, 0, none⟩))) W1 := by
      intro W1 bq br hX hbq hbqg hbr hbrg hne1920
      have X := qh hX
      have F_bq := qh hbq
      have F_bqg := qh hbqg
      have F_br := qh hbr
      have F_brg := qh hbrg
      have F_ne1920 := qh hne1920
      clear hX hbq hbqg hbr hbrg hne1920
      rw [hA]
      try simp only [Act.put, zA, zB, zC]
      refine hto _ _ _ _ ?_
      refine wpN_one (i := 18) (o := { dst := some 6, op := _, type := _, pos := _, after := _, guard := none }) (by kernel_rfl) rfl (fun K hK => ?_)
      go_simp
      have xx := (Ext.refl W1).alloc (.cells #[.int .i64 0] 3)
      have bb := heap_alloc_new W1 (.cells #[.int .i64 0] 3)
      obtain ⟨W2, hW2⟩ : ∃ V : World, V = W1.alloc (.cells #[.int .i64 0] 3) := ⟨_, rfl⟩
      obtain ⟨bp, hbp⟩ : ∃ b, W1.heap.size = b := ⟨_, rfl⟩
      rw [← hW2] at xx bb
      rw [hbp] at bb
      have XX := qh xx
      have BB := qh bb
      have HX2 := qh (X.out.trans xx)
      have HBN := qh hbp
      have HJJ := qh (hbp ▸ X.out.size)
      rw [← hW2, hbp]
      clear xx bb hW2 hbp
      refine hK.out _ _ (.inr HX2.out) ?_
      clear hK K
      try simp only [Act.put, zA, zB, zC]
      exact hof _ _ _ _ (ST_5_11_17_18_19_20.out W2 bp bq br HX2.out (BB.out) (HJJ.out) (XX.out.block F_bq.out) F_bqg.out (XX.out.block F_br.out) F_brg.out (Ne.symm (HBN.out ▸ ne_new F_bq.out)) (Ne.symm (HBN.out ▸ ne_new F_br.out)) F_ne1920.out)
    rw [hA] at st_5_11_17_19_20
    try simp only [Act.put, zA, zB, zC] at st_5_11_17_19_20
    have ST_5_11_17_19_20 := qh st_5_11_17_19_20
    clear st_5_11_17_19_20
    have st_5_11_18_19_20 : ∀ (W1 : World) (bp : Nat) (bq : Nat) (br : Nat), Ext wc W1 → W1.heap[bp]? = some (.cells #[.int .i64 0] 3 (0, 0)) → wc.heap.size ≤ bp → W1.heap[bq]? = some (.cells #[.int .i64 0] 3 (0, 0)) → wc.heap.size ≤ bq → W1.heap[br]? = some (.cells #[.int .i64 0] 3 (0, 0)) → wc.heap.size ≤ br → bp ≠ bq → bp ≠ br → bq ≠ br → W 4 #[true, true, true, true, true, true, true, true, true, true, true, true, true, true, true, true, true, false, true, true, true, false, false, false] (((((A.put (some 14) (.int .i64 u)).put (some 20) (.int .i64 x)).put (some 6) (.pointer (some ⟨bp, 0, none⟩))).put (some 7) (.pointer (some ⟨bq, 0, none⟩))).put (some 8) (.pointer (some ⟨br, 0, none⟩))) W1 := by
      intro W1 bp bq br hX hbp hbpg hbq hbqg hbr hbrg hne1819 hne1820 hne1920
      have X := qh hX
      have F_bp := qh hbp
      have F_bpg := qh hbpg
      have F_bq := qh hbq
      have F_bqg := qh hbqg
      have F_br := qh hbr
      have F_brg := qh hbrg
      have F_ne1819 := qh hne1819
      have F_ne1820 := qh hne1820
      have F_ne1920 := qh hne1920
      clear hX hbp hbpg hbq hbqg hbr hbrg hne1819 hne1820 hne1920
      rw [hA]
      try simp only [Act.put, zA, zB, zC]
      refine hto _ _ _ _ ?_
      refine wpN_one (i := 17) (o := { dst := some 26, op := _, type := _, pos := _, after := _, guard := none }) (by kernel_rfl) rfl (fun K hK => ?_)
      go_simp
      go_at_call 44
      refine (HLE.out _ (XC.out.trans X.out)).mono ?_
      rintro e W2 ⟨rfl, xx⟩
      have XX := qh xx
      have HX2 := qh (X.out.trans xx)
      clear xx
      refine hK.out _ _ (.inr HX2.out) ?_
      clear hK K
      try simp only [Act.put, zA, zB, zC]
      exact hof _ _ _ _ (ST_5_11_17_18_19_20.out W2 bp bq br HX2.out (XX.out.block F_bp.out) F_bpg.out (XX.out.block F_bq.out) F_bqg.out (XX.out.block F_br.out) F_brg.out F_ne1819.out F_ne1820.out F_ne1920.out)
    rw [hA] at st_5_11_18_19_20
    try simp only [Act.put, zA, zB, zC] at st_5_11_18_19_20
    have ST_5_11_18_19_20 := qh st_5_11_18_19_20
    clear st_5_11_18_19_20
    have st_5_11_17_18 : ∀ (W1 : World) (bp : Nat), Ext wc W1 → W1.heap[bp]? = some (.cells #[.int .i64 0] 3 (0, 0)) → wc.heap.size ≤ bp → W 5 #[true, true, true, true, true, true, true, true, true, true, true, true, true, true, true, true, true, true, true, false, false, false, false, false] ((((A.put (some 14) (.int .i64 u)).put (some 20) (.int .i64 x)).put (some 26) (.int .i64 l)).put (some 6) (.pointer (some ⟨bp, 0, none⟩))) W1 := by
      intro W1 bp hX hbp hbpg
      have X := qh hX
      have F_bp := qh hbp
      have F_bpg := qh hbpg
      clear hX hbp hbpg
      rw [hA]
      try simp only [Act.put, zA, zB, zC]
      refine hto _ _ _ _ ?_
      refine wpN_two (i := 19) (j := 20) (oi := { dst := some 7, op := _, type := _, pos := _, after := _, guard := none }) (oj := { dst := some 8, op := _, type := _, pos := _, after := _, guard := none }) (by kernel_rfl) rfl rfl (fun K hK => ?_) (fun K hK => ?_)
      · go_simp
        have xx := (Ext.refl W1).alloc (.cells #[.int .i64 0] 3)
        have bb := heap_alloc_new W1 (.cells #[.int .i64 0] 3)
        obtain ⟨W2, hW2⟩ : ∃ V : World, V = W1.alloc (.cells #[.int .i64 0] 3) := ⟨_, rfl⟩
        obtain ⟨bq, hbq⟩ : ∃ b, W1.heap.size = b := ⟨_, rfl⟩
        rw [← hW2] at xx bb
        rw [hbq] at bb
        have XX := qh xx
        have BB := qh bb
        have HX2 := qh (X.out.trans xx)
        have HBN := qh hbq
        have HJJ := qh (hbq ▸ X.out.size)
        rw [← hW2, hbq]
        clear xx bb hW2 hbq
        refine hK.out _ _ (.inr HX2.out) ?_
        clear hK K
        try simp only [Act.put, zA, zB, zC]
        exact hof _ _ _ _ (ST_5_11_17_18_19.out W2 bp bq HX2.out (XX.out.block F_bp.out) F_bpg.out (BB.out) (HJJ.out) (HBN.out ▸ ne_new F_bp.out))
      · go_simp
        have xx := (Ext.refl W1).alloc (.cells #[.int .i64 0] 3)
        have bb := heap_alloc_new W1 (.cells #[.int .i64 0] 3)
        obtain ⟨W2, hW2⟩ : ∃ V : World, V = W1.alloc (.cells #[.int .i64 0] 3) := ⟨_, rfl⟩
        obtain ⟨br, hbr⟩ : ∃ b, W1.heap.size = b := ⟨_, rfl⟩
        rw [← hW2] at xx bb
        rw [hbr] at bb
        have XX := qh xx
        have BB := qh bb
        have HX2 := qh (X.out.trans xx)
        have HBN := qh hbr
        have HJJ := qh (hbr ▸ X.out.size)
        rw [← hW2, hbr]
        clear xx bb hW2 hbr
        refine hK.out _ _ (.inr HX2.out) ?_
        clear hK K
        try simp only [Act.put, zA, zB, zC]
        exact hof _ _ _ _ (ST_5_11_17_18_20.out W2 bp br HX2.out (XX.out.block F_bp.out) F_bpg.out (BB.out) (HJJ.out) (HBN.out ▸ ne_new F_bp.out))
    rw [hA] at st_5_11_17_18
    try simp only [Act.put, zA, zB, zC] at st_5_11_17_18
    have ST_5_11_17_18 := qh st_5_11_17_18
    clear st_5_11_17_18
    have st_5_11_17_19 : ∀ (W1 : World) (bq : Nat), Ext wc W1 → W1.heap[bq]? = some (.cells #[.int .i64 0] 3 (0, 0)) → wc.heap.size ≤ bq → W 5 #[true, true, true, true, true, true, true, true, true, true, true, true, true, true, true, true, true, true, false, true, false, false, false, false] ((((A.put (some 14) (.int .i64 u)).put (some 20) (.int .i64 x)).put (some 26) (.int .i64 l)).put (some 7) (.pointer (some ⟨bq, 0, none⟩))) W1 := by
      intro W1 bq hX hbq hbqg
      have X := qh hX
      have F_bq := qh hbq
      have F_bqg := qh hbqg
      clear hX hbq hbqg
      rw [hA]
      try simp only [Act.put, zA, zB, zC]
      refine hto _ _ _ _ ?_
      refine wpN_two (i := 18) (j := 20) (oi := { dst := some 6, op := _, type := _, pos := _, after := _, guard := none }) (oj := { dst := some 8, op := _, type := _, pos := _, after := _, guard := none }) (by kernel_rfl) rfl rfl (fun K hK => ?_) (fun K hK => ?_)
      · go_simp
        have xx := (Ext.refl W1).alloc (.cells #[.int .i64 0] 3)
        have bb := heap_alloc_new W1 (.cells #[.int .i64 0] 3)
        obtain ⟨W2, hW2⟩ : ∃ V : World, V = W1.alloc (.cells #[.int .i64 0] 3) := ⟨_, rfl⟩
        obtain ⟨bp, hbp⟩ : ∃ b, W1.heap.size = b := ⟨_, rfl⟩
        rw [← hW2] at xx bb
        rw [hbp] at bb
        have XX := qh xx
        have BB := qh bb
        have HX2 := qh (X.out.trans xx)
        have HBN := qh hbp
        have HJJ := qh (hbp ▸ X.out.size)
        rw [← hW2, hbp]
        clear xx bb hW2 hbp
        refine hK.out _ _ (.inr HX2.out) ?_
        clear hK K
        try simp only [Act.put, zA, zB, zC]
        exact hof _ _ _ _ (ST_5_11_17_18_19.out W2 bp bq HX2.out (BB.out) (HJJ.out) (XX.out.block F_bq.out) F_bqg.out (Ne.symm (HBN.out ▸ ne_new F_bq.out)))
      · go_simp
        have xx := (Ext.refl W1).alloc (.cells #[.int .i64 0] 3)
        have bb := heap_alloc_new W1 (.cells #[.int .i64 0] 3)
        obtain ⟨W2, hW2⟩ : ∃ V : World, V = W1.alloc (.cells #[.int .i64 0] 3) := ⟨_, rfl⟩
        obtain ⟨br, hbr⟩ : ∃ b, W1.heap.size = b := ⟨_, rfl⟩
        rw [← hW2] at xx bb
        rw [hbr] at bb
        have XX := qh xx
        have BB := qh bb
        have HX2 := qh (X.out.trans xx)
        have HBN := qh hbr
        have HJJ := qh (hbr ▸ X.out.size)
        rw [← hW2, hbr]
        clear xx bb hW2 hbr
        refine hK.out _ _ (.inr HX2.out) ?_
        clear hK K
        try simp only [Act.put, zA, zB, zC]
        exact hof _ _ _ _ (ST_5_11_17_19_20.out W2 bq br HX2.out (XX.out.block F_bq.out) F_bqg.out (BB.out) (HJJ.out) (HBN.out ▸ ne_new F_bq.out))
    rw [hA] at st_5_11_17_19
    try simp only [Act.put, zA, zB, zC] at st_5_11_17_19
    have ST_5_11_17_19 := qh st_5_11_17_19
    clear st_5_11_17_19
    have st_5_11_17_20 : ∀ (W1 : World) (br : Nat), Ext wc W1 → W1.heap[br]? = some (.cells #[.int .i64 0] 3 (0, 0)) → wc.heap.size ≤ br → W 5 #[true, true, true, true, true, true, true, true, true, true, true, true, true, true, true, true, true, true, false, false, true, false, false, false] ((((A.put (some 14) (.int .i64 u)).put (some 20) (.int .i64 x)).put (some 26) (.int .i64 l)).put (some 8) (.pointer (some ⟨br, 0, none⟩))) W1 := by
      intro W1 br hX hbr hbrg
      have X := qh hX
      have F_br := qh hbr
      have F_brg := qh hbrg
      clear hX hbr hbrg
      rw [hA]
      try simp only [Act.put, zA, zB, zC]
      refine hto _ _ _ _ ?_
      refine wpN_two (i := 18) (j := 19) (oi := { dst := some 6, op := _, type := _, pos := _, after := _, guard := none }) (oj := { dst := some 7, op := _, type := _, pos := _, after := _, guard := none }) (by kernel_rfl) rfl rfl (fun K hK => ?_) (fun K hK => ?_)
      · go_simp
        have xx := (Ext.refl W1).alloc (.cells #[.int .i64 0] 3)
        have bb := heap_alloc_new W1 (.cells #[.int .i64 0] 3)
        obtain ⟨W2, hW2⟩ : ∃ V : World, V = W1.alloc (.cells #[.int .i64 0] 3) := ⟨_, rfl⟩
        obtain ⟨bp, hbp⟩ : ∃ b, W1.heap.size = b := ⟨_, rfl⟩
        rw [← hW2] at xx bb
        rw [hbp] at bb
        have XX := qh xx
        have BB := qh bb
        have HX2 := qh (X.out.trans xx)
        have HBN := qh hbp
        have HJJ := qh (hbp ▸ X.out.size)
        rw [← hW2, hbp]
        clear xx bb hW2 hbp
        refine hK.out _ _ (.inr HX2.out) ?_
        clear hK K
        try simp only [Act.put, zA, zB, zC]
        exact hof _ _ _ _ (ST_5_11_17_18_20.out W2 bp br HX2.out (BB.out) (HJJ.out) (XX.out.block F_br.out) F_brg.out (Ne.symm (HBN.out ▸ ne_new F_br.out)))
      · go_simp
        have xx := (Ext.refl W1).alloc (.cells #[.int .i64 0] 3)
        have bb := heap_alloc_new W1 (.cells #[.int .i64 0] 3)
        obtain ⟨W2, hW2⟩ : ∃ V : World, V = W1.alloc (.cells #[.int .i64 0] 3) := ⟨_, rfl⟩
        obtain ⟨bq, hbq⟩ : ∃ b, W1.heap.size = b := ⟨_, rfl⟩
        rw [← hW2] at xx bb
        rw [hbq] at bb
        have XX := qh xx
        have BB := qh bb
        have HX2 := qh (X.out.trans xx)
        have HBN := qh hbq
        have HJJ := qh (hbq ▸ X.out.size)
        rw [← hW2, hbq]
        clear xx bb hW2 hbq
        refine hK.out _ _ (.inr HX2.out) ?_
        clear hK K
        try simp only [Act.put, zA, zB, zC]
        exact hof _ _ _ _ (ST_5_11_17_19_20.out W2 bq br HX2.out (BB.out) (HJJ.out) (XX.out.block F_br.out) F_brg.out (Ne.symm (HBN.out ▸ ne_new F_br.out)))
    rw [hA] at st_5_11_17_20
    try simp only [Act.put, zA, zB, zC] at st_5_11_17_20
    have ST_5_11_17_20 := qh st_5_11_17_20
    clear st_5_11_17_20
    have st_5_11_18_19 : ∀ (W1 : World) (bp : Nat) (bq : Nat), Ext wc W1 → W1.heap[bp]? = some (.cells #[.int .i64 0] 3 (0, 0)) → wc.heap.size ≤ bp → W1.heap[bq]? = some (.cells #[.int .i64 0] 3 (0, 0)) → wc.heap.size ≤ bq → bp ≠ bq → W 5 #[true, true, true, true, true, true, true, true, true, true, true, true, true, true, true, true, true, false, true, true, false, false, false, false] ((((A.put (some 14) (.int .i64 u)).put (some 20) (.int .i64 x)).put (some 6) (.pointer (some ⟨bp, 0, none⟩))).put (some 7) (.pointer (some ⟨bq, 0, none⟩))) W1 := by
      intro W1 bp bq hX hbp hbpg hbq hbqg hne1819
      have X := qh hX
      have F_bp := qh hbp
      have F_bpg := qh hbpg
      have F_bq := qh hbq
      have F_bqg := qh hbqg
      have F_ne1819 := qh hne1819
      clear hX hbp hbpg hbq hbqg hne1819
      rw [hA]
      try simp only [Act.put, zA, zB, zC]
      refine hto _ _ _ _ ?_
      refine wpN_two (i := 17) (j := 20) (oi := { dst := some 26, op := _, type := _, pos := _, after := _, guard := none }) (oj := { dst := some 8, op := _, type := _, pos := _, after := _, guard := none }) (by kernel_rfl) rfl rfl (fun K hK => ?_) (fun K hK => ?_)
      · go_simp
        go_at_call 44
        refine (HLE.out _ (XC.out.trans X.out)).mono ?_
        rintro e W2 ⟨rfl, xx⟩
        have XX := qh xx
        have HX2 := qh (X.out.trans xx)
        clear xx
        refine hK.out _ _ (.inr HX2.out) ?_
        clear hK K
        try simp only [Act.put, zA, zB, zC]
        exact hof _ _ _ _ (ST_5_11_17_18_19.out W2 bp bq HX2.out (XX.out.block F_bp.out) F_bpg.out (XX.out.block F_bq.out) F_bqg.out F_ne1819.out)
      · go_simp
        have xx := (Ext.refl W1).alloc (.cells #[.int .i64 0] 3)
        have bb := heap_alloc_new W1 (.cells #[.int .i64 0] 3)
        obtain ⟨W2, hW2⟩ : ∃ V : World, V = W1.alloc (.cells #[.int .i64 0] 3) := ⟨_, rfl⟩
        obtain ⟨br, hbr⟩ : ∃ b, W1.heap.size = b := ⟨_, rfl⟩
        rw [← hW2] at xx bb
        rw [hbr] at bb
        have XX := qh xx
        have BB := qh bb
        have HX2 := qh (X.out.trans xx)
        have HBN := qh hbr
        have HJJ := qh (hbr ▸ X.out.size)
        rw [← hW2, hbr]
        clear xx bb hW2 hbr
        refine hK.out _ _ (.inr HX2.out) ?_
        clear hK K
        try simp only [Act.put, zA, zB, zC]
        exact hof _ _ _ _ (ST_5_11_18_19_20.out W2 bp bq br HX2.out (XX.out.block F_bp.out) F_bpg.out (XX.out.block F_bq.out) F_bqg.out (BB.out) (HJJ.out) F_ne1819.out (HBN.out ▸ ne_new F_bp.out) (HBN.out ▸ ne_new F_bq.out))
    rw [hA] at st_5_11_18_19
    try simp only [Act.put, zA, zB, zC] at st_5_11_18_19
    have ST_5_11_18_19 := qh st_5_11_18_19
    clear st_5_11_18_19
    have st_5_11_18_20 : ∀ (W1 : World) (bp : Nat) (br : Nat), Ext wc W1 → W1.heap[bp]? = some (.cells #[.int .i64 0] 3 (0, 0)) → wc.heap.size ≤ bp → W1.heap[br]? = some (.cells #[.int .i64 0] 3 (0, 0)) → wc.heap.size ≤ br → bp ≠ br → W 5 #[true, true, true, true, true, true, true, true, true, true, true, true, true, true, true, true, true, false, true, false, true, false, false, false] ((((A.put (some 14) (.int .i64 u)).put (some 20) (.int .i64 x)).put (some 6) (.pointer (some ⟨bp, 0, none⟩))).put (some 8) (.pointer (some ⟨br, 0, none⟩))) W1 := by
      intro W1 bp br hX hbp hbpg hbr hbrg hne1820
      have X := qh hX
      have F_bp := qh hbp
      have F_bpg := qh hbpg
      have F_br := qh hbr
      have F_brg := qh hbrg
      have F_ne1820 := qh hne1820
      clear hX hbp hbpg hbr hbrg hne1820
      rw [hA]
      try simp only [Act.put, zA, zB, zC]
      refine hto _ _ _ _ ?_
      refine wpN_two (i := 17) (j := 19) (oi := { dst := some 26, op := _, type := _, pos := _, after := _, guard := none }) (oj := { dst := some 7, op := _, type := _, pos := _, after := _, guard := none }) (by kernel_rfl) rfl rfl (fun K hK => ?_) (fun K hK => ?_)
      · go_simp
        go_at_call 44
        refine (HLE.out _ (XC.out.trans X.out)).mono ?_
        rintro e W2 ⟨rfl, xx⟩
        have XX := qh xx
        have HX2 := qh (X.out.trans xx)
        clear xx
        refine hK.out _ _ (.inr HX2.out) ?_
        clear hK K
        try simp only [Act.put, zA, zB, zC]
        exact hof _ _ _ _ (ST_5_11_17_18_20.out W2 bp br HX2.out (XX.out.block F_bp.out) F_bpg.out (XX.out.block F_br.out) F_brg.out F_ne1820.out)
      · go_simp
        have xx := (Ext.refl W1).alloc (.cells #[.int .i64 0] 3)
        have bb := heap_alloc_new W1 (.cells #[.int .i64 0] 3)
        obtain ⟨W2, hW2⟩ : ∃ V : World, V = W1.alloc (.cells #[.int .i64 0] 3) := ⟨_, rfl⟩
        obtain ⟨bq, hbq⟩ : ∃ b, W1.heap.size = b := ⟨_, rfl⟩
        rw [← hW2] at xx bb
        rw [hbq] at bb
        have XX := qh xx
        have BB := qh bb
        have HX2 := qh (X.out.trans xx)
        have HBN := qh hbq
        have HJJ := qh (hbq ▸ X.out.size)
        rw [← hW2, hbq]
        clear xx bb hW2 hbq
        refine hK.out _ _ (.inr HX2.out) ?_
        clear hK K
        try simp only [Act.put, zA, zB, zC]
        exact hof _ _ _ _ (ST_5_11_18_19_20.out W2 bp bq br HX2.out (XX.out.block F_bp.out) F_bpg.out (BB.out) (HJJ.out) (XX.out.block F_br.out) F_brg.out (HBN.out ▸ ne_new F_bp.out) F_ne1820.out (Ne.symm (HBN.out ▸ ne_new F_br.out)))
    rw [hA] at st_5_11_18_20
    try simp only [Act.put, zA, zB, zC] at st_5_11_18_20
    have ST_5_11_18_20 := qh st_5_11_18_20
    clear st_5_11_18_20
    have st_5_11_19_20 : ∀ (W1 : World) (bq : Nat) (br : Nat), Ext wc W1 → W1.heap[bq]? = some (.cells #[.int .i64 0] 3 (0, 0)) → wc.heap.size ≤ bq → W1.heap[br]? = some (.cells #[.int .i64 0] 3 (0, 0)) → wc.heap.size ≤ br → bq ≠ br → W 5 #[true, true, true, true, true, true, true, true, true, true, true, true, true, true, true, true, true, false, false, true, true, false, false, false] ((((A.put (some 14) (.int .i64 u)).put (some 20) (.int .i64 x)).put (some 7) (.pointer (some ⟨bq, 0, none⟩))).put (some 8) (.pointer (some ⟨br, 0, none⟩))) W1 := by
      intro W1 bq br hX hbq hbqg hbr hbrg hne1920
      have X := qh hX
      have F_bq := qh hbq
      have F_bqg := qh hbqg
      have F_br := qh hbr
      have F_brg := qh hbrg
      have F_ne1920 := qh hne1920
      clear hX hbq hbqg hbr hbrg hne1920
      rw [hA]
      try simp only [Act.put, zA, zB, zC]
      refine hto _ _ _ _ ?_
      refine wpN_two (i := 17) (j := 18) (oi := { dst := some 26, op := _, type := _, pos := _, after := _, guard := none }) (oj := { dst := some 6, op := _, type := _, pos := _, after := _, guard := none }) (by kernel_rfl) rfl rfl (fun K hK => ?_) (fun K hK => ?_)
      · go_simp
        go_at_call 44
        refine (HLE.out _ (XC.out.trans X.out)).mono ?_
        rintro e W2 ⟨rfl, xx⟩
        have XX := qh xx
        have HX2 := qh (X.out.trans xx)
        clear xx
        refine hK.out _ _ (.inr HX2.out) ?_
        clear hK K
        try simp only [Act.put, zA, zB, zC]
        exact hof _ _ _ _ (ST_5_11_17_19_20.out W2 bq br HX2.out (XX.out.block F_bq.out) F_bqg.out (XX.out.block F_br.out) F_brg.out F_ne1920.out)
      · go_simp
        have xx := (Ext.refl W1).alloc (.cells #[.int .i64 0] 3)
        have bb := heap_alloc_new W1 (.cells #[.int .i64 0] 3)
        obtain ⟨W2, hW2⟩ : ∃ V : World, V = W1.alloc (.cells #[.int .i64 0] 3) := ⟨_, rfl⟩
        obtain ⟨bp, hbp⟩ : ∃ b, W1.heap.size = b := ⟨_, rfl⟩
        rw [← hW2] at xx bb
        rw [hbp] at bb
        have XX := qh xx
        have BB := qh bb
        have HX2 := qh (X.out.trans xx)
        have HBN := qh hbp
        have HJJ := qh (hbp ▸ X.out.size)
        rw [← hW2, hbp]
        clear xx bb hW2 hbp
        refine hK.out _ _ (.inr HX2.out) ?_
        clear hK K
        try simp only [Act.put, zA, zB, zC]
        exact hof _ _ _ _ (ST_5_11_18_19_20.out W2 bp bq br HX2.out (BB.out) (HJJ.out) (XX.out.block F_bq.out) F_bqg.out (XX.out.block F_br.out) F_brg.out (Ne.symm (HBN.out ▸ ne_new F_bq.out)) (Ne.symm (HBN.out ▸ ne_new F_br.out)) F_ne1920.out)
    rw [hA] at st_5_11_19_20
    try simp only [Act.put, zA, zB, zC] at st_5_11_19_20
    have ST_5_11_19_20 := qh st_5_11_19_20
    clear st_5_11_19_20
    have st_5_18_19_20 : ∀ (W1 : World) (bp : Nat) (bq : Nat) (br : Nat), Ext wc W1 → W1.heap[bp]? = some (.cells #[.int .i64 0] 3 (0, 0)) → wc.heap.size ≤ bp → W1.heap[bq]? = some (.cells #[.int .i64 0] 3 (0, 0)) → wc.heap.size ≤ bq → W1.heap[br]? = some (.cells #[.int .i64 0] 3 (0, 0)) → wc.heap.size ≤ br → bp ≠ bq → bp ≠ br → bq ≠ br → W 5 #[true, true, true, true, true, true, true, true, true, true, true, false, true, true, true, true, true, false, true, true, true, false, false, false] ((((A.put (some 14) (.int .i64 u)).put (some 6) (.pointer (some ⟨bp, 0, none⟩))).put (some 7) (.pointer (some ⟨bq, 0, none⟩))).put (some 8) (.pointer (some ⟨br, 0, none⟩))) W1 := by
      intro W1 bp bq br hX hbp hbpg hbq hbqg hbr hbrg hne1819 hne1820 hne1920
      have X := qh hX
      have F_bp := qh hbp
      have F_bpg := qh hbpg
      have F_bq := qh hbq
      have F_bqg := qh hbqg
      have F_br := qh hbr
      have F_brg := qh hbrg
      have F_ne1819 := qh hne1819
      have F_ne1820 := qh hne1820
      have F_ne1920 := qh hne1920
      clear hX hbp hbpg hbq hbqg hbr hbrg hne1819 hne1820 hne1920
      rw [hA]
      try simp only [Act.put, zA, zB, zC]
      refine hto _ _ _ _ ?_
      refine wpN_one (i := 11) (o := { dst := some 20, op := _, type := _, pos := _, after := _, guard := none }) (by kernel_rfl) rfl (fun K hK => ?_)
      go_simp
      go_at_call 29
      refine (HIX.out _ (XC.out.trans X.out)).mono ?_
      rintro e W2 ⟨rfl, xx⟩
      have XX := qh xx
      have HX2 := qh (X.out.trans xx)
      clear xx
      refine hK.out _ _ (.inr HX2.out) ?_
      clear hK K
      try simp only [Act.put, zA, zB, zC]
      exact hof _ _ _ _ (ST_5_11_18_19_20.out W2 bp bq br HX2.out (XX.out.block F_bp.out) F_bpg.out (XX.out.block F_bq.out) F_bqg.out (XX.out.block F_br.out) F_brg.out F_ne1819.out F_ne1820.out F_ne1920.out)
    rw [hA] at st_5_18_19_20
    try simp only [Act.put, zA, zB, zC] at st_5_18_19_20
    have ST_5_18_19_20 := qh st_5_18_19_20
    clear st_5_18_19_20
    have st_5_11_17 : ∀ (W1 : World) , Ext wc W1 → W 6 #[true, true, true, true, true, true, true, true, true, true, true, true, true, true, true, true, true, true, false, false, false, false, false, false] (((A.put (some 14) (.int .i64 u)).put (some 20) (.int .i64 x)).put (some 26) (.int .i64 l)) W1 := by
      intro W1  hX 
      have X := qh hX

      clear hX
      rw [hA]
      try simp only [Act.put, zA, zB, zC]
      refine hto _ _ _ _ ?_
      refine wpN_three (i := 18) (j := 19) (k := 20) (oi := { dst := some 6, op := _, type := _, pos := _, after := _, guard := none }) (oj := { dst := some 7, op := _, type := _, pos := _, after := _, guard := none }) (ok := { dst := some 8, op := _, type := _, pos := _, after := _, guard := none }) (by kernel_rfl) rfl rfl rfl (fun K hK => ?_) (fun K hK => ?_) (fun K hK => ?_)
      · go_simp
        have xx := (Ext.refl W1).alloc (.cells #[.int .i64 0] 3)
        have bb := heap_alloc_new W1 (.cells #[.int .i64 0] 3)
        obtain ⟨W2, hW2⟩ : ∃ V : World, V = W1.alloc (.cells #[.int .i64 0] 3) := ⟨_, rfl⟩
        obtain ⟨bp, hbp⟩ : ∃ b, W1.heap.size = b := ⟨_, rfl⟩
        rw [← hW2] at xx bb
        rw [hbp] at bb
        have XX := qh xx
        have BB := qh bb
        have HX2 := qh (X.out.trans xx)
        have HBN := qh hbp
        have HJJ := qh (hbp ▸ X.out.size)
        rw [← hW2, hbp]
        clear xx bb hW2 hbp
        refine hK.out _ _ (.inr HX2.out) ?_
        clear hK K
        try simp only [Act.put, zA, zB, zC]
        exact hof _ _ _ _ (ST_5_11_17_18.out W2 bp HX2.out (BB.out) (HJJ.out))
      · go_simp
        have xx := (Ext.refl W1).alloc (.cells #[.int .i64 0] 3)
        have bb := heap_alloc_new W1 (.cells #[.int .i64 0] 3)
        obtain ⟨W2, hW2⟩ : ∃ V : World, V = W1.alloc (.cells #[.int .i64 0] 3) := ⟨_, rfl⟩
        obtain ⟨bq, hbq⟩ : ∃ b, W1.heap.size = b := ⟨_, rfl⟩
        rw [← hW2] at xx bb
        rw [hbq] at bb
        have XX := qh xx
        have BB := qh bb
        have HX2 := qh (X.out.trans xx)
        have HBN := qh hbq
        have HJJ := qh (hbq ▸ X.out.size)
        rw [← hW2, hbq]
        clear xx bb hW2 hbq
        refine hK.out _ _ (.inr HX2.out) ?_
        clear hK K
        try simp only [Act.put, zA, zB, zC]
        exact hof _ _ _ _ (ST_5_11_17_19.out W2 bq HX2.out (BB.out) (HJJ.out))
      · go_simp
        have xx := (Ext.refl W1).alloc (.cells #[.int .i64 0] 3)
        have bb := heap_alloc_new W1 (.cells #[.int .i64 0] 3)
        obtain ⟨W2, hW2⟩ : ∃ V : World, V = W1.alloc (.cells #[.int .i64 0] 3) := ⟨_, rfl⟩
        obtain ⟨br, hbr⟩ : ∃ b, W1.heap.size = b := ⟨_, rfl⟩
        rw [← hW2] at xx bb
        rw [hbr] at bb
        have XX := qh xx
        have BB := qh bb
        have HX2 := qh (X.out.trans xx)
        have HBN := qh hbr
        have HJJ := qh (hbr ▸ X.out.size)
        rw [← hW2, hbr]
        clear xx bb hW2 hbr
        refine hK.out _ _ (.inr HX2.out) ?_
        clear hK K
        try simp only [Act.put, zA, zB, zC]
        exact hof _ _ _ _ (ST_5_11_17_20.out W2 br HX2.out (BB.out) (HJJ.out))
    rw [hA] at st_5_11_17
    try simp only [Act.put, zA, zB, zC] at st_5_11_17
    have ST_5_11_17 := qh st_5_11_17
    clear st_5_11_17
    have st_5_11_18 : ∀ (W1 : World) (bp : Nat), Ext wc W1 → W1.heap[bp]? = some (.cells #[.int .i64 0] 3 (0, 0)) → wc.heap.size ≤ bp → W 6 #[true, true, true, true, true, true, true, true, true, true, true, true, true, true, true, true, true, false, true, false, false, false, false, false] (((A.put (some 14) (.int .i64 u)).put (some 20) (.int .i64 x)).put (some 6) (.pointer (some ⟨bp, 0, none⟩))) W1 := by
      intro W1 bp hX hbp hbpg
      have X := qh hX
      have F_bp := qh hbp
      have F_bpg := qh hbpg
      clear hX hbp hbpg
      rw [hA]
      try simp only [Act.put, zA, zB, zC]
      refine hto _ _ _ _ ?_
      refine wpN_three (i := 17) (j := 19) (k := 20) (oi := { dst := some 26, op := _, type := _, pos := _, after := _, guard := none }) (oj := { dst := some 7, op := _, type := _, pos := _, after := _, guard := none }) (ok := { dst := some 8, op := _, type := _, pos := _, after := _, guard := none }) (by kernel_rfl) rfl rfl rfl (fun K hK => ?_) (fun K hK => ?_) (fun K hK => ?_)
      · go_simp
        go_at_call 44
        refine (HLE.out _ (XC.out.trans X.out)).mono ?_
        rintro e W2 ⟨rfl, xx⟩
        have XX := qh xx
        have HX2 := qh (X.out.trans xx)
        clear xx
        refine hK.out _ _ (.inr HX2.out) ?_
        clear hK K
        try simp only [Act.put, zA, zB, zC]
        exact hof _ _ _ _ (ST_5_11_17_18.out W2 bp HX2.out (XX.out.block F_bp.out) F_bpg.out)
      · go_simp
        have xx := (Ext.refl W1).alloc (.cells #[.int .i64 0] 3)
        have bb := heap_alloc_new W1 (.cells #[.int .i64 0] 3)
        obtain ⟨W2, hW2⟩ : ∃ V : World, V = W1.alloc (.cells #[.int .i64 0] 3) := ⟨_, rfl⟩
        obtain ⟨bq, hbq⟩ : ∃ b, W1.heap.size = b := ⟨_, rfl⟩
        rw [← hW2] at xx bb
        rw [hbq] at bb
        have XX := qh xx
        have BB := qh bb
        have HX2 := qh (X.out.trans xx)
        have HBN := qh hbq
        have HJJ := qh (hbq ▸ X.out.size)
        rw [← hW2, hbq]
        clear xx bb hW2 hbq
        refine hK.out _ _ (.inr HX2.out) ?_
        clear hK K
        try simp only [Act.put, zA, zB, zC]
        exact hof _ _ _ _ (ST_5_11_18_19.out W2 bp bq HX2.out (XX.out.block F_bp.out) F_bpg.out (BB.out) (HJJ.out) (HBN.out ▸ ne_new F_bp.out))
      · go_simp
        have xx := (Ext.refl W1).alloc (.cells #[.int .i64 0] 3)
        have bb := heap_alloc_new W1 (.cells #[.int .i64 0] 3)
        obtain ⟨W2, hW2⟩ : ∃ V : World, V = W1.alloc (.cells #[.int .i64 0] 3) := ⟨_, rfl⟩
        obtain ⟨br, hbr⟩ : ∃ b, W1.heap.size = b := ⟨_, rfl⟩
        rw [← hW2] at xx bb
        rw [hbr] at bb
        have XX := qh xx
        have BB := qh bb
        have HX2 := qh (X.out.trans xx)
        have HBN := qh hbr
        have HJJ := qh (hbr ▸ X.out.size)
        rw [← hW2, hbr]
        clear xx bb hW2 hbr
        refine hK.out _ _ (.inr HX2.out) ?_
        clear hK K
        try simp only [Act.put, zA, zB, zC]
        exact hof _ _ _ _ (ST_5_11_18_20.out W2 bp br HX2.out (XX.out.block F_bp.out) F_bpg.out (BB.out) (HJJ.out) (HBN.out ▸ ne_new F_bp.out))
    rw [hA] at st_5_11_18
    try simp only [Act.put, zA, zB, zC] at st_5_11_18
    have ST_5_11_18 := qh st_5_11_18
    clear st_5_11_18
    have st_5_11_19 : ∀ (W1 : World) (bq : Nat), Ext wc W1 → W1.heap[bq]? = some (.cells #[.int .i64 0] 3 (0, 0)) → wc.heap.size ≤ bq → W 6 #[true, true, true, true, true, true, true, true, true, true, true, true, true, true, true, true, true, false, false, true, false, false, false, false] (((A.put (some 14) (.int .i64 u)).put (some 20) (.int .i64 x)).put (some 7) (.pointer (some ⟨bq, 0, none⟩))) W1 := by
      intro W1 bq hX hbq hbqg
      have X := qh hX
      have F_bq := qh hbq
      have F_bqg := qh hbqg
      clear hX hbq hbqg
      rw [hA]
      try simp only [Act.put, zA, zB, zC]
      refine hto _ _ _ _ ?_
      refine wpN_three (i := 17) (j := 18) (k := 20) (oi := { dst := some 26, op := _, type := _, pos := _, after := _, guard := none }) (oj := { dst := some 6, op := _, type := _, pos := _, after := _, guard := none }) (ok := { dst := some 8, op := _, type := _, pos := _, after := _, guard := none }) (by kernel_rfl) rfl rfl rfl (fun K hK => ?_) (fun K hK => ?_) (fun K hK => ?_)
      · go_simp
        go_at_call 44
        refine (HLE.out _ (XC.out.trans X.out)).mono ?_
        rintro e W2 ⟨rfl, xx⟩
        have XX := qh xx
        have HX2 := qh (X.out.trans xx)
        clear xx
        refine hK.out _ _ (.inr HX2.out) ?_
        clear hK K
        try simp only [Act.put, zA, zB, zC]
        exact hof _ _ _ _ (ST_5_11_17_19.out W2 bq HX2.out (XX.out.block F_bq.out) F_bqg.out)
      · go_simp
        have xx := (Ext.refl W1).alloc (.cells #[.int .i64 0] 3)
        have bb := heap_alloc_new W1 (.cells #[.int .i64 0] 3)
        obtain ⟨W2, hW2⟩ : ∃ V : World, V = W1.alloc (.cells #[.int .i64 0] 3) := ⟨_, rfl⟩
        obtain ⟨bp, hbp⟩ : ∃ b, W1.heap.size = b := ⟨_, rfl⟩
        rw [← hW2] at xx bb
        rw [hbp] at bb
        have XX := qh xx
        have BB := qh bb
        have HX2 := qh (X.out.trans xx)
        have HBN := qh hbp
        have HJJ := qh (hbp ▸ X.out.size)
        rw [← hW2, hbp]
        clear xx bb hW2 hbp
        refine hK.out _ _ (.inr HX2.out) ?_
        clear hK K
        try simp only [Act.put, zA, zB, zC]
        exact hof _ _ _ _ (ST_5_11_18_19.out W2 bp bq HX2.out (BB.out) (HJJ.out) (XX.out.block F_bq.out) F_bqg.out (Ne.symm (HBN.out ▸ ne_new F_bq.out)))
      · go_simp
        have xx := (Ext.refl W1).alloc (.cells #[.int .i64 0] 3)
        have bb := heap_alloc_new W1 (.cells #[.int .i64 0] 3)
        obtain ⟨W2, hW2⟩ : ∃ V : World, V = W1.alloc (.cells #[.int .i64 0] 3) := ⟨_, rfl⟩
        obtain ⟨br, hbr⟩ : ∃ b, W1.heap.size = b := ⟨_, rfl⟩
        rw [← hW2] at xx bb
        rw [hbr] at bb
        have XX := qh xx
        have BB := qh bb
        have HX2 := qh (X.out.trans xx)
        have HBN := qh hbr
        have HJJ := qh (hbr ▸ X.out.size)
        rw [← hW2, hbr]
        clear xx bb hW2 hbr
        refine hK.out _ _ (.inr HX2.out) ?_
        clear hK K
        try simp only [Act.put, zA, zB, zC]
        exact hof _ _ _ _ (ST_5_11_19_20.out W2 bq br HX2.out (XX.out.block F_bq.out) F_bqg.out (BB.out) (HJJ.out) (HBN.out ▸ ne_new F_bq.out))
    rw [hA] at st_5_11_19
    try simp only [Act.put, zA, zB, zC] at st_5_11_19
    have ST_5_11_19 := qh st_5_11_19
    clear st_5_11_19
    have st_5_11_20 : ∀ (W1 : World) (br : Nat), Ext wc W1 → W1.heap[br]? = some (.cells #[.int .i64 0] 3 (0, 0)) → wc.heap.size ≤ br → W 6 #[true, true, true, true, true, true, true, true, true, true, true, true, true, true, true, true, true, false, false, false, true, false, false, false] (((A.put (some 14) (.int .i64 u)).put (some 20) (.int .i64 x)).put (some 8) (.pointer (some ⟨br, 0, none⟩))) W1 := by
      intro W1 br hX hbr hbrg
      have X := qh hX
      have F_br := qh hbr
      have F_brg := qh hbrg
      clear hX hbr hbrg
      rw [hA]
      try simp only [Act.put, zA, zB, zC]
      refine hto _ _ _ _ ?_
      refine wpN_three (i := 17) (j := 18) (k := 19) (oi := { dst := some 26, op := _, type := _, pos := _, after := _, guard := none }) (oj := { dst := some 6, op := _, type := _, pos := _, after := _, guard := none }) (ok := { dst := some 7, op := _, type := _, pos := _, after := _, guard := none }) (by kernel_rfl) rfl rfl rfl (fun K hK => ?_) (fun K hK => ?_) (fun K hK => ?_)
      · go_simp
        go_at_call 44
        refine (HLE.out _ (XC.out.trans X.out)).mono ?_
        rintro e W2 ⟨rfl, xx⟩
        have XX := qh xx
        have HX2 := qh (X.out.trans xx)
        clear xx
        refine hK.out _ _ (.inr HX2.out) ?_
        clear hK K
        try simp only [Act.put, zA, zB, zC]
        exact hof _ _ _ _ (ST_5_11_17_20.out W2 br HX2.out (XX.out.block F_br.out) F_brg.out)
      · go_simp
        have xx := (Ext.refl W1).alloc (.cells #[.int .i64 0] 3)
        have bb := heap_alloc_new W1 (.cells #[.int .i64 0] 3)
        obtain ⟨W2, hW2⟩ : ∃ V : World, V = W1.alloc (.cells #[.int .i64 0] 3) := ⟨_, rfl⟩
        obtain ⟨bp, hbp⟩ : ∃ b, W1.heap.size = b := ⟨_, rfl⟩
        rw [← hW2] at xx bb
        rw [hbp] at bb
        have XX := qh xx
        have BB := qh bb
        have HX2 := qh (X.out.trans xx)
        have HBN := qh hbp
        have HJJ := qh (hbp ▸ X.out.size)
        rw [← hW2, hbp]
        clear xx bb hW2 hbp
        refine hK.out _ _ (.inr HX2.out) ?_
        clear hK K
        try simp only [Act.put, zA, zB, zC]
        exact hof _ _ _ _ (ST_5_11_18_20.out W2 bp br HX2.out (BB.out) (HJJ.out) (XX.out.block F_br.out) F_brg.out (Ne.symm (HBN.out ▸ ne_new F_br.out)))
      · go_simp
        have xx := (Ext.refl W1).alloc (.cells #[.int .i64 0] 3)
        have bb := heap_alloc_new W1 (.cells #[.int .i64 0] 3)
        obtain ⟨W2, hW2⟩ : ∃ V : World, V = W1.alloc (.cells #[.int .i64 0] 3) := ⟨_, rfl⟩
        obtain ⟨bq, hbq⟩ : ∃ b, W1.heap.size = b := ⟨_, rfl⟩
        rw [← hW2] at xx bb
        rw [hbq] at bb
        have XX := qh xx
        have BB := qh bb
        have HX2 := qh (X.out.trans xx)
        have HBN := qh hbq
        have HJJ := qh (hbq ▸ X.out.size)
        rw [← hW2, hbq]
        clear xx bb hW2 hbq
        refine hK.out _ _ (.inr HX2.out) ?_
        clear hK K
        try simp only [Act.put, zA, zB, zC]
        exact hof _ _ _ _ (ST_5_11_19_20.out W2 bq br HX2.out (BB.out) (HJJ.out) (XX.out.block F_br.out) F_brg.out (Ne.symm (HBN.out ▸ ne_new F_br.out)))
    rw [hA] at st_5_11_20
    try simp only [Act.put, zA, zB, zC] at st_5_11_20
    have ST_5_11_20 := qh st_5_11_20
    clear st_5_11_20
    have st_5_18_19 : ∀ (W1 : World) (bp : Nat) (bq : Nat), Ext wc W1 → W1.heap[bp]? = some (.cells #[.int .i64 0] 3 (0, 0)) → wc.heap.size ≤ bp → W1.heap[bq]? = some (.cells #[.int .i64 0] 3 (0, 0)) → wc.heap.size ≤ bq → bp ≠ bq → W 6 #[true, true, true, true, true, true, true, true, true, true, true, false, true, true, true, true, true, false, true, true, false, false, false, false] (((A.put (some 14) (.int .i64 u)).put (some 6) (.pointer (some ⟨bp, 0, none⟩))).put (some 7) (.pointer (some ⟨bq, 0, none⟩))) W1 := by
      intro W1 bp bq hX hbp hbpg hbq hbqg hne1819
      have X := qh hX
      have F_bp := qh hbp
      have F_bpg := qh hbpg
      have F_bq := qh hbq
      have F_bqg := qh hbqg
      have F_ne1819 := qh hne1819
      clear hX hbp hbpg hbq hbqg hne1819
      rw [hA]
      try simp only [Act.put, zA, zB, zC]
      refine hto _ _ _ _ ?_
      refine wpN_two (i := 11) (j := 20) (oi := { dst := some 20, op := _, type := _, pos := _, after := _, guard := none }) (oj := { dst := some 8, op := _, type := _, pos := _, after := _, guard := none }) (by kernel_rfl) rfl rfl (fun K hK => ?_) (fun K hK => ?_)
      · go_simp
        go_at_call 29
        refine (HIX.out _ (XC.out.trans X.out)).mono ?_
        rintro e W2 ⟨rfl, xx⟩
        have XX := qh xx
        have HX2 := qh (X.out.trans xx)
        clear xx
        refine hK.out _ _ (.inr HX2.out) ?_
        clear hK K
        try simp only [Act.put, zA, zB, zC]
        exact hof _ _ _ _ (ST_5_11_18_19.out W2 bp bq HX2.out (XX.out.block F_bp.out) F_bpg.out (XX.out.block F_bq.out) F_bqg.out F_ne1819.out)
      · go_simp
        have xx := (Ext.refl W1).alloc (.cells #[.int .i64 0] 3)
        have bb := heap_alloc_new W1 (.cells #[.int .i64 0] 3)
        obtain ⟨W2, hW2⟩ : ∃ V : World, V = W1.alloc (.cells #[.int .i64 0] 3) := ⟨_, rfl⟩
        obtain ⟨br, hbr⟩ : ∃ b, W1.heap.size = b := ⟨_, rfl⟩
        rw [← hW2] at xx bb
        rw [hbr] at bb
        have XX := qh xx
        have BB := qh bb
        have HX2 := qh (X.out.trans xx)
        have HBN := qh hbr
        have HJJ := qh (hbr ▸ X.out.size)
        rw [← hW2, hbr]
        clear xx bb hW2 hbr
        refine hK.out _ _ (.inr HX2.out) ?_
        clear hK K
        try simp only [Act.put, zA, zB, zC]
        exact hof _ _ _ _ (ST_5_18_19_20.out W2 bp bq br HX2.out (XX.out.block F_bp.out) F_bpg.out (XX.out.block F_bq.out) F_bqg.out (BB.out) (HJJ.out) F_ne1819.out (HBN.out ▸ ne_new F_bp.out) (HBN.out ▸ ne_new F_bq.out))
    rw [hA] at st_5_18_19
    try simp only [Act.put, zA, zB, zC] at st_5_18_19
    have ST_5_18_19 := qh st_5_18_19
    clear st_5_18_19
    have st_5_18_20 : ∀ (W1 : World) (bp : Nat) (br : Nat), Ext wc W1 → W1.heap[bp]? = some (.cells #[.int .i64 0] 3 (0, 0)) → wc.heap.size ≤ bp → W1.heap[br]? = some (.cells #[.int .i64 0] 3 (0, 0)) → wc.heap.size ≤ br → bp ≠ br → W 6 #[true, true, true, true, true, true, true, true, true, true, true, false, true, true, true, true, true, false, true, false, true, false, false, false] (((A.put (some 14) (.int .i64 u)).put (some 6) (.pointer (some ⟨bp, 0, none⟩))).put (some 8) (.pointer (some ⟨br, 0, none⟩))) W1 := by
      intro W1 bp br hX hbp hbpg hbr hbrg hne1820
      have X := qh hX
      have F_bp := qh hbp
      have F_bpg := qh hbpg
      have F_br := qh hbr
      have F_brg := qh hbrg
      have F_ne1820 := qh hne1820
      clear hX hbp hbpg hbr hbrg hne1820
      rw [hA]
      try simp only [Act.put, zA, zB, zC]
      refine hto _ _ _ _ ?_
      refine wpN_two (i := 11) (j := 19) (oi := { dst := some 20, op := _, type := _, pos := _, after := _, guard := none }) (oj := { dst := some 7, op := _, type := _, pos := _, after := _, guard := none }) (by kernel_rfl) rfl rfl (fun K hK => ?_) (fun K hK => ?_)
      · go_simp
        go_at_call 29
        refine (HIX.out _ (XC.out.trans X.out)).mono ?_
        rintro e W2 ⟨rfl, xx⟩
        have XX := qh xx
        have HX2 := qh (X.out.trans xx)
        clear xx
        refine hK.out _ _ (.inr HX2.out) ?_
        clear hK K
        try simp only [Act.put, zA, zB, zC]
        exact hof _ _ _ _ (ST_5_11_18_20.out W2 bp br HX2.out (XX.out.block F_bp.out) F_bpg.out (XX.out.block F_br.out) F_brg.out F_ne1820.out)
      · go_simp
        have xx := (Ext.refl W1).alloc (.cells #[.int .i64 0] 3)
        have bb := heap_alloc_new W1 (.cells #[.int .i64 0] 3)
        obtain ⟨W2, hW2⟩ : ∃ V : World, V = W1.alloc (.cells #[.int .i64 0] 3) := ⟨_, rfl⟩
        obtain ⟨bq, hbq⟩ : ∃ b, W1.heap.size = b := ⟨_, rfl⟩
        rw [← hW2] at xx bb
        rw [hbq] at bb
        have XX := qh xx
        have BB := qh bb
        have HX2 := qh (X.out.trans xx)
        have HBN := qh hbq
        have HJJ := qh (hbq ▸ X.out.size)
        rw [← hW2, hbq]
        clear xx bb hW2 hbq
        refine hK.out _ _ (.inr HX2.out) ?_
        clear hK K
        try simp only [Act.put, zA, zB, zC]
        exact hof _ _ _ _ (ST_5_18_19_20.out W2 bp bq br HX2.out (XX.out.block F_bp.out) F_bpg.out (BB.out) (HJJ.out) (XX.out.block F_br.out) F_brg.out (HBN.out ▸ ne_new F_bp.out) F_ne1820.out (Ne.symm (HBN.out ▸ ne_new F_br.out)))
    rw [hA] at st_5_18_20
    try simp only [Act.put, zA, zB, zC] at st_5_18_20
    have ST_5_18_20 := qh st_5_18_20
    clear st_5_18_20
    have st_5_19_20 : ∀ (W1 : World) (bq : Nat) (br : Nat), Ext wc W1 → W1.heap[bq]? = some (.cells #[.int .i64 0] 3 (0, 0)) → wc.heap.size ≤ bq → W1.heap[br]? = some (.cells #[.int .i64 0] 3 (0, 0)) → wc.heap.size ≤ br → bq ≠ br → W 6 #[true, true, true, true, true, true, true, true, true, true, true, false, true, true, true, true, true, false, false, true, true, false, false, false] (((A.put (some 14) (.int .i64 u)).put (some 7) (.pointer (some ⟨bq, 0, none⟩))).put (some 8) (.pointer (some ⟨br, 0, none⟩))) W1 := by
      intro W1 bq br hX hbq hbqg hbr hbrg hne1920
      have X := qh hX
      have F_bq := qh hbq
      have F_bqg := qh hbqg
      have F_br := qh hbr
      have F_brg := qh hbrg
      have F_ne1920 := qh hne1920
      clear hX hbq hbqg hbr hbrg hne1920
      rw [hA]
      try simp only [Act.put, zA, zB, zC]
      refine hto _ _ _ _ ?_
      refine wpN_two (i := 11) (j := 18) (oi := { dst := some 20, op := _, type := _, pos := _, after := _, guard := none }) (oj := { dst := some 6, op := _, type := _, pos := _, after := _, guard := none }) (by kernel_rfl) rfl rfl (fun K hK => ?_) (fun K hK => ?_)
      · go_simp
        go_at_call 29
        refine (HIX.out _ (XC.out.trans X.out)).mono ?_
        rintro e W2 ⟨rfl, xx⟩
        have XX := qh xx
        have HX2 := qh (X.out.trans xx)
        clear xx
        refine hK.out _ _ (.inr HX2.out) ?_
        clear hK K
        try simp only [Act.put, zA, zB, zC]
        exact hof _ _ _ _ (ST_5_11_19_20.out W2 bq br HX2.out (XX.out.block F_bq.out) F_bqg.out (XX.out.block F_br.out) F_brg.out F_ne1920.out)
      · go_simp
        have xx := (Ext.refl W1).alloc (.cells #[.int .i64 0] 3)
        have bb := heap_alloc_new W1 (.cells #[.int .i64 0] 3)
        obtain ⟨W2, hW2⟩ : ∃ V : World, V = W1.alloc (.cells #[.int .i64 0] 3) := ⟨_, rfl⟩
        obtain ⟨bp, hbp⟩ : ∃ b, W1.heap.size = b := ⟨_, rfl⟩
        rw [← hW2] at xx bb
        rw [hbp] at bb
        have XX := qh xx
        have BB := qh bb
        have HX2 := qh (X.out.trans xx)
        have HBN := qh hbp
        have HJJ := qh (hbp ▸ X.out.size)
        rw [← hW2, hbp]
        clear xx bb hW2 hbp
        refine hK.out _ _ (.inr HX2.out) ?_
        clear hK K
        try simp only [Act.put, zA, zB, zC]
        exact hof _ _ _ _ (ST_5_18_19_20.out W2 bp bq br HX2.out (BB.out) (HJJ.out) (XX.out.block F_bq.out) F_bqg.out (XX.out.block F_br.out) F_brg.out (Ne.symm (HBN.out ▸ ne_new F_bq.out)) (Ne.symm (HBN.out ▸ ne_new F_br.out)) F_ne1920.out)
    rw [hA] at st_5_19_20
    try simp only [Act.put, zA, zB, zC] at st_5_19_20
    have ST_5_19_20 := qh st_5_19_20
    clear st_5_19_20
    have st_18_19_20 : ∀ (W1 : World) (bp : Nat) (bq : Nat) (br : Nat), Ext wc W1 → W1.heap[bp]? = some (.cells #[.int .i64 0] 3 (0, 0)) → wc.heap.size ≤ bp → W1.heap[bq]? = some (.cells #[.int .i64 0] 3 (0, 0)) → wc.heap.size ≤ bq → W1.heap[br]? = some (.cells #[.int .i64 0] 3 (0, 0)) → wc.heap.size ≤ br → bp ≠ bq → bp ≠ br → bq ≠ br → W 6 #[true, true, true, true, true, false, true, true, true, true, true, false, true, true, true, true, true, false, true, true, true, false, false, false] (((A.put (some 6) (.pointer (some ⟨bp, 0, none⟩))).put (some 7) (.pointer (some ⟨bq, 0, none⟩))).put (some 8) (.pointer (some ⟨br, 0, none⟩))) W1 := by
      intro W1 bp bq br hX hbp hbpg hbq hbqg hbr hbrg hne1819 hne1820 hne1920
      have X := qh hX
      have F_bp := qh hbp
      have F_bpg := qh hbpg
      have F_bq := qh hbq
      have F_bqg := qh hbqg
      have F_br := qh hbr
      have F_brg := qh hbrg
      have F_ne1819 := qh hne1819
      have F_ne1820 := qh hne1820
      have F_ne1920 := qh hne1920
      clear hX hbp hbpg hbq hbqg hbr hbrg hne1819 hne1820 hne1920
      rw [hA]
      try simp only [Act.put, zA, zB, zC]
      refine hto _ _ _ _ ?_
      refine wpN_one (i := 5) (o := { dst := some 14, op := _, type := _, pos := _, after := _, guard := none }) (by kernel_rfl) rfl (fun K hK => ?_)
      go_simp
      go_at_call 27
      refine (HPA.out _ (XC.out.trans X.out)).mono ?_
      rintro e W2 ⟨rfl, xx⟩
      have XX := qh xx
      have HX2 := qh (X.out.trans xx)
      clear xx
      refine hK.out _ _ (.inr HX2.out) ?_
      clear hK K
      try simp only [Act.put, zA, zB, zC]
      exact hof _ _ _ _ (ST_5_18_19_20.out W2 bp bq br HX2.out (XX.out.block F_bp.out) F_bpg.out (XX.out.block F_bq.out) F_bqg.out (XX.out.block F_br.out) F_brg.out F_ne1819.out F_ne1820.out F_ne1920.out)
    rw [hA] at st_18_19_20
    try simp only [Act.put, zA, zB, zC] at st_18_19_20
    have ST_18_19_20 := qh st_18_19_20
    clear st_18_19_20
    have st_5_11 : ∀ (W1 : World) , Ext wc W1 → W 7 #[true, true, true, true, true, true, true, true, true, true, true, true, true, true, true, true, true, false, false, false, false, false, false, false] ((A.put (some 14) (.int .i64 u)).put (some 20) (.int .i64 x)) W1 := by
      intro W1  hX 
      have X := qh hX

      clear hX
      rw [hA]
      try simp only [Act.put, zA, zB, zC]
      refine hto _ _ _ _ ?_
      refine wpN_four (i := 17) (j := 18) (k := 19) (m := 20) (oi := { dst := some 26, op := _, type := _, pos := _, after := _, guard := none }) (oj := { dst := some 6, op := _, type := _, pos := _, after := _, guard := none }) (ok := { dst := some 7, op := _, type := _, pos := _, after := _, guard := none }) (om := { dst := some 8, op := _, type := _, pos := _, after := _, guard := none }) (by kernel_rfl) rfl rfl rfl rfl (fun K hK => ?_) (fun K hK => ?_) (fun K hK => ?_) (fun K hK => ?_)
      · go_simp
        go_at_call 44
        refine (HLE.out _ (XC.out.trans X.out)).mono ?_
        rintro e W2 ⟨rfl, xx⟩
        have XX := qh xx
        have HX2 := qh (X.out.trans xx)
        clear xx
        refine hK.out _ _ (.inr HX2.out) ?_
        clear hK K
        try simp only [Act.put, zA, zB, zC]
        exact hof _ _ _ _ (ST_5_11_17.out W2 HX2.out )
      · go_simp
        have xx := (Ext.refl W1).alloc (.cells #[.int .i64 0] 3)
        have bb := heap_alloc_new W1 (.cells #[.int .i64 0] 3)
        obtain ⟨W2, hW2⟩ : ∃ V : World, V = W1.alloc (.cells #[.int .i64 0] 3) := ⟨_, rfl⟩
        obtain ⟨bp, hbp⟩ : ∃ b, W1.heap.size = b := ⟨_, rfl⟩
        rw [← hW2] at xx bb
        rw [hbp] at bb
        have XX := qh xx
        have BB := qh bb
        have HX2 := qh (X.out.trans xx)
        have HBN := qh hbp
        have HJJ := qh (hbp ▸ X.out.size)
        rw [← hW2, hbp]
        clear xx bb hW2 hbp
        refine hK.out _ _ (.inr HX2.out) ?_
        clear hK K
        try simp only [Act.put, zA, zB, zC]
        exact hof _ _ _ _ (ST_5_11_18.out W2 bp HX2.out (BB.out) (HJJ.out))
      · go_simp
        have xx := (Ext.refl W1).alloc (.cells #[.int .i64 0] 3)
        have bb := heap_alloc_new W1 (.cells #[.int .i64 0] 3)
        obtain ⟨W2, hW2⟩ : ∃ V : World, V = W1.alloc (.cells #[.int .i64 0] 3) := ⟨_, rfl⟩
        obtain ⟨bq, hbq⟩ : ∃ b, W1.heap.size = b := ⟨_, rfl⟩
        rw [← hW2] at xx bb
        rw [hbq] at bb
        have XX := qh xx
        have BB := qh bb
        have HX2 := qh (X.out.trans xx)
        have HBN := qh hbq
        have HJJ := qh (hbq ▸ X.out.size)
        rw [← hW2, hbq]
        clear xx bb hW2 hbq
        refine hK.out _ _ (.inr HX2.out) ?_
        clear hK K
        try simp only [Act.put, zA, zB, zC]
        exact hof _ _ _ _ (ST_5_11_19.out W2 bq HX2.out (BB.out) (HJJ.out))
      · go_simp
        have xx := (Ext.refl W1).alloc (.cells #[.int .i64 0] 3)
        have bb := heap_alloc_new W1 (.cells #[.int .i64 0] 3)
        obtain ⟨W2, hW2⟩ : ∃ V : World, V = W1.alloc (.cells #[.int .i64 0] 3) := ⟨_, rfl⟩
        obtain ⟨br, hbr⟩ : ∃ b, W1.heap.size = b := ⟨_, rfl⟩
        rw [← hW2] at xx bb
        rw [hbr] at bb
        have XX := qh xx
        have BB := qh bb
        have HX2 := qh (X.out.trans xx)
        have HBN := qh hbr
        have HJJ := qh (hbr ▸ X.out.size)
        rw [← hW2, hbr]
        clear xx bb hW2 hbr
        refine hK.out _ _ (.inr HX2.out) ?_
        clear hK K
        try simp only [Act.put, zA, zB, zC]
        exact hof _ _ _ _ (ST_5_11_20.out W2 br HX2.out (BB.out) (HJJ.out))
    rw [hA] at st_5_11
    try simp only [Act.put, zA, zB, zC] at st_5_11
    have ST_5_11 := qh st_5_11
    clear st_5_11
    have st_5_18 : ∀ (W1 : World) (bp : Nat), Ext wc W1 → W1.heap[bp]? = some (.cells #[.int .i64 0] 3 (0, 0)) → wc.heap.size ≤ bp → W 7 #[true, true, true, true, true, true, true, true, true, true, true, false, true, true, true, true, true, false, true, false, false, false, false, false] ((A.put (some 14) (.int .i64 u)).put (some 6) (.pointer (some ⟨bp, 0, none⟩))) W1 := by
      intro W1 bp hX hbp hbpg
      have X := qh hX
      have F_bp := qh hbp
      have F_bpg := qh hbpg
      clear hX hbp hbpg
      rw [hA]
      try simp only [Act.put, zA, zB, zC]
      refine hto _ _ _ _ ?_
      refine wpN_three (i := 11) (j := 19) (k := 20) (oi := { dst := some 20, op := _, type := _, pos := _, after := _, guard := none }) (oj := { dst := some 7, op := _, type := _, pos := _, after := _, guard := none }) (ok := { dst := some 8, op := _, type := _, pos := _, after := _, guard := none }) (by kernel_rfl) rfl rfl rfl (fun K hK => ?_) (fun K hK => ?_) (fun K hK => ?_)
      · go_simp
        go_at_call 29
        refine (HIX.out _ (XC.out.trans X.out)).mono ?_
        rintro e W2 ⟨rfl, xx⟩
        have XX := qh xx
        have HX2 := qh (X.out.trans xx)
        clear xx
        refine hK.out _ _ (.inr HX2.out) ?_
        clear hK K
        try simp only [Act.put, zA, zB, zC]
        exact hof _ _ _ _ (ST_5_11_18.out W2 bp HX2.out (XX.out.block F_bp.out) F_bpg.out)
      · go_simp
        have xx := (Ext.refl W1).alloc (.cells #[.int .i64 0] 3)
        have bb := heap_alloc_new W1 (.cells #[.int .i64 0] 3)
        obtain ⟨W2, hW2⟩ : ∃ V : World, V = W1.alloc (.cells #[.int .i64 0] 3) := ⟨_, rfl⟩
        obtain ⟨bq, hbq⟩ : ∃ b, W1.heap.size = b := ⟨_, rfl⟩
        rw [← hW2] at xx bb
        rw [hbq] at bb
        have XX := qh xx
        have BB := qh bb
        have HX2 := qh (X.out.trans xx)
        have HBN := qh hbq
        have HJJ := qh (hbq ▸ X.out.size)
        rw [← hW2, hbq]
        clear xx bb hW2 hbq
        refine hK.out _ _ (.inr HX2.out) ?_
        clear hK K
        try simp only [Act.put, zA, zB, zC]
        exact hof _ _ _ _ (ST_5_18_19.out W2 bp bq HX2.out (XX.out.block F_bp.out) F_bpg.out (BB.out) (HJJ.out) (HBN.out ▸ ne_new F_bp.out))
      · go_simp
        have xx := (Ext.refl W1).alloc (.cells #[.int .i64 0] 3)
        have bb := heap_alloc_new W1 (.cells #[.int .i64 0] 3)
        obtain ⟨W2, hW2⟩ : ∃ V : World, V = W1.alloc (.cells #[.int .i64 0] 3) := ⟨_, rfl⟩
        obtain ⟨br, hbr⟩ : ∃ b, W1.heap.size = b := ⟨_, rfl⟩
        rw [← hW2] at xx bb
        rw [hbr] at bb
        have XX := qh xx
        have BB := qh bb
        have HX2 := qh (X.out.trans xx)
        have HBN := qh hbr
        have HJJ := qh (hbr ▸ X.out.size)
        rw [← hW2, hbr]
        clear xx bb hW2 hbr
        refine hK.out _ _ (.inr HX2.out) ?_
        clear hK K
        try simp only [Act.put, zA, zB, zC]
        exact hof _ _ _ _ (ST_5_18_20.out W2 bp br HX2.out (XX.out.block F_bp.out) F_bpg.out (BB.out) (HJJ.out) (HBN.out ▸ ne_new F_bp.out))
    rw [hA] at st_5_18
    try simp only [Act.put, zA, zB, zC] at st_5_18
    have ST_5_18 := qh st_5_18
    clear st_5_18
    have st_5_19 : ∀ (W1 : World) (bq : Nat), Ext wc W1 → W1.heap[bq]? = some (.cells #[.int .i64 0] 3 (0, 0)) → wc.heap.size ≤ bq → W 7 #[true, true, true, true, true, true, true, true, true, true, true, false, true, true, true, true, true, false, false, true, false, false, false, false] ((A.put (some 14) (.int .i64 u)).put (some 7) (.pointer (some ⟨bq, 0, none⟩))) W1 := by
      intro W1 bq hX hbq hbqg
      have X := qh hX
      have F_bq := qh hbq
      have F_bqg := qh hbqg
      clear hX hbq hbqg
      rw [hA]
      try simp only [Act.put, zA, zB, zC]
      refine hto _ _ _ _ ?_
      refine wpN_three (i := 11) (j := 18) (k := 20) (oi := { dst := some 20, op := _, type := _, pos := _, after := _, guard := none }) (oj := { dst := some 6, op := _, type := _, pos := _, after := _, guard := none }) (ok := { dst := some 8, op := _, type := _, pos := _, after := _, guard := none }) (by kernel_rfl) rfl rfl rfl (fun K hK => ?_) (fun K hK => ?_) (fun K hK => ?_)
      · go_simp
        go_at_call 29
        refine (HIX.out _ (XC.out.trans X.out)).mono ?_
        rintro e W2 ⟨rfl, xx⟩
        have XX := qh xx
        have HX2 := qh (X.out.trans xx)
        clear xx
        refine hK.out _ _ (.inr HX2.out) ?_
        clear hK K
        try simp only [Act.put, zA, zB, zC]
        exact hof _ _ _ _ (ST_5_11_19.out W2 bq HX2.out (XX.out.block F_bq.out) F_bqg.out)
      · go_simp
        have xx := (Ext.refl W1).alloc (.cells #[.int .i64 0] 3)
        have bb := heap_alloc_new W1 (.cells #[.int .i64 0] 3)
        obtain ⟨W2, hW2⟩ : ∃ V : World, V = W1.alloc (.cells #[.int .i64 0] 3) := ⟨_, rfl⟩
        obtain ⟨bp, hbp⟩ : ∃ b, W1.heap.size = b := ⟨_, rfl⟩
        rw [← hW2] at xx bb
        rw [hbp] at bb
        have XX := qh xx
        have BB := qh bb
        have HX2 := qh (X.out.trans xx)
        have HBN := qh hbp
        have HJJ := qh (hbp ▸ X.out.size)
        rw [← hW2, hbp]
        clear xx bb hW2 hbp
        refine hK.out _ _ (.inr HX2.out) ?_
        clear hK K
        try simp only [Act.put, zA, zB, zC]
        exact hof _ _ _ _ (ST_5_18_19.out W2 bp bq HX2.out (BB.out) (HJJ.out) (XX.out.block F_bq.out) F_bqg.out (Ne.symm (HBN.out ▸ ne_new F_bq.out)))
      · go_simp
        have xx := (Ext.refl W1).alloc (.cells #[.int .i64 0] 3)
        have bb := heap_alloc_new W1 (.cells #[.int .i64 0] 3)
        obtain ⟨W2, hW2⟩ : ∃ V : World, V = W1.alloc (.cells #[.int .i64 0] 3) := ⟨_, rfl⟩
        obtain ⟨br, hbr⟩ : ∃ b, W1.heap.size = b := ⟨_, rfl⟩
        rw [← hW2] at xx bb
        rw [hbr] at bb
        have XX := qh xx
        have BB := qh bb
        have HX2 := qh (X.out.trans xx)
        have HBN := qh hbr
        have HJJ := qh (hbr ▸ X.out.size)
        rw [← hW2, hbr]
        clear xx bb hW2 hbr
        refine hK.out _ _ (.inr HX2.out) ?_
        clear hK K
        try simp only [Act.put, zA, zB, zC]
        exact hof _ _ _ _ (ST_5_19_20.out W2 bq br HX2.out (XX.out.block F_bq.out) F_bqg.out (BB.out) (HJJ.out) (HBN.out ▸ ne_new F_bq.out))
    rw [hA] at st_5_19
    try simp only [Act.put, zA, zB, zC] at st_5_19
    have ST_5_19 := qh st_5_19
    clear st_5_19
    have st_5_20 : ∀ (W1 : World) (br : Nat), Ext wc W1 → W1.heap[br]? = some (.cells #[.int .i64 0] 3 (0, 0)) → wc.heap.size ≤ br → W 7 #[true, true, true, true, true, true, true, true, true, true, true, false, true, true, true, true, true, false, false, false, true, false, false, false] ((A.put (some 14) (.int .i64 u)).put (some 8) (.pointer (some ⟨br, 0, none⟩))) W1 := by
      intro W1 br hX hbr hbrg
      have X := qh hX
      have F_br := qh hbr
      have F_brg := qh hbrg
      clear hX hbr hbrg
      rw [hA]
      try simp only [Act.put, zA, zB, zC]
      refine hto _ _ _ _ ?_
      refine wpN_three (i := 11) (j := 18) (k := 19) (oi := { dst := some 20, op := _, type := _, pos := _, after := _, guard := none }) (oj := { dst := some 6, op := _, type := _, pos := _, after := _, guard := none }) (ok := { dst := some 7, op := _, type := _, pos := _, after := _, guard := none }) (by kernel_rfl) rfl rfl rfl (fun K hK => ?_) (fun K hK => ?_) (fun K hK => ?_)
      · go_simp
        go_at_call 29
        refine (HIX.out _ (XC.out.trans X.out)).mono ?_
        rintro e W2 ⟨rfl, xx⟩
        have XX := qh xx
        have HX2 := qh (X.out.trans xx)
        clear xx
        refine hK.out _ _ (.inr HX2.out) ?_
        clear hK K
        try simp only [Act.put, zA, zB, zC]
        exact hof _ _ _ _ (ST_5_11_20.out W2 br HX2.out (XX.out.block F_br.out) F_brg.out)
      · go_simp
        have xx := (Ext.refl W1).alloc (.cells #[.int .i64 0] 3)
        have bb := heap_alloc_new W1 (.cells #[.int .i64 0] 3)
        obtain ⟨W2, hW2⟩ : ∃ V : World, V = W1.alloc (.cells #[.int .i64 0] 3) := ⟨_, rfl⟩
        obtain ⟨bp, hbp⟩ : ∃ b, W1.heap.size = b := ⟨_, rfl⟩
        rw [← hW2] at xx bb
        rw [hbp] at bb
        have XX := qh xx
        have BB := qh bb
        have HX2 := qh (X.out.trans xx)
        have HBN := qh hbp
        have HJJ := qh (hbp ▸ X.out.size)
        rw [← hW2, hbp]
        clear xx bb hW2 hbp
        refine hK.out _ _ (.inr HX2.out) ?_
        clear hK K
        try simp only [Act.put, zA, zB, zC]
        exact hof _ _ _ _ (ST_5_18_20.out W2 bp br HX2.out (BB.out) (HJJ.out) (XX.out.block F_br.out) F_brg.out (Ne.symm (HBN.out ▸ ne_new F_br.out)))
      · go_simp
        have xx := (Ext.refl W1).alloc (.cells #[.int .i64 0] 3)
        have bb := heap_alloc_new W1 (.cells #[.int .i64 0] 3)
        obtain ⟨W2, hW2⟩ : ∃ V : World, V = W1.alloc (.cells #[.int .i64 0] 3) := ⟨_, rfl⟩
        obtain ⟨bq, hbq⟩ : ∃ b, W1.heap.size = b := ⟨_, rfl⟩
        rw [← hW2] at xx bb
        rw [hbq] at bb
        have XX := qh xx
        have BB := qh bb
        have HX2 := qh (X.out.trans xx)
        have HBN := qh hbq
        have HJJ := qh (hbq ▸ X.out.size)
        rw [← hW2, hbq]
        clear xx bb hW2 hbq
        refine hK.out _ _ (.inr HX2.out) ?_
        clear hK K
        try simp only [Act.put, zA, zB, zC]
        exact hof _ _ _ _ (ST_5_19_20.out W2 bq br HX2.out (BB.out) (HJJ.out) (XX.out.block F_br.out) F_brg.out (Ne.symm (HBN.out ▸ ne_new F_br.out)))
    rw [hA] at st_5_20
    try simp only [Act.put, zA, zB, zC] at st_5_20
    have ST_5_20 := qh st_5_20
    clear st_5_20
    have st_18_19 : ∀ (W1 : World) (bp : Nat) (bq : Nat), Ext wc W1 → W1.heap[bp]? = some (.cells #[.int .i64 0] 3 (0, 0)) → wc.heap.size ≤ bp → W1.heap[bq]? = some (.cells #[.int .i64 0] 3 (0, 0)) → wc.heap.size ≤ bq → bp ≠ bq → W 7 #[true, true, true, true, true, false, true, true, true, true, true, false, true, true, true, true, true, false, true, true, false, false, false, false] ((A.put (some 6) (.pointer (some ⟨bp, 0, none⟩))).put (some 7) (.pointer (some ⟨bq, 0, none⟩))) W1 := by
      intro W1 bp bq hX hbp hbpg hbq hbqg hne1819
      have X := qh hX
      have F_bp := qh hbp
      have F_bpg := qh hbpg
      have F_bq := qh hbq
      have F_bqg := qh hbqg
      have F_ne1819 := qh hne1819
      clear hX hbp hbpg hbq hbqg hne1819
      rw [hA]
      try simp only [Act.put, zA, zB, zC]
      refine hto _ _ _ _ ?_
      refine wpN_two (i := 5) (j := 20) (oi := { dst := some 14, op := _, type := _, pos := _, after := _, guard := none }) (oj := { dst := some 8, op := _, type := _, pos := _, after := _, guard := none }) (by kernel_rfl) rfl rfl (fun K hK => ?_) (fun K hK => ?_)
      · go_simp
        go_at_call 27
        refine (HPA.out _ (XC.out.trans X.out)).mono ?_
        rintro e W2 ⟨rfl, xx⟩
        have XX := qh xx
        have HX2 := qh (X.out.trans xx)
        clear xx
        refine hK.out _ _ (.inr HX2.out) ?_
        clear hK K
        try simp only [Act.put, zA, zB, zC]
        exact hof _ _ _ _ (ST_5_18_19.out W2 bp bq HX2.out (XX.out.block F_bp.out) F_bpg.out (XX.out.block F_bq.out) F_bqg.out F_ne1819.out)
      · go_simp
        have xx := (Ext.refl W1).alloc (.cells #[.int .i64 0] 3)
        have bb := heap_alloc_new W1 (.cells #[.int .i64 0] 3)
        obtain ⟨W2, hW2⟩ : ∃ V : World, V = W1.alloc (.cells #[.int .i64 0] 3) := ⟨_, rfl⟩
        obtain ⟨br, hbr⟩ : ∃ b, W1.heap.size = b := ⟨_, rfl⟩
        rw [← hW2] at xx bb
        rw [hbr] at bb
        have XX := qh xx
        have BB := qh bb
        have HX2 := qh (X.out.trans xx)
        have HBN := qh hbr
        have HJJ := qh (hbr ▸ X.out.size)
        rw [← hW2, hbr]
        clear xx bb hW2 hbr
        refine hK.out _ _ (.inr HX2.out) ?_
        clear hK K
        try simp only [Act.put, zA, zB, zC]
        exact hof _ _ _ _ (ST_18_19_20.out W2 bp bq br HX2.out (XX.out.block F_bp.out) F_bpg.out (XX.out.block F_bq.out) F_bqg.out (BB.out) (HJJ.out) F_ne1819.out (HBN.out ▸ ne_new F_bp.out) (HBN.out ▸ ne_new F_bq.out))
    rw [hA] at st_18_19
    try simp only [Act.put, zA, zB, zC] at st_18_19
    have ST_18_19 := qh st_18_19
    clear st_18_19
    have st_18_20 : ∀ (W1 : World) (bp : Nat) (br : Nat), Ext wc W1 → W1.heap[bp]? = some (.cells #[.int .i64 0] 3 (0, 0)) → wc.heap.size ≤ bp → W1.heap[br]? = some (.cells #[.int .i64 0] 3 (0, 0)) → wc.heap.size ≤ br → bp ≠ br → W 7 #[true, true, true, true, true, false, true, true, true, true, true, false, true, true, true, true, true, false, true, false, true, false, false, false] ((A.put (some 6) (.pointer (some ⟨bp, 0, none⟩))).put (some 8) (.pointer (some ⟨br, 0, none⟩))) W1 := by
      intro W1 bp br hX hbp hbpg hbr hbrg hne1820
      have X := qh hX
      have F_bp := qh hbp
      have F_bpg := qh hbpg
      have F_br := qh hbr
      have F_brg := qh hbrg
      have F_ne1820 := qh hne1820
      clear hX hbp hbpg hbr hbrg hne1820
      rw [hA]
      try simp only [Act.put, zA, zB, zC]
      refine hto _ _ _ _ ?_
      refine wpN_two (i := 5) (j := 19) (oi := { dst := some 14, op := _, type := _, pos := _, after := _, guard := none }) (oj := { dst := some 7, op := _, type := _, pos := _, after := _, guard := none }) (by kernel_rfl) rfl rfl (fun K hK => ?_) (fun K hK => ?_)
      · go_simp
        go_at_call 27
        refine (HPA.out _ (XC.out.trans X.out)).mono ?_
        rintro e W2 ⟨rfl, xx⟩
        have XX := qh xx
        have HX2 := qh (X.out.trans xx)
        clear xx
        refine hK.out _ _ (.inr HX2.out) ?_
        clear hK K
        try simp only [Act.put, zA, zB, zC]
        exact hof _ _ _ _ (ST_5_18_20.out W2 bp br HX2.out (XX.out.block F_bp.out) F_bpg.out (XX.out.block F_br.out) F_brg.out F_ne1820.out)
      · go_simp
        have xx := (Ext.refl W1).alloc (.cells #[.int .i64 0] 3)
        have bb := heap_alloc_new W1 (.cells #[.int .i64 0] 3)
        obtain ⟨W2, hW2⟩ : ∃ V : World, V = W1.alloc (.cells #[.int .i64 0] 3) := ⟨_, rfl⟩
        obtain ⟨bq, hbq⟩ : ∃ b, W1.heap.size = b := ⟨_, rfl⟩
        rw [← hW2] at xx bb
        rw [hbq] at bb
        have XX := qh xx
        have BB := qh bb
        have HX2 := qh (X.out.trans xx)
        have HBN := qh hbq
        have HJJ := qh (hbq ▸ X.out.size)
        rw [← hW2, hbq]
        clear xx bb hW2 hbq
        refine hK.out _ _ (.inr HX2.out) ?_
        clear hK K
        try simp only [Act.put, zA, zB, zC]
        exact hof _ _ _ _ (ST_18_19_20.out W2 bp bq br HX2.out (XX.out.block F_bp.out) F_bpg.out (BB.out) (HJJ.out) (XX.out.block F_br.out) F_brg.out (HBN.out ▸ ne_new F_bp.out) F_ne1820.out (Ne.symm (HBN.out ▸ ne_new F_br.out)))
    rw [hA] at st_18_20
    try simp only [Act.put, zA, zB, zC] at st_18_20
    have ST_18_20 := qh st_18_20
    clear st_18_20
    have st_19_20 : ∀ (W1 : World) (bq : Nat) (br : Nat), Ext wc W1 → W1.heap[bq]? = some (.cells #[.int .i64 0] 3 (0, 0)) → wc.heap.size ≤ bq → W1.heap[br]? = some (.cells #[.int .i64 0] 3 (0, 0)) → wc.heap.size ≤ br → bq ≠ br → W 7 #[true, true, true, true, true, false, true, true, true, true, true, false, true, true, true, true, true, false, false, true, true, false, false, false] ((A.put (some 7) (.pointer (some ⟨bq, 0, none⟩))).put (some 8) (.pointer (some ⟨br, 0, none⟩))) W1 := by
      intro W1 bq br hX hbq hbqg hbr hbrg hne1920
      have X := qh hX
      have F_bq := qh hbq
      have F_bqg := qh hbqg
      have F_br := qh hbr
      have F_brg := qh hbrg
      have F_ne1920 := qh hne1920
      clear hX hbq hbqg hbr hbrg hne1920
      rw [hA]
      try simp only [Act.put, zA, zB, zC]
      refine hto _ _ _ _ ?_
      refine wpN_two (i := 5) (j := 18) (oi := { dst := some 14, op := _, type := _, pos := _, after := _, guard := none }) (oj := { dst := some 6, op := _, type := _, pos := _, after := _, guard := none }) (by kernel_rfl) rfl rfl (fun K hK => ?_) (fun K hK => ?_)
      · go_simp
        go_at_call 27
        refine (HPA.out _ (XC.out.trans X.out)).mono ?_
        rintro e W2 ⟨rfl, xx⟩
        have XX := qh xx
        have HX2 := qh (X.out.trans xx)
        clear xx
        refine hK.out _ _ (.inr HX2.out) ?_
        clear hK K
        try simp only [Act.put, zA, zB, zC]
        exact hof _ _ _ _ (ST_5_19_20.out W2 bq br HX2.out (XX.out.block F_bq.out) F_bqg.out (XX.out.block F_br.out) F_brg.out F_ne1920.out)
      · go_simp
        have xx := (Ext.refl W1).alloc (.cells #[.int .i64 0] 3)
        have bb := heap_alloc_new W1 (.cells #[.int .i64 0] 3)
        obtain ⟨W2, hW2⟩ : ∃ V : World, V = W1.alloc (.cells #[.int .i64 0] 3) := ⟨_, rfl⟩
        obtain ⟨bp, hbp⟩ : ∃ b, W1.heap.size = b := ⟨_, rfl⟩
        rw [← hW2] at xx bb
        rw [hbp] at bb
        have XX := qh xx
        have BB := qh bb
        have HX2 := qh (X.out.trans xx)
        have HBN := qh hbp
        have HJJ := qh (hbp ▸ X.out.size)
        rw [← hW2, hbp]
        clear xx bb hW2 hbp
        refine hK.out _ _ (.inr HX2.out) ?_
        clear hK K
        try simp only [Act.put, zA, zB, zC]
        exact hof _ _ _ _ (ST_18_19_20.out W2 bp bq br HX2.out (BB.out) (HJJ.out) (XX.out.block F_bq.out) F_bqg.out (XX.out.block F_br.out) F_brg.out (Ne.symm (HBN.out ▸ ne_new F_bq.out)) (Ne.symm (HBN.out ▸ ne_new F_br.out)) F_ne1920.out)
    rw [hA] at st_19_20
    try simp only [Act.put, zA, zB, zC] at st_19_20
    have ST_19_20 := qh st_19_20
    clear st_19_20
    have st_5 : ∀ (W1 : World) , Ext wc W1 → W 8 #[true, true, true, true, true, true, true, true, true, true, true, false, true, true, true, true, true, false, false, false, false, false, false, false] (A.put (some 14) (.int .i64 u)) W1 := by
      intro W1  hX 
      have X := qh hX

      clear hX
      rw [hA]
      try simp only [Act.put, zA, zB, zC]
      refine hto _ _ _ _ ?_
      refine wpN_four (i := 11) (j := 18) (k := 19) (m := 20) (oi := { dst := some 20, op := _, type := _, pos := _, after := _, guard := none }) (oj := { dst := some 6, op := _, type := _, pos := _, after := _, guard := none }) (ok := { dst := some 7, op := _, type := _, pos := _, after := _, guard := none }) (om := { dst := some 8, op := _, type := _, pos := _, after := _, guard := none }) (by kernel_rfl) rfl rfl rfl rfl (fun K hK => ?_) (fun K hK => ?_) (fun K hK => ?_) (fun K hK => ?_)
      · go_simp
        go_at_call 29
        refine (HIX.out _ (XC.out.trans X.out)).mono ?_
        rintro e W2 ⟨rfl, xx⟩
        have XX := qh xx
        have HX2 := qh (X.out.trans xx)
        clear xx
        refine hK.out _ _ (.inr HX2.out) ?_
        clear hK K
        try simp only [Act.put, zA, zB, zC]
        exact hof _ _ _ _ (ST_5_11.out W2 HX2.out )
      · go_simp
        have xx := (Ext.refl W1).alloc (.cells #[.int .i64 0] 3)
        have bb := heap_alloc_new W1 (.cells #[.int .i64 0] 3)
        obtain ⟨W2, hW2⟩ : ∃ V : World, V = W1.alloc (.cells #[.int .i64 0] 3) := ⟨_, rfl⟩
        obtain ⟨bp, hbp⟩ : ∃ b, W1.heap.size = b := ⟨_, rfl⟩
        rw [← hW2] at xx bb
        rw [hbp] at bb
        have XX := qh xx
        have BB := qh bb
        have HX2 := qh (X.out.trans xx)
        have HBN := qh hbp
        have HJJ := qh (hbp ▸ X.out.size)
        rw [← hW2, hbp]
        clear xx bb hW2 hbp
        refine hK.out _ _ (.inr HX2.out) ?_
        clear hK K
        try simp only [Act.put, zA, zB, zC]
        exact hof _ _ _ _ (ST_5_18.out W2 bp HX2.out (BB.out) (HJJ.out))
      · go_simp
        have xx := (Ext.refl W1).alloc (.cells #[.int .i64 0] 3)
        have bb := heap_alloc_new W1 (.cells #[.int .i64 0] 3)
        obtain ⟨W2, hW2⟩ : ∃ V : World, V = W1.alloc (.cells #[.int .i64 0] 3) := ⟨_, rfl⟩
        obtain ⟨bq, hbq⟩ : ∃ b, W1.heap.size = b := ⟨_, rfl⟩
        rw [← hW2] at xx bb
        rw [hbq] at bb
        have XX := qh xx
        have BB := qh bb
        have HX2 := qh (X.out.trans xx)
        have HBN := qh hbq
        have HJJ := qh (hbq ▸ X.out.size)
        rw [← hW2, hbq]
        clear xx bb hW2 hbq
        refine hK.out _ _ (.inr HX2.out) ?_
        clear hK K
        try simp only [Act.put, zA, zB, zC]
        exact hof _ _ _ _ (ST_5_19.out W2 bq HX2.out (BB.out) (HJJ.out))
      · go_simp
        have xx := (Ext.refl W1).alloc (.cells #[.int .i64 0] 3)
        have bb := heap_alloc_new W1 (.cells #[.int .i64 0] 3)
        obtain ⟨W2, hW2⟩ : ∃ V : World, V = W1.alloc (.cells #[.int .i64 0] 3) := ⟨_, rfl⟩
        obtain ⟨br, hbr⟩ : ∃ b, W1.heap.size = b := ⟨_, rfl⟩
        rw [← hW2] at xx bb
        rw [hbr] at bb
        have XX := qh xx
        have BB := qh bb
        have HX2 := qh (X.out.trans xx)
        have HBN := qh hbr
        have HJJ := qh (hbr ▸ X.out.size)
        rw [← hW2, hbr]
        clear xx bb hW2 hbr
        refine hK.out _ _ (.inr HX2.out) ?_
        clear hK K
        try simp only [Act.put, zA, zB, zC]
        exact hof _ _ _ _ (ST_5_20.out W2 br HX2.out (BB.out) (HJJ.out))
    rw [hA] at st_5
    try simp only [Act.put, zA, zB, zC] at st_5
    have ST_5 := qh st_5
    clear st_5
    have st_18 : ∀ (W1 : World) (bp : Nat), Ext wc W1 → W1.heap[bp]? = some (.cells #[.int .i64 0] 3 (0, 0)) → wc.heap.size ≤ bp → W 8 #[true, true, true, true, true, false, true, true, true, true, true, false, true, true, true, true, true, false, true, false, false, false, false, false] (A.put (some 6) (.pointer (some ⟨bp, 0, none⟩))) W1 := by
      intro W1 bp hX hbp hbpg
      have X := qh hX
      have F_bp := qh hbp
      have F_bpg := qh hbpg
      clear hX hbp hbpg
      rw [hA]
      try simp only [Act.put, zA, zB, zC]
      refine hto _ _ _ _ ?_
      refine wpN_three (i := 5) (j := 19) (k := 20) (oi := { dst := some 14, op := _, type := _, pos := _, after := _, guard := none }) (oj := { dst := some 7, op := _, type := _, pos := _, after := _, guard := none }) (ok := { dst := some 8, op := _, type := _, pos := _, after := _, guard := none }) (by kernel_rfl) rfl rfl rfl (fun K hK => ?_) (fun K hK => ?_) (fun K hK => ?_)
      · go_simp
        go_at_call 27
        refine (HPA.out _ (XC.out.trans X.out)).mono ?_
        rintro e W2 ⟨rfl, xx⟩
        have XX := qh xx
        have HX2 := qh (X.out.trans xx)
        clear xx
        refine hK.out _ _ (.inr HX2.out) ?_
        clear hK K
        try simp only [Act.put, zA, zB, zC]
        exact hof _ _ _ _ (ST_5_18.out W2 bp HX2.out (XX.out.block F_bp.out) F_bpg.out)
      · go_simp
        have xx := (Ext.refl W1).alloc (.cells #[.int .i64 0] 3)
        have bb := heap_alloc_new W1 (.cells #[.int .i64 0] 3)
        obtain ⟨W2, hW2⟩ : ∃ V : World, V = W1.alloc (.cells #[.int .i64 0] 3) := ⟨_, rfl⟩
        obtain ⟨bq, hbq⟩ : ∃ b, W1.heap.size = b := ⟨_, rfl⟩
        rw [← hW2] at xx bb
        rw [hbq] at bb
        have XX := qh xx
        have BB := qh bb
        have HX2 := qh (X.out.trans xx)
        have HBN := qh hbq
        have HJJ := qh (hbq ▸ X.out.size)
        rw [← hW2, hbq]
        clear xx bb hW2 hbq
        refine hK.out _ _ (.inr HX2.out) ?_
        clear hK K
        try simp only [Act.put, zA, zB, zC]
        exact hof _ _ _ _ (ST_18_19.out W2 bp bq HX2.out (XX.out.block F_bp.out) F_bpg.out (BB.out) (HJJ.out) (HBN.out ▸ ne_new F_bp.out))
      · go_simp
        have xx := (Ext.refl W1).alloc (.cells #[.int .i64 0] 3)
        have bb := heap_alloc_new W1 (.cells #[.int .i64 0] 3)
        obtain ⟨W2, hW2⟩ : ∃ V : World, V = W1.alloc (.cells #[.int .i64 0] 3) := ⟨_, rfl⟩
        obtain ⟨br, hbr⟩ : ∃ b, W1.heap.size = b := ⟨_, rfl⟩
        rw [← hW2] at xx bb
        rw [hbr] at bb
        have XX := qh xx
        have BB := qh bb
        have HX2 := qh (X.out.trans xx)
        have HBN := qh hbr
        have HJJ := qh (hbr ▸ X.out.size)
        rw [← hW2, hbr]
        clear xx bb hW2 hbr
        refine hK.out _ _ (.inr HX2.out) ?_
        clear hK K
        try simp only [Act.put, zA, zB, zC]
        exact hof _ _ _ _ (ST_18_20.out W2 bp br HX2.out (XX.out.block F_bp.out) F_bpg.out (BB.out) (HJJ.out) (HBN.out ▸ ne_new F_bp.out))
    rw [hA] at st_18
    try simp only [Act.put, zA, zB, zC] at st_18
    have ST_18 := qh st_18
    clear st_18
    have st_19 : ∀ (W1 : World) (bq : Nat), Ext wc W1 → W1.heap[bq]? = some (.cells #[.int .i64 0] 3 (0, 0)) → wc.heap.size ≤ bq → W 8 #[true, true, true, true, true, false, true, true, true, true, true, false, true, true, true, true, true, false, false, true, false, false, false, false] (A.put (some 7) (.pointer (some ⟨bq, 0, none⟩))) W1 := by
      intro W1 bq hX hbq hbqg
      have X := qh hX
      have F_bq := qh hbq
      have F_bqg := qh hbqg
      clear hX hbq hbqg
      rw [hA]
      try simp only [Act.put, zA, zB, zC]
      refine hto _ _ _ _ ?_
      refine wpN_three (i := 5) (j := 18) (k := 20) (oi := { dst := some 14, op := _, type := _, pos := _, after := _, guard := none }) (oj := { dst := some 6, op := _, type := _, pos := _, after := _, guard := none }) (ok := { dst := some 8, op := _, type := _, pos := _, after := _, guard := none }) (by kernel_rfl) rfl rfl rfl (fun K hK => ?_) (fun K hK => ?_) (fun K hK => ?_)
      · go_simp
        go_at_call 27
        refine (HPA.out _ (XC.out.trans X.out)).mono ?_
        rintro e W2 ⟨rfl, xx⟩
        have XX := qh xx
        have HX2 := qh (X.out.trans xx)
        clear xx
        refine hK.out _ _ (.inr HX2.out) ?_
        clear hK K
        try simp only [Act.put, zA, zB, zC]
        exact hof _ _ _ _ (ST_5_19.out W2 bq HX2.out (XX.out.block F_bq.out) F_bqg.out)
      · go_simp
        have xx := (Ext.refl W1).alloc (.cells #[.int .i64 0] 3)
        have bb := heap_alloc_new W1 (.cells #[.int .i64 0] 3)
        obtain ⟨W2, hW2⟩ : ∃ V : World, V = W1.alloc (.cells #[.int .i64 0] 3) := ⟨_, rfl⟩
        obtain ⟨bp, hbp⟩ : ∃ b, W1.heap.size = b := ⟨_, rfl⟩
        rw [← hW2] at xx bb
        rw [hbp] at bb
        have XX := qh xx
        have BB := qh bb
        have HX2 := qh (X.out.trans xx)
        have HBN := qh hbp
        have HJJ := qh (hbp ▸ X.out.size)
        rw [← hW2, hbp]
        clear xx bb hW2 hbp
        refine hK.out _ _ (.inr HX2.out) ?_
        clear hK K
        try simp only [Act.put, zA, zB, zC]
        exact hof _ _ _ _ (ST_18_19.out W2 bp bq HX2.out (BB.out) (HJJ.out) (XX.out.block F_bq.out) F_bqg.out (Ne.symm (HBN.out ▸ ne_new F_bq.out)))
      · go_simp
        have xx := (Ext.refl W1).alloc (.cells #[.int .i64 0] 3)
        have bb := heap_alloc_new W1 (.cells #[.int .i64 0] 3)
        obtain ⟨W2, hW2⟩ : ∃ V : World, V = W1.alloc (.cells #[.int .i64 0] 3) := ⟨_, rfl⟩
        obtain ⟨br, hbr⟩ : ∃ b, W1.heap.size = b := ⟨_, rfl⟩
        rw [← hW2] at xx bb
        rw [hbr] at bb
        have XX := qh xx
        have BB := qh bb
        have HX2 := qh (X.out.trans xx)
        have HBN := qh hbr
        have HJJ := qh (hbr ▸ X.out.size)
        rw [← hW2, hbr]
        clear xx bb hW2 hbr
        refine hK.out _ _ (.inr HX2.out) ?_
        clear hK K
        try simp only [Act.put, zA, zB, zC]
        exact hof _ _ _ _ (ST_19_20.out W2 bq br HX2.out (XX.out.block F_bq.out) F_bqg.out (BB.out) (HJJ.out) (HBN.out ▸ ne_new F_bq.out))
    rw [hA] at st_19
    try simp only [Act.put, zA, zB, zC] at st_19
    have ST_19 := qh st_19
    clear st_19
    have st_20 : ∀ (W1 : World) (br : Nat), Ext wc W1 → W1.heap[br]? = some (.cells #[.int .i64 0] 3 (0, 0)) → wc.heap.size ≤ br → W 8 #[true, true, true, true, true, false, true, true, true, true, true, false, true, true, true, true, true, false, false, false, true, false, false, false] (A.put (some 8) (.pointer (some ⟨br, 0, none⟩))) W1 := by
      intro W1 br hX hbr hbrg
      have X := qh hX
      have F_br := qh hbr
      have F_brg := qh hbrg
      clear hX hbr hbrg
      rw [hA]
      try simp only [Act.put, zA, zB, zC]
      refine hto _ _ _ _ ?_
      refine wpN_three (i := 5) (j := 18) (k := 19) (oi := { dst := some 14, op := _, type := _, pos := _, after := _, guard := none }) (oj := { dst := some 6, op := _, type := _, pos := _, after := _, guard := none }) (ok := { dst := some 7, op := _, type := _, pos := _, after := _, guard := none }) (by kernel_rfl) rfl rfl rfl (fun K hK => ?_) (fun K hK => ?_) (fun K hK => ?_)
      · go_simp
        go_at_call 27
        refine (HPA.out _ (XC.out.trans X.out)).mono ?_
        rintro e W2 ⟨rfl, xx⟩
        have XX := qh xx
        have HX2 := qh (X.out.trans xx)
        clear xx
        refine hK.out _ _ (.inr HX2.out) ?_
        clear hK K
        try simp only [Act.put, zA, zB, zC]
        exact hof _ _ _ _ (ST_5_20.out W2 br HX2.out (XX.out.block F_br.out) F_brg.out)
      · go_simp
        have xx := (Ext.refl W1).alloc (.cells #[.int .i64 0] 3)
        have bb := heap_alloc_new W1 (.cells #[.int .i64 0] 3)
        obtain ⟨W2, hW2⟩ : ∃ V : World, V = W1.alloc (.cells #[.int .i64 0] 3) := ⟨_, rfl⟩
        obtain ⟨bp, hbp⟩ : ∃ b, W1.heap.size = b := ⟨_, rfl⟩
        rw [← hW2] at xx bb
        rw [hbp] at bb
        have XX := qh xx
        have BB := qh bb
        have HX2 := qh (X.out.trans xx)
        have HBN := qh hbp
        have HJJ := qh (hbp ▸ X.out.size)
        rw [← hW2, hbp]
        clear xx bb hW2 hbp
        refine hK.out _ _ (.inr HX2.out) ?_
        clear hK K
        try simp only [Act.put, zA, zB, zC]
        exact hof _ _ _ _ (ST_18_20.out W2 bp br HX2.out (BB.out) (HJJ.out) (XX.out.block F_br.out) F_brg.out (Ne.symm (HBN.out ▸ ne_new F_br.out)))
      · go_simp
        have xx := (Ext.refl W1).alloc (.cells #[.int .i64 0] 3)
        have bb := heap_alloc_new W1 (.cells #[.int .i64 0] 3)
        obtain ⟨W2, hW2⟩ : ∃ V : World, V = W1.alloc (.cells #[.int .i64 0] 3) := ⟨_, rfl⟩
        obtain ⟨bq, hbq⟩ : ∃ b, W1.heap.size = b := ⟨_, rfl⟩
        rw [← hW2] at xx bb
        rw [hbq] at bb
        have XX := qh xx
        have BB := qh bb
        have HX2 := qh (X.out.trans xx)
        have HBN := qh hbq
        have HJJ := qh (hbq ▸ X.out.size)
        rw [← hW2, hbq]
        clear xx bb hW2 hbq
        refine hK.out _ _ (.inr HX2.out) ?_
        clear hK K
        try simp only [Act.put, zA, zB, zC]
        exact hof _ _ _ _ (ST_19_20.out W2 bq br HX2.out (BB.out) (HJJ.out) (XX.out.block F_br.out) F_brg.out (Ne.symm (HBN.out ▸ ne_new F_br.out)))
    rw [hA] at st_20
    try simp only [Act.put, zA, zB, zC] at st_20
    have ST_20 := qh st_20
    clear st_20
    have st : ∀ (W1 : World) , Ext wc W1 → W 9 #[true, true, true, true, true, false, true, true, true, true, true, false, true, true, true, true, true, false, false, false, false, false, false, false] A W1 := by
      intro W1  hX 
      have X := qh hX

      clear hX
      rw [hA]
      try simp only [Act.put, zA, zB, zC]
      refine hto _ _ _ _ ?_
      refine wpN_four (i := 5) (j := 18) (k := 19) (m := 20) (oi := { dst := some 14, op := _, type := _, pos := _, after := _, guard := none }) (oj := { dst := some 6, op := _, type := _, pos := _, after := _, guard := none }) (ok := { dst := some 7, op := _, type := _, pos := _, after := _, guard := none }) (om := { dst := some 8, op := _, type := _, pos := _, after := _, guard := none }) (by kernel_rfl) rfl rfl rfl rfl (fun K hK => ?_) (fun K hK => ?_) (fun K hK => ?_) (fun K hK => ?_)
      · go_simp
        go_at_call 27
        refine (HPA.out _ (XC.out.trans X.out)).mono ?_
        rintro e W2 ⟨rfl, xx⟩
        have XX := qh xx
        have HX2 := qh (X.out.trans xx)
        clear xx
        refine hK.out _ _ (.inr HX2.out) ?_
        clear hK K
        try simp only [Act.put, zA, zB, zC]
        exact hof _ _ _ _ (ST_5.out W2 HX2.out )
      · go_simp
        have xx := (Ext.refl W1).alloc (.cells #[.int .i64 0] 3)
        have bb := heap_alloc_new W1 (.cells #[.int .i64 0] 3)
        obtain ⟨W2, hW2⟩ : ∃ V : World, V = W1.alloc (.cells #[.int .i64 0] 3) := ⟨_, rfl⟩
        obtain ⟨bp, hbp⟩ : ∃ b, W1.heap.size = b := ⟨_, rfl⟩
        rw [← hW2] at xx bb
        rw [hbp] at bb
        have XX := qh xx
        have BB := qh bb
        have HX2 := qh (X.out.trans xx)
        have HBN := qh hbp
        have HJJ := qh (hbp ▸ X.out.size)
        rw [← hW2, hbp]
        clear xx bb hW2 hbp
        refine hK.out _ _ (.inr HX2.out) ?_
        clear hK K
        try simp only [Act.put, zA, zB, zC]
        exact hof _ _ _ _ (ST_18.out W2 bp HX2.out (BB.out) (HJJ.out))
      · go_simp
        have xx := (Ext.refl W1).alloc (.cells #[.int .i64 0] 3)
        have bb := heap_alloc_new W1 (.cells #[.int .i64 0] 3)
        obtain ⟨W2, hW2⟩ : ∃ V : World, V = W1.alloc (.cells #[.int .i64 0] 3) := ⟨_, rfl⟩
        obtain ⟨bq, hbq⟩ : ∃ b, W1.heap.size = b := ⟨_, rfl⟩
        rw [← hW2] at xx bb
        rw [hbq] at bb
        have XX := qh xx
        have BB := qh bb
        have HX2 := qh (X.out.trans xx)
        have HBN := qh hbq
        have HJJ := qh (hbq ▸ X.out.size)
        rw [← hW2, hbq]
        clear xx bb hW2 hbq
        refine hK.out _ _ (.inr HX2.out) ?_
        clear hK K
        try simp only [Act.put, zA, zB, zC]
        exact hof _ _ _ _ (ST_19.out W2 bq HX2.out (BB.out) (HJJ.out))
      · go_simp
        have xx := (Ext.refl W1).alloc (.cells #[.int .i64 0] 3)
        have bb := heap_alloc_new W1 (.cells #[.int .i64 0] 3)
        obtain ⟨W2, hW2⟩ : ∃ V : World, V = W1.alloc (.cells #[.int .i64 0] 3) := ⟨_, rfl⟩
        obtain ⟨br, hbr⟩ : ∃ b, W1.heap.size = b := ⟨_, rfl⟩
        rw [← hW2] at xx bb
        rw [hbr] at bb
        have XX := qh xx
        have BB := qh bb
        have HX2 := qh (X.out.trans xx)
        have HBN := qh hbr
        have HJJ := qh (hbr ▸ X.out.size)
        rw [← hW2, hbr]
        clear xx bb hW2 hbr
        refine hK.out _ _ (.inr HX2.out) ?_
        clear hK K
        try simp only [Act.put, zA, zB, zC]
        exact hof _ _ _ _ (ST_20.out W2 br HX2.out (BB.out) (HJJ.out))
    rw [hA] at st
    try simp only [Act.put, zA, zB, zC] at st
    have ST := qh st
    clear st
    subst hA
    exact ST.out _ HS0.out
  case rest =>
    obtain ⟨bp, bq, br, rfl, rfl, rfl, x6, hbp, hbq, hbr, hg3, hg4, hg5⟩ := hcut
    rename World => v7
    have xw5 := XC.out.size
    have BX : JoinBox lb i j u x l b3 (b3 + 1) (b3 + 1 + 1) bp bq br v7 := ⟨x6.block B3.out, x6.block B4.out, x6.block B5.out, hbp, hbq, hbr⟩
    have hlt : ∀ {b : Nat} {y : Obj}, v7.heap[b]? = some y → b < v7.heap.size := fun h => (Array.getElem?_eq_some_iff.1 h).1
    have hsa := HSA.out
    have hLL : ∀ b, b = b3 ∨ b = b3 + 1 ∨ b = b3 + 1 + 1 ∨ b = bp ∨ b = bq ∨ b = br → (w.heap.size ≤ b ∧ b < v7.heap.size) := by
      rintro b (rfl | rfl | rfl | rfl | rfl | rfl)
      · exact ⟨by omega, hlt BX.c3⟩
      · exact ⟨by omega, hlt BX.c4⟩
      · exact ⟨by omega, hlt BX.c5⟩
      · exact ⟨Nat.le_trans xw5 hg3, hlt BX.c6⟩
      · exact ⟨Nat.le_trans xw5 hg4, hlt BX.c7⟩
      · exact ⟨Nat.le_trans xw5 hg5, hlt BX.c8⟩
    have hD := does_join (own := own) (tb := tb) (hb := hb) (w := w) (T := T) (H := H) (L := fun b => w.heap.size ≤ b ∧ b < v7.heap.size) BX hLL HS.out HTT.out HZ.out S1.out S2.out S3.out
    obtain ⟨oi, oj, ol, ou, ox⟩ := HO.out
    have hB : ByK own lb tb hb w (fun b => w.heap.size ≤ b ∧ b < v7.heap.size) T3 (fun W => JoinBox lb i j u x l b3 (b3 + 1) (b3 + 1 + 1) bp bq br W) (joinP i j l u x)
        (.func (.func 171) #[] #[.pointer (some ⟨b3 + 1, 0, none⟩), .pointer (some ⟨b3 + 1 + 1, 0, none⟩), .pointer (some ⟨br, 0, none⟩), .pointer (some ⟨bp, 0, none⟩), .pointer (some ⟨bq, 0, none⟩)]) :=
      ⟨_, _, rfl, enters_of Tryz.func171 (by kernel_rfl) rfl, fun W H2 n' a' _ hK hP => byJoin i j l u x oi oj ol ou ox hK.c4 hK.c5 hK.c8 hK.c6 hK.c7 n' a' hP⟩
    have HKEPT := qh (kept_any (LK.start HH.out (XC.out.trans x6)) HL.out HOK.out hD hB (fun W W' hK k => hK.move fun b hb => k b (hLL b hb)) HSO.out HG.out HMAY.out)
    have y3 := cellOf BX.c3 (i := 0) rfl
    have hmf : ∀ (fn : Fn) (first cap : Array Value) (w : World), (Instr.makeFunc fn first cap).run Tryz.prog w = .ok (.func fn first cap) w := fun _ _ _ _ => rfl
    clear xw5 hg3 hg4 hg5 x6 hbp hbq hbr BX hlt hsa hLL hD hB oi oj ol ou ox
    go_wp2_with (go_at_call 50; refine HKEPT.out.mono ?_)
    rintro e v8 ⟨rfl, hk8, hK8⟩
    have HK8 := qh hk8.after
    clear hk8 hK8 y3
    go_wp2_with fail
    go_end0
    exact ⟨rfl, HK8.out⟩
end
theorem utf_app {a b : ByteArray} (ha : anewB a = a) (hb : anewB b = b) : anewB (a ++ b) = a ++ b ∧ runes (a ++ b) = runes a + runes b := by
  have e : a ++ b = runesBytes (runeList a a.size 0 ++ runeList b b.size 0) := by
    rw [runesBytes_app]
    show a ++ b = anewB a ++ anewB b
    rw [ha, hb]
  have hv : ∀ r ∈ runeList a a.size 0 ++ runeList b b.size 0, Utf8.valid r = true := fun r hr => by
    rcases List.mem_append.1 hr with h | h
    · exact runeList_valid a _ _ r h
    · exact runeList_valid b _ _ r h
  constructor
  · rw [e]; exact anewB_of hv
  · unfold runes
    rw [e, runes_of hv, List.length_append]
def Tr.without (T : Tr) (p j : Nat) (pd kd : Nd) : Tr := (T.unlink p j pd kd).rid fun q => (T.unlink p j pd kd).within q j
def Tr.joinText (T : Tr) (p i j : Nat) (pd nd kd : Nd) : Tr := (T.without p j pd kd).setAt i { nd with text := nd.text ++ kd.text }
section
variable {T : Tr} {d : Nat → Nat} {p i j : Nat} {pd nd kd : Nd} {H : List Hd}
structure TextKid (T : Tr) (p j : Nat) (pd kd : Nd) : Prop where
  up : T.nodes[p]? = some (some pd)
  at_ : T.nodes[j]? = some (some kd)
  par : kd.parent = (p : Int)
  mem : (j : Int) ∈ pd.kids
  tag : kd.tag = 0
theorem TextKid.ne (h : TextKid T p j pd kd) (hw : WF T d) : p ≠ j ∧ pd.tag ≠ 0 ∧ j ≠ 0 ∧ kd.kids = [] := by
  have hk := (hw.text j kd h.at_).2.2 h.tag
  refine ⟨fun e => ?_, fun e => ?_, fun e => ?_, hk⟩
  · have h1 := h.up
    rw [e, h.at_] at h1
    cases h1
    have := h.mem
    rw [hk] at this
    cases this
  · have h9 := (hw.text p pd h.up).2.2 e
    have := h.mem
    rw [h9] at this
    cases this
  · obtain ⟨r, r1, r2, r3⟩ := hw.root
    have h1 := h.at_
    rw [e, r1] at h1
    cases h1
    have := h.par
    omega
theorem unlink_get (hp : T.nodes[p]? = some (some pd)) (hj : T.nodes[j]? = some (some kd)) (q : Nat) : (T.unlink p j pd kd).nodes[q]? = if q = j then some (some { kd with parent := -1 }) else if q = p then some (some { pd with kids := pd.kids.erase (j : Int) }) else T.nodes[q]? := Tr.set2_get hp hj q
theorem TextKid.gone (h : TextKid T p j pd kd) (hw : WF T d) (q : Nat) (x : Nd) : (T.without p j pd kd).nodes[q]? = some (some x) ↔ q ≠ j ∧ (T.unlink p j pd kd).nodes[q]? = some (some x) := by
  obtain ⟨h1, h2, h3, h4⟩ := h.ne hw
  have hw1 := hw.unlink h.up h.at_ h.par
  have hj1 : (T.unlink p j pd kd).nodes[j]? = some (some { kd with parent := -1 }) := by rw [unlink_get h.up h.at_, if_pos rfl]
  unfold Tr.without
  rw [Tr.rid_some]
  constructor
  · rintro ⟨a1, a2⟩
    refine ⟨fun e => ?_, a2⟩
    rw [e, hw1.within_self hj1] at a1
    cases a1
  · rintro ⟨a1, a2⟩
    refine ⟨?_, a2⟩
    cases e : (T.unlink p j pd kd).within q j with
    | false => rfl
    | true =>
      rcases hw1.within_kid hj1 q x a2 e with e2 | ⟨k, hk, _⟩
      · exact absurd e2 a1
      · have hk' : k ∈ kd.kids := hk
        rw [h4] at hk'
        cases hk'
theorem TextKid.get_gone (h : TextKid T p j pd kd) (hw : WF T d) {n : Int} (hn : n ≠ j) : (T.without p j pd kd).get? n = (T.unlink p j pd kd).get? n := by
  refine get_same (fun x hx => ?_) fun x hx => ?_
  · obtain ⟨q, rfl, hq⟩ := nat_of hx
    exact Tr.get_of ((h.gone hw q x).2 ⟨by omega, hq⟩)
  · obtain ⟨q, rfl, hq⟩ := nat_of hx
    exact Tr.get_of ((h.gone hw q x).1 hq).2
theorem TextKid.len_gone (h : TextKid T p j pd kd) (hw : WF T d) : (∀ n : Int, n ≠ j → n ≠ p → (T.without p j pd kd).lengthOf n = T.lengthOf n) ∧ (T.without p j pd kd).lengthOf p = T.lengthOf p - 1 := by
  obtain ⟨h1, h2, h3, h4⟩ := h.ne hw
  obtain ⟨l1, l2⟩ := unlink_len h.up h.at_ h1 h2 (tag_ne hw h.up) h.mem
  have key : ∀ n : Int, n ≠ j → (T.without p j pd kd).lengthOf n = (T.unlink p j pd kd).lengthOf n := fun n hn => by rw [lengthOf_eq, lengthOf_eq, h.get_gone hw hn]
  exact ⟨fun n a1 a2 => (key n a1).trans (l1 n a2), (key p (by omega)).trans l2⟩
theorem TextKid.live (h : TextKid T p j pd kd) (hS : StOk T H) (hl : H.length ≤ 100000) : ∃ H1 H2 : List Hd, GoodT (T.unlink p j pd kd) ∧ GoodT (T.without p j pd kd) ∧ StOk (T.without p j pd kd) H2 ∧ H2.length = H.length ∧ SameOff H H2 ∧
    H2 = (H.map (moved (remP (T.unlink p j pd kd) j (T.up j) (T.idx j)))).map (moved (dropP ((T.unlink p j pd kd).allOf j))) ∧
    (∀ (w : World) (own : Ow) (ptr : Nat → Nat) (lb tb : Nat) (hv : Value) (hb : Option Nat), LiveAt w own ptr lb tb T hv hb H → Calls Tryz.prog 70 #[.pointer (some ⟨lb, 0, none⟩), .int .i64 j] w (LErr own lb tb hb w 0 (T.unlink p j pd kd) H1)) ∧
    (∀ (w : World) (own : Ow) (ptr : Nat → Nat) (lb tb : Nat) (hv : Value) (hb : Option Nat), LiveAt w own ptr lb tb (T.unlink p j pd kd) hv hb H1 → Calls Tryz.prog 71 #[.pointer (some ⟨lb, 0, none⟩), .int .i64 j] w (LErr own lb tb hb w 0 (T.without p j pd kd) H2)) := by
  obtain ⟨⟨d, hw⟩, hat⟩ := hS.good
  obtain ⟨h1, h2, h3, h4⟩ := h.ne hw
  have hkl := hw.kids_len h.up
  have hw1 := hw.unlink h.up h.at_ h.par
  have hG1 : GoodT (T.unlink p j pd kd) := ⟨⟨_, hw1⟩, hat.set2 (show NdOk pd from hat _ _ h.up) (show NdOk kd from hat _ _ h.at_)⟩
  have hj1 : (T.unlink p j pd kd).nodes[j]? = some (some { kd with parent := -1 }) := by rw [unlink_get h.up h.at_, if_pos rfl]
  have hG2 : GoodT (T.without p j pd kd) := ⟨⟨_, hw1.rid hj1 rfl h3⟩, hG1.2.rid _⟩
  obtain ⟨hS1, p1⟩ := Remove_live (T' := T.unlink p j pd kd) (id := (j : Int)) (er := 0) hS hl hG1 (.inr ⟨rfl, p, j, pd, kd, rfl, h.up, h.at_, h.par, h.mem, h1, rfl⟩) (fun w own ptr tb hT hO => Remove_ok hT hO h.up h.at_ h.par h1 (by omega) h.mem)
  have hl1 : (Go.Proofs.YtfibikkcfmohjaaGreat.movedIf 0 (remP (T.unlink p j pd kd) j (T.up j) (T.idx j)) H).length = H.length := (movedD_is 0 _ H).2.2
  obtain ⟨hS2, p2⟩ := Drop_live (T := T.unlink p j pd kd) (T' := T.without p j pd kd) (id := (j : Int)) (er := 0) hS1 (by omega) hG2 (.inr ⟨rfl, j, _, rfl, hj1, rfl, h3, rfl⟩) (fun w own ptr tb hT hO => Drop_ok hT hO hw1 hj1 h3 rfl)
  exact ⟨_, _, hG1, hG2, hS2, by rw [(movedD_is 0 _ _).2.2, hl1], (SameOff.movedIf H 0 _).trans (SameOff.movedIf _ 0 _), rfl, p1, p2⟩
theorem pJoin_yes (h : TextKid T p j pd kd) (hi : TextKid T p i pd nd) (hij : i ≠ j) (hS : StOk T H) (hl : H.length ≤ 50000) (hz : nd.text.size + kd.text.size ≤ 8192) :
    StOk (T.joinText p i j pd nd kd) (H.map (moved (joinP i j (runes nd.text : Int) p (T.idx j)))) ∧
      ∀ (w : World) (own : Ow) (ptr : Nat → Nat) (lb tb : Nat) (hv : Value) (hb : Option Nat), LiveAt w own ptr lb tb T hv hb H →
        Calls Tryz.prog 138 #[.pointer (some ⟨lb, 0, none⟩), .int .i64 i, .int .i64 j] w (JoinIs own lb tb hb w (T.joinText p i j pd nd kd) (H.map (moved (joinP i j (runes nd.text : Int) p (T.idx j))))) := by
  obtain ⟨⟨d, hw⟩, hat⟩ := hS.good
  have hG : GoodT T := ⟨⟨d, hw⟩, hat⟩
  obtain ⟨h1, h2, h3, h4⟩ := h.ne hw
  obtain ⟨i1, _, i3, i4⟩ := hi.ne hw
  obtain ⟨H1, H2, hG1, hG2, hS2, hl2, hso, _, p1, p2⟩ := h.live hS (by omega)
  obtain ⟨⟨d2, hw2⟩, hat2⟩ := hG2
  have hu1 := hS.utf i nd hi.at_
  have hu2 := hS.utf j kd h.at_
  obtain ⟨u1, u2⟩ := utf_app hu1 hu2
  have hsz : (nd.text ++ kd.text).size ≤ 8192 := by rw [ByteArray.size_append]; exact hz
  have hi2 : (T.without p j pd kd).nodes[i]? = some (some nd) := (h.gone hw i nd).2 ⟨hij, by rw [unlink_get h.up h.at_, if_neg hij, if_neg (Ne.symm i1)]; exact hi.at_⟩
  have hx := hw2.text i nd hi2
  have hG3 : GoodT (T.joinText p i j pd nd kd) := ⟨⟨_, hw2.setAt (nd' := { nd with text := nd.text ++ kd.text }) hi2 rfl rfl hx.1 hx.2.1 (fun h => h) (fun _ => rfl)⟩, hat2.setAt ⟨(hat2 _ _ hi2).1, by show (nd.text ++ kd.text).size ≤ 8192; exact hsz⟩⟩
  obtain ⟨c, hS3, p3⟩ := SetText_live (T := T.without p j pd kd) (T' := T.joinText p i j pd nd kd) (id := (i : Int)) (er := 0) (s := nd.text ++ kd.text) hS2 (by omega) (by omega) hG3 (.inr ⟨rfl, i, nd, rfl, hi2, hi.tag, by rw [u1]; rfl⟩) (fun w own ptr tb hT hO => by
    have h9 := SetText_ok hT hO hi2 (by simp [hi.tag]) (nd.text ++ kd.text) (by omega) (by rw [u1]; exact hsz)
    rw [u1] at h9
    exact h9)
  obtain ⟨g1, g2⟩ := h.len_gone hw
  obtain ⟨k1, k2⟩ := settext_len (T' := T.joinText p i j pd nd kd) (s := nd.text ++ kd.text) hi2 hi.tag rfl
  have hli := lengthOf_text hi.at_ hi.tag
  have hlj := lengthOf_text h.at_ h.tag
  obtain ⟨hxj, hxl⟩ := kid_idx hw h.at_ h.par h.up h.mem
  have hlp := lengthOf_kids hw h.up h2
  have hkl := hw.kids_len h.up
  have hmay : ∀ n y, T.may n y = true → (T.joinText p i j pd nd kd).may (joinP i j (runes nd.text : Int) p (T.idx j) n y).1 (joinP i j (runes nd.text : Int) p (T.idx j) n y).2 = true := fun n y hm =>
    may_join (x := (i : Int)) (o := (j : Int)) (u := (p : Int)) (by rw [k2, u2, hlj]; push_cast; rfl) (by rw [k1 p (by omega), g2]) (fun n a1 a2 a3 => by rw [k1 n a1, g1 n a2 a3]) hli (by omega) (by omega) (by rw [hxj, hlp]; omega) (by omega) hm
  have hsi := len_small hG (Tr.get_of hi.at_)
  have hsj := len_small hG (Tr.get_of h.at_)
  have hsp := len_small hG (Tr.get_of h.up)
  have hti : T.txt i = nd.text := by unfold Tr.txt; rw [Tr.get_of hi.at_]
  have htj : T.txt j = kd.text := by unfold Tr.txt; rw [Tr.get_of h.at_]
  refine ⟨⟨hG3, hS.may.map hmay, offs_moved _ hS.offs, hS3.utf⟩, fun w own ptr lb tb hv hb hL => ?_⟩
  exact pJoin_does (T1 := T.unlink p j pd kd) (T2 := T.without p j pd kd) (T3 := T.joinText p i j pd nd kd) hL hw hat hl hS.okH (u := (p : Int)) (x := T.idx j) (l := runes nd.text) (by rw [Tr.up_some (Tr.get_of hi.at_), hi.par]) rfl hli (by unfold okI; omega) (by unfold okI; omega) (by unfold okI; omega) (by unfold okI; omega) (by unfold okI; omega)
    hti htj (by omega) hG3 (hso.trans (SameOff.movedIf _ 0 _)) (fun y hy h0 => hmay _ _ (hS.may y hy h0)) (fun W o q hv b hL => p1 W o q lb tb hv b hL) (fun W o q hv b hL => p2 W o q lb tb hv b hL) (fun W o q hv b hL => p3 W o q lb tb hv b hL)
end
def goneT (T : Tr) (p : Nat) (x : Int) : Tr := T.without p x.toNat (T.look p) (T.look x)
def goneH (T : Tr) (H : List Hd) (p : Nat) (x : Int) : List Hd := H.map (moved (goneL [x] p (T.idx x)))
def joinT (T : Tr) (p : Nat) (x y : Int) : Tr := T.joinText p x.toNat y.toNat (T.look p) (T.look x) (T.look y)
def joinH (T : Tr) (H : List Hd) (p : Nat) (x y : Int) : List Hd := H.map (moved (joinP x y (runes (T.txt x) : Int) p (T.idx y)))
def normStep (T : Tr) (H : List Hd) (p i : Nat) : Option (Tr × List Hd × Nat) :=
  match (T.kidsOf p)[i]? with
  | none => none
  | some x =>
    if T.tagOf x ≠ 0 then some (T, H, i + 1)
    else if (T.txt x).size = 0 then some (goneT T p x, goneH T H p x, i)
    else match (T.kidsOf p)[i + 1]? with
      | none => some (T, H, i + 1)
      | some y =>
        if T.tagOf y ≠ 0 then some (T, H, i + 1)
        else if (T.txt y).size = 0 then some (goneT T p y, goneH T H p y, i)
        else if (T.txt x).size + (T.txt y).size ≤ 8192 then some (joinT T p x y, joinH T H p x y, i)
        else some (T, H, i + 1)
def normRun (p : Nat) : Nat → Tr → List Hd → Nat → Tr × List Hd
  | 0, T, H, _ => (T, H)
  | n + 1, T, H, i => match normStep T H p i with
    | none => (T, H)
    | some (T', H', i') => normRun p n T' H' i'
def normKids (T : Tr) (H : List Hd) (p : Nat) : Tr × List Hd := normRun p (T.kidsOf p).length T H 0
section
variable {T : Tr} {d : Nat → Nat} {p : Nat} {pd : Nd} {H : List Hd}
theorem kidsOf_at (h : T.nodes[p]? = some (some pd)) : T.kidsOf p = pd.kids := by unfold Tr.kidsOf; rw [Tr.get_of h]
theorem tagOf_at (h : T.nodes[p]? = some (some pd)) : T.tagOf p = pd.tag := by unfold Tr.tagOf; rw [Tr.get_of h]
theorem txt_at (h : T.nodes[p]? = some (some pd)) : T.txt p = pd.text := by unfold Tr.txt; rw [Tr.get_of h]
theorem TextKid.of (hw : WF T d) (hp : T.nodes[p]? = some (some pd)) {x : Int} (hx : x ∈ T.kidsOf p) (ht : T.tagOf x = 0) : ∃ (j : Nat) (kd : Nd), x = (j : Int) ∧ TextKid T p j pd kd ∧ T.txt x = kd.text ∧ T.look x = kd := by
  rw [kidsOf_at hp] at hx
  obtain ⟨j, kd, rfl, h1, h2⟩ := (hw.kids p pd hp).2 x hx
  rw [tagOf_at h1] at ht
  exact ⟨j, kd, rfl, ⟨hp, h1, h2, hx, ht⟩, txt_at h1, look_of h1⟩
theorem goneH_is {j : Nat} {kd : Nd} (h : TextKid T p j pd kd) (hw : WF T d) (hm : mayH T H) :
    (H.map (moved (remP (T.unlink p j pd kd) j (T.up j) (T.idx j)))).map (moved (dropP ((T.unlink p j pd kd).allOf j))) = goneH T H p (j : Int) := by
  obtain ⟨h1, h2, h3, h4⟩ := h.ne hw
  have hw1 := hw.unlink h.up h.at_ h.par
  have hj1 : (T.unlink p j pd kd).nodes[j]? = some (some { kd with parent := -1 }) := by rw [unlink_get h.up h.at_, if_pos rfl]
  have hup : T.up j = p := by rw [Tr.up_some (Tr.get_of h.at_), h.par]
  have hall : (T.unlink p j pd kd).allOf j = [(j : Int)] := by
    unfold Tr.allOf
    rw [Tr.get_of hj1]
    show (T.unlink p j pd kd).pre j = _
    rw [hw1.pre_step]
    rw [kidsOf_at hj1]
    show (j : Int) :: List.flatMap _ kd.kids = _
    rw [h4]
    rfl
  rw [hall, hup]
  unfold goneH
  rw [List.map_map]
  refine List.map_congr_left fun x hx => ?_
  show moved _ (moved _ x) = moved _ x
  by_cases h0 : x.off = 0
  · have hmx := hm x hx h0
    obtain ⟨nd, hnd⟩ := may_got' hmx
    obtain ⟨q, hq, hqn⟩ := nat_of hnd
    have hgot : ∃ nd', (T.unlink p j pd kd).get? x.node = some nd' := by
      rw [hq, get_nat, unlink_get h.up h.at_]
      by_cases e1 : q = j
      · rw [if_pos e1]; exact ⟨_, rfl⟩
      · rw [if_neg e1]
        by_cases e2 : q = p
        · rw [if_pos e2]; exact ⟨_, rfl⟩
        · rw [if_neg e2, hqn]; exact ⟨_, rfl⟩
    have hwin : (T.unlink p j pd kd).win x.node j = true ↔ x.node = (j : Int) := by
      rw [hw1.win_within _ hgot]
      obtain ⟨nd', hnd'⟩ := hgot
      rw [hq] at hnd' ⊢
      rw [get_nat] at hnd'
      have hnd2 : (T.unlink p j pd kd).nodes[q]? = some (some nd') := by
        cases hh : (T.unlink p j pd kd).nodes[q]? with
        | none => rw [hh] at hnd'; cases hnd'
        | some z => rw [hh] at hnd'; exact congrArg some hnd'
      constructor
      · intro e
        rcases hw1.within_kid hj1 q nd' hnd2 e with e2 | ⟨k, hk, _⟩
        · rw [e2]
        · have hk' : k ∈ kd.kids := hk
          rw [h4] at hk'
          cases hk'
      · intro e
        have e2 : q = j := by omega
        subst e2
        exact hw1.within_self hj1
    have m1 : ∀ f, moved f x = ⟨(f x.node x.at').1, (f x.node x.at').2, 0⟩ := fun f => by unfold moved; rw [if_pos h0]
    have m2 : ∀ (f : Int → Int → Int × Int) (n a : Int), moved f ⟨n, a, 0⟩ = ⟨(f n a).1, (f n a).2, 0⟩ := fun f n a => by unfold moved; rw [if_pos rfl]
    rw [m1, m1, m2]
    by_cases e : x.node = (j : Int)
    · have a1 : remP (T.unlink p j pd kd) j p (T.idx j) x.node x.at' = ((p : Int), T.idx j) := if_pos (hwin.2 e)
      have a2 : goneL [(j : Int)] p (T.idx j) x.node x.at' = ((p : Int), T.idx j) := if_pos (by rw [e]; exact List.mem_singleton.2 rfl)
      have a3 : dropP [(j : Int)] p (T.idx j) = ((p : Int), T.idx j) := if_neg (by rw [List.mem_singleton]; omega)
      rw [a1, a2, a3]
    · have a1 : remP (T.unlink p j pd kd) j p (T.idx j) x.node x.at' = (x.node, remA x.node x.at' p (T.idx j)) := if_neg (fun e2 => e (hwin.1 e2))
      have a2 : goneL [(j : Int)] p (T.idx j) x.node x.at' = (x.node, remA x.node x.at' p (T.idx j)) := if_neg (by rw [List.mem_singleton]; exact e)
      have a3 : ∀ a, dropP [(j : Int)] x.node a = (x.node, a) := fun a => if_neg (by rw [List.mem_singleton]; exact e)
      rw [a1, a2, a3]
  · have e1 : ∀ f, moved f x = x := fun f => by unfold moved; rw [if_neg h0]
    rw [e1, e1, e1]
theorem gone_live {x : Int} (hS : StOk T H) (hl : H.length ≤ 100000) (hp : T.nodes[p]? = some (some pd)) (hx : x ∈ T.kidsOf p) (ht : T.tagOf x = 0) : ∃ (T1 : Tr) (H1 : List Hd), StOk (goneT T p x) (goneH T H p x) ∧ (goneH T H p x).length = H.length ∧
    (∃ pd', (goneT T p x).nodes[p]? = some (some pd') ∧ pd'.tag = pd.tag ∧ pd'.kids = pd.kids.erase x) ∧
    (∀ (w : World) (own : Ow) (ptr : Nat → Nat) (lb tb : Nat) (hv : Value) (hb : Option Nat), LiveAt w own ptr lb tb T hv hb H → Calls Tryz.prog 70 #[.pointer (some ⟨lb, 0, none⟩), .int .i64 x] w (LErr own lb tb hb w 0 T1 H1)) ∧
    (∀ (w : World) (own : Ow) (ptr : Nat → Nat) (lb tb : Nat) (hv : Value) (hb : Option Nat), LiveAt w own ptr lb tb T1 hv hb H1 → Calls Tryz.prog 71 #[.pointer (some ⟨lb, 0, none⟩), .int .i64 x] w (LErr own lb tb hb w 0 (goneT T p x) (goneH T H p x))) := by
  obtain ⟨⟨d, hw⟩, hat⟩ := hS.good
  obtain ⟨j, kd, rfl, hk, h1, h2⟩ := TextKid.of hw hp hx ht
  obtain ⟨H1, H2, hG1, hG2, hS2, hl2, hso, hH2, p1, p2⟩ := hk.live hS hl
  rw [goneH_is hk hw hS.may] at hH2
  have e : goneT T p (j : Int) = T.without p j pd kd := by
    unfold goneT
    rw [h2, look_of hp]
    rfl
  rw [hH2] at p2 hl2 hS2
  rw [e]
  obtain ⟨n1, n2, n3, n4⟩ := hk.ne hw
  refine ⟨_, _, hS2, hl2, ⟨{ pd with kids := pd.kids.erase (j : Int) }, ?_, rfl, rfl⟩, p1, p2⟩
  exact (hk.gone hw p _).2 ⟨n1, by rw [unlink_get hk.up hk.at_, if_neg n1, if_pos rfl]⟩
theorem join_live {x y : Int} (hS : StOk T H) (hl : H.length ≤ 50000) (hp : T.nodes[p]? = some (some pd)) (hx : x ∈ T.kidsOf p) (hy : y ∈ T.kidsOf p) (hxy : x ≠ y) (ht : T.tagOf x = 0) (ht2 : T.tagOf y = 0) (hz : (T.txt x).size + (T.txt y).size ≤ 8192) :
    StOk (joinT T p x y) (joinH T H p x y) ∧ (joinH T H p x y).length = H.length ∧
    (∃ pd', (joinT T p x y).nodes[p]? = some (some pd') ∧ pd'.tag = pd.tag ∧ pd'.kids = pd.kids.erase y) ∧
    (∀ (w : World) (own : Ow) (ptr : Nat → Nat) (lb tb : Nat) (hv : Value) (hb : Option Nat), LiveAt w own ptr lb tb T hv hb H →
        Calls Tryz.prog 138 #[.pointer (some ⟨lb, 0, none⟩), .int .i64 x, .int .i64 y] w (JoinIs own lb tb hb w (joinT T p x y) (joinH T H p x y))) := by
  obtain ⟨⟨d, hw⟩, hat⟩ := hS.good
  obtain ⟨i, nd, rfl, hi, i1, i2⟩ := TextKid.of hw hp hx ht
  obtain ⟨j, kd, rfl, hk, h1, h2⟩ := TextKid.of hw hp hy ht2
  obtain ⟨n1, n2, n3, n4⟩ := hk.ne hw
  obtain ⟨m1, m2, m3, m4⟩ := hi.ne hw
  have hij : i ≠ j := fun e => hxy (by rw [e])
  obtain ⟨hS3, p3⟩ := pJoin_yes hk hi hij hS hl (by rw [← i1, ← h1]; exact hz)
  have e : joinT T p (i : Int) (j : Int) = T.joinText p i j pd nd kd := by
    unfold joinT
    rw [h2, i2, look_of hp]
    rfl
  have e2 : joinH T H p (i : Int) (j : Int) = H.map (moved (joinP i j (runes nd.text : Int) p (T.idx j))) := by
    unfold joinH
    rw [i1]
  rw [e, e2]
  refine ⟨hS3, by simp, ⟨{ pd with kids := pd.kids.erase (j : Int) }, ?_, rfl, rfl⟩, p3⟩
  have h9 : (T.without p j pd kd).nodes[p]? = some (some { pd with kids := pd.kids.erase (j : Int) }) := (hk.gone hw p _).2 ⟨n1, by rw [unlink_get hk.up hk.at_, if_neg n1, if_pos rfl]⟩
  show ((T.without p j pd kd).nodes.set i _)[p]? = _
  rw [List.getElem?_set, if_neg (by omega)]
  exact h9
theorem normStep_ok {i i' : Nat} {T' : Tr} {H' : List Hd} (hS : StOk T H) (hl : H.length ≤ 50000) (hp : T.nodes[p]? = some (some pd)) (h : normStep T H p i = some (T', H', i')) :
    StOk T' H' ∧ H'.length = H.length ∧ (∃ pd', T'.nodes[p]? = some (some pd') ∧ pd'.tag = pd.tag) ∧ (T'.kidsOf p).length - i' < (T.kidsOf p).length - i := by
  obtain ⟨⟨d, hw⟩, hat⟩ := hS.good
  have hno := (hw.kids p pd hp).1
  have same : ∀ {x : Int}, (T.kidsOf p)[i]? = some x → (T, H, i + 1) = (T', H', i') → StOk T' H' ∧ H'.length = H.length ∧ (∃ pd', T'.nodes[p]? = some (some pd') ∧ pd'.tag = pd.tag) ∧ (T'.kidsOf p).length - i' < (T.kidsOf p).length - i := fun hx e => by
    cases e
    have := (List.getElem?_eq_some_iff.1 hx).1
    exact ⟨hS, rfl, ⟨pd, hp, rfl⟩, by omega⟩
  have hgone : ∀ {x : Int} {j : Nat}, (T.kidsOf p)[j]? = some x → i ≤ j → T.tagOf x = 0 → (goneT T p x, goneH T H p x, i) = (T', H', i') → StOk T' H' ∧ H'.length = H.length ∧ (∃ pd', T'.nodes[p]? = some (some pd') ∧ pd'.tag = pd.tag) ∧ (T'.kidsOf p).length - i' < (T.kidsOf p).length - i := fun hx hj ht e => by
    cases e
    have := (List.getElem?_eq_some_iff.1 hx).1
    have hm := List.mem_of_getElem? hx
    obtain ⟨_, _, a1, a2, ⟨pd', a3, a4, a5⟩, _⟩ := gone_live hS (by omega) hp hm ht
    refine ⟨a1, a2, ⟨pd', a3, a4⟩, ?_⟩
    rw [kidsOf_at a3, a5]
    rw [kidsOf_at hp] at this hm ⊢
    rw [List.length_erase_of_mem hm]
    omega
  unfold normStep at h
  cases hx : (T.kidsOf p)[i]? with
  | none => rw [hx] at h; cases h
  | some x =>
    rw [hx] at h
    simp only at h
    by_cases c1 : T.tagOf x ≠ 0
    · rw [if_pos c1] at h
      exact same hx (Option.some.inj h)
    · rw [if_neg c1] at h
      by_cases c2 : (T.txt x).size = 0
      · rw [if_pos c2] at h
        exact hgone hx (Nat.le_refl _) (by omega) (Option.some.inj h)
      · rw [if_neg c2] at h
        cases hy : (T.kidsOf p)[i + 1]? with
        | none =>
          rw [hy] at h
          exact same hx (Option.some.inj h)
        | some y =>
          rw [hy] at h
          simp only at h
          by_cases c3 : T.tagOf y ≠ 0
          · rw [if_pos c3] at h
            exact same hx (Option.some.inj h)
          · rw [if_neg c3] at h
            by_cases c4 : (T.txt y).size = 0
            · rw [if_pos c4] at h
              exact hgone hy (by omega) (by omega) (Option.some.inj h)
            · rw [if_neg c4] at h
              by_cases c5 : (T.txt x).size + (T.txt y).size ≤ 8192
              · rw [if_pos c5] at h
                have hxy : x ≠ y := by
                  intro e
                  rw [kidsOf_at hp] at hx hy
                  subst e
                  obtain ⟨l1, g1⟩ := List.getElem?_eq_some_iff.1 hx
                  obtain ⟨l2, g2⟩ := List.getElem?_eq_some_iff.1 hy
                  exact List.pairwise_iff_getElem.1 hno i (i + 1) l1 l2 (Nat.lt_succ_self i) (g1.trans g2.symm)
                have e := Option.some.inj h
                cases e
                have := (List.getElem?_eq_some_iff.1 hx).1
                have hm := List.mem_of_getElem? hy
                obtain ⟨a1, a2, ⟨pd', a3, a4, a5⟩, _⟩ := join_live hS hl hp (List.mem_of_getElem? hx) hm hxy (by omega) (by omega) c5
                refine ⟨a1, a2, ⟨pd', a3, a4⟩, ?_⟩
                rw [kidsOf_at a3, a5]
                rw [kidsOf_at hp] at this hm ⊢
                rw [List.length_erase_of_mem hm]
                omega
              · rw [if_neg c5] at h
                exact same hx (Option.some.inj h)
theorem normRun_zero {i : Nat} (n : Nat) (h : (T.kidsOf p).length ≤ i) : normRun p n T H i = (T, H) := by
  cases n with
  | zero => rfl
  | succ n =>
    show (match normStep T H p i with | none => (T, H) | some (T', H', i') => normRun p n T' H' i') = _
    unfold normStep
    rw [List.getElem?_eq_none h]
theorem normRun_ok : ∀ (n : Nat) {T : Tr} {H : List Hd} {pd : Nd} {i : Nat}, StOk T H → H.length ≤ 50000 → T.nodes[p]? = some (some pd) → StOk (normRun p n T H i).1 (normRun p n T H i).2 ∧ (normRun p n T H i).2.length = H.length ∧ ∃ pd', (normRun p n T H i).1.nodes[p]? = some (some pd') ∧ pd'.tag = pd.tag
  | 0, T, H, pd, i, hS, hl, hp => ⟨hS, rfl, pd, hp, rfl⟩
  | n + 1, T, H, pd, i, hS, hl, hp => by
    show StOk (match normStep T H p i with | none => (T, H) | some (T', H', i') => normRun p n T' H' i').1 (match normStep T H p i with | none => (T, H) | some (T', H', i') => normRun p n T' H' i').2 ∧ _
    cases h : normStep T H p i with
    | none => 
      have e : normRun p (n + 1) T H i = (T, H) := by
        show (match normStep T H p i with | none => (T, H) | some (T', H', i') => normRun p n T' H' i') = _
        rw [h]
      rw [e]
      exact ⟨hS, rfl, pd, hp, rfl⟩
    | some s =>
      obtain ⟨T', H', i'⟩ := s
      obtain ⟨a1, a2, ⟨pd', a3, a4⟩, a5⟩ := normStep_ok hS hl hp h
      obtain ⟨b1, b2, pd2, b3, b4⟩ := normRun_ok n (i := i') a1 (by omega) a3
      have e : normRun p (n + 1) T H i = normRun p n T' H' i' := by
        show (match normStep T H p i with | none => (T, H) | some (T', H', i') => normRun p n T' H' i') = _
        rw [h]
      rw [e]
      exact ⟨b1, b2.trans a2, pd2, b3, b4.trans a4⟩
end
theorem least_ex {R : Nat → Prop} : ∀ n, R n → ∃ m, R m ∧ m ≤ n ∧ ∀ k, R k → m ≤ k := by
  intro n
  induction n using Nat.strongRecOn with
  | ind n ih =>
    intro h
    by_cases c : ∃ k, k < n ∧ R k
    · obtain ⟨k, hk, hR⟩ := c
      obtain ⟨m, h1, h2, h3⟩ := ih k hk hR
      exact ⟨m, h1, by omega, h3⟩
    · exact ⟨n, h, Nat.le_refl _, fun k hk => Nat.le_of_not_lt fun e => c ⟨k, e, hk⟩⟩
noncomputable def leastN (R : Nat → Prop) : Nat := Classical.epsilon fun m => R m ∧ ∀ k, R k → m ≤ k
theorem leastN_is {R : Nat → Prop} {n : Nat} (h : R n) : R (leastN R) ∧ leastN R ≤ n := by
  obtain ⟨m, h1, h2, h3⟩ := least_ex n h
  have h4 : R (leastN R) ∧ ∀ k, R k → leastN R ≤ k := Classical.epsilon_spec (p := fun m => R m ∧ ∀ k, R k → m ≤ k) ⟨m, h1, h3⟩
  exact ⟨h4.1, h4.2 n h⟩
def IntsNew (l : List Int) (w : World) (e : Ending) (w' : World) : Prop :=
  ∃ ao cap, e = .returned (.slice ao l.length cap) ∧ l.length ≤ cap ∧ (l ≠ [] → ∃ g, ao = some ⟨g, 0, none⟩ ∧ w.heap.size ≤ g ∧ g < w'.heap.size ∧ (∀ (j : Nat) x, l[j]? = some x → w'.cell? ⟨g, j, none⟩ = some (.int .i64 x)) ∧ ∃ cur, w'.heap[g]? = some (.cells cur 3 (0, 0))) ∧ Ext w w'
theorem IntsNew.of_row {l : List Int} {w w' : World} {e : Ending} (h : RRow 3 1 l.length (l.map (Value.int .i64)) w e w') : IntsNew l w e w' := by
  obtain ⟨v, rfl, hr, hx⟩ := h
  rcases hr.2 with ⟨h0, a, rfl⟩ | ⟨g, cap, cur, rfl, h2, h3, h4, h5, h6, h7⟩
  · exact ⟨a, 0, by rw [h0], by omega, fun hn => absurd (List.eq_nil_of_length_eq_zero h0) hn, hx⟩
  · refine ⟨_, cap, rfl, h4, fun _ => ⟨g, rfl, h2, (Array.getElem?_eq_some_iff.1 h3).1, fun j x hj => cellOf h3 ?_, _, h3⟩, hx⟩
    have hl := (List.getElem?_eq_some_iff.1 hj).1
    have e : (cur.toList.take (l.length * 1))[j]? = some (Value.int .i64 x) := by rw [h7, List.getElem?_map, hj]; rfl
    rw [List.getElem?_take_of_lt (by omega)] at e
    simpa using e
theorem kids_new {w : World} {own : Ow} {ptr : Nat → Nat} {tb : Nat} {T : Tr} (hT : TreeAt w own ptr tb T) {p : Nat} {pd : Nd} (h : T.nodes[p]? = some (some pd)) (hl : pd.kids.length ≤ 60000) :
    Calls Tryz.prog 32 #[.pointer (some ⟨tb, 0, none⟩), .int .i64 p] w (IntsNew pd.kids w) :=
  (Kids_some hT (Tr.get_of h) hl).mono fun e w' hh => IntsNew.of_row hh
theorem tag_of {w : World} {own : Ow} {ptr : Nat → Nat} {tb : Nat} {T : Tr} (hT : TreeAt w own ptr tb T) (k : Int) : Calls Tryz.prog 47 #[.pointer (some ⟨tb, 0, none⟩), .int .i64 k] w (RVal (.int .i64 (T.tagOf k)) w) := by
  unfold Tr.tagOf
  cases hg : T.get? k with
  | none => exact RSame.ext (Tag_none hT hg)
  | some nd => exact RSame.ext (Tag_some hT hg)
theorem etxt_none {s : ByteArray} (h : s.size = 0) : (s.toList == ([] : List UInt8)) = true := by rw [ByteArray.toList_eq, show s.data.toList = [] from List.eq_nil_of_length_eq_zero h]; rfl
theorem etxt_some {s : ByteArray} (h : ¬ s.size = 0) : (s.toList == ([] : List UInt8)) = false := by
  rw [ByteArray.toList_eq, beq_eq_false_iff_ne]
  intro e
  exact h (by show s.data.toList.length = 0; rw [e]; rfl)
theorem txt_small {T : Tr} (hG : GoodT T) (x : Int) : (T.txt x).size ≤ 8192 := by
  unfold Tr.txt
  cases hg : T.get? x with
  | none => exact Nat.zero_le _
  | some nd =>
    obtain ⟨j, rfl, hj⟩ := nat_of hg
    exact (hG.2 j nd hj).2
section
variable {own : Ow} {ptr : Nat → Nat} {lb tb p : Nat} {hb : Option Nat} {hv : Value} {w : World} {T : Tr} {H : List Hd} {pd : Nd}
def KidsAt (own : Ow) (lb tb : Nat) (hb : Option Nat) (w : World) (p : Nat) (R : Tr × List Hd) (iv : Value) (wr : World) (n : Nat) : Prop :=
  ∃ (i : Nat) (T1 : Tr) (H1 : List Hd) (pd1 : Nd), iv = .int .i64 i ∧ LK own lb tb hb w (fun _ => False) T1 H1 wr ∧ StOk T1 H1 ∧ H1.length ≤ 50000 ∧ T1.nodes[p]? = some (some pd1) ∧ pd1.kids.length - i ≤ n ∧ i ≤ 2000 ∧ normRun p n T1 H1 i = R
theorem KidsAt.next {R : Tr × List Hd} {i i' n : Nat} {T1 T2 : Tr} {H1 H2 : List Hd} {pd1 : Nd} {wr : World} {iv : Value} (hS : StOk T1 H1) (hl : H1.length ≤ 50000) (hp : T1.nodes[p]? = some (some pd1)) (hn : pd1.kids.length - i ≤ n) (hr : normRun p n T1 H1 i = R)
    (hst : normStep T1 H1 p i = some (T2, H2, i')) (hi : i < pd1.kids.length) (hiv : iv = .int .i64 i') (h2000 : i' ≤ 2000) (hk : LK own lb tb hb w (fun _ => False) T2 H2 wr) : ∃ m, m < n ∧ KidsAt own lb tb hb w p R iv wr m := by
  obtain ⟨a1, a2, ⟨pd2, a3, a4⟩, a5⟩ := normStep_ok hS hl hp hst
  rw [kidsOf_at a3, kidsOf_at hp] at a5
  cases n with
  | zero => omega
  | succ n =>
    refine ⟨n, Nat.lt_succ_self n, i', T2, H2, pd2, hiv, hk, a1, by omega, a3, by omega, h2000, ?_⟩
    rw [← hr]
    show _ = (match normStep T1 H1 p i with | none => (T1, H1) | some (T', H', i') => normRun p n T' H' i')
    rw [hst]
theorem KidsAt.measure {R : Tr × List Hd} {iv iv' : Value} {wr wr' : World} {n m : Nat} (hn : leastN (KidsAt own lb tb hb w p R iv wr) = n) (hm : m < n) (h : KidsAt own lb tb hb w p R iv' wr' m) : leastN (KidsAt own lb tb hb w p R iv' wr') < leastN (KidsAt own lb tb hb w p R iv wr) := by
  have := (leastN_is h).2
  omega
theorem pKids_any (hL : LiveAt w own ptr lb tb T hv hb H) (hS : StOk T H) (hl : H.length ≤ 50000) (hp : T.nodes[p]? = some (some pd)) :
    Calls Tryz.prog 79 #[.pointer (some ⟨lb, 0, none⟩), .int .i64 p] w (JoinIs own lb tb hb w (normKids T H p).1 (normKids T H p).2) := by
  obtain ⟨R, hR⟩ : ∃ R, normKids T H p = R := ⟨_, rfl⟩
  have HR := qh hR
  have h0 : KidsAt own lb tb hb w p R (.int .i64 0) w (T.kidsOf p).length := ⟨0, T, H, pd, rfl, LK.start0 hL, hS, hl, hp, by rw [kidsOf_at hp]; omega, by omega, hR⟩
  have H0 := qh h0
  rw [hR]
  clear hR hL hS hl hp h0
  go_enter Tryz.func79, Tryz.ntmps79
  go_wp2_with fail
  go_loopw [4] (fun iv wr => ∃ n, KidsAt own lb tb hb w p R iv wr n) (fun iv wr => leastN (KidsAt own lb tb hb w p R iv wr))
  case atStart => exact ⟨_, H0.out⟩
  case round =>
    rename World => wr
    obtain ⟨n0, hrel⟩ := hrel
    obtain ⟨n, hn⟩ : ∃ n, leastN (KidsAt own lb tb hb w p R u4 wr) = n := ⟨_, rfl⟩
    have hrel := (leastN_is hrel).1
    rw [hn] at hrel
    obtain ⟨i, T1, H1, pd1, rfl, hk, hS, hl, hp, hln, hi2, hrun⟩ := hrel
    obtain ⟨o, pt, hv1, b1, hL1⟩ := hk.live
    obtain ⟨⟨d1, hw1⟩, hat1⟩ := hS.good
    have hkl := hw1.kids_len hp
    have HN := qh hn
    have HK := qh hk
    have HS := qh hS
    have HL := qh hl
    have HP := qh hp
    have HLN := qh hln
    have HRUN := qh hrun
    have HKI := qh (fun (W : World) (y : Ext wr W) => kids_new (hL1.ext y).tree hp (by omega))
    have HKN := qh (fun (y : Int) (hy : y ∈ pd1.kids) => show 0 ≤ y by
      obtain ⟨j, kd, rfl, _⟩ := (hw1.kids p pd1 hp).2 y hy
      omega)
    have HTAG := qh (fun (W : World) (y : Ext wr W) (x : Int) => tag_of (hL1.ext y).tree x)
    have HTLD := qh (fun (W : World) (y : Ext wr W) (x : Int) => told_txt (hL1.ext y).tree x)
    have HPTR := qh (fun (W : World) (y : Ext wr W) => (hL1.ext y).ptr_)
    have r00 : wr.cell? ⟨lb, 0, none⟩ = some (.pointer (some ⟨tb, 0, none⟩)) := hL1.ptr_
    obtain ⟨ks, hks⟩ : ∃ ks, pd1.kids = ks := ⟨_, rfl⟩
    have HKS := qh hks
    rw [hks] at HKI HLN hkl HKN
    have hko : T1.kidsOf p = ks := (kidsOf_at hp).trans hks
    have HKO := qh hko
    clear hn hk hS hl hp hln hrun hL1 hw1 hat1 hks hko
    by_cases hlt : i < ks.length
    · obtain ⟨x, hx⟩ : ∃ x, ks[i]? = some x := ⟨_, List.getElem?_eq_getElem hlt⟩
      have HX := qh hx
      have HLT := qh hlt
      have HKL := qh hkl
      have e1 : decide ((i : Int) < (ks.length : Int)) = true := decide_eq_true (by omega)
      have e1n : decide (i < ks.length) = true := decide_eq_true hlt
      have hne : ks ≠ [] := fun e => by rw [e] at hlt; simp at hlt
      have HNE := qh hne
      have i0 : (0 : Int) ≤ (i : Int) := by omega
      have i1 : (i : Int) < (ks.length : Int) := by omega
      have itn : (i : Int).toNat = i := by omega
      have i2000 : (i : Int) ≤ 2000 := by omega
      have HXM := qh (show x ∈ T1.kidsOf p by rw [HKO.out]; exact List.mem_of_getElem? hx)
      have HNEXT := qh (fun (T2 : Tr) (H2 : List Hd) (i' : Nat) (hst : normStep T1 H1 p i = some (T2, H2, i')) (h2000 : i' ≤ 2000) (iv : Value) (hiv : iv = .int .i64 i') (W : World) (k : LK own lb tb hb w (fun _ => False) T2 H2 W) => KidsAt.next (R := R) (n := n) HS.out HL.out HP.out (by rw [HKS.out]; exact HLN.out) HRUN.out hst (by rw [HKS.out]; exact HLT.out) hiv h2000 k)
      have HI2 : Hid (i + 1 ≤ 2000) := qh (by omega)
      clear hx hlt hne hkl hi2
      go_upto_region 2 with (go_at_call 32; refine (HKI.out _ (Ext.refl _)).mono ?_)
      rintro e w1 ⟨ao, cap, rfl, -, -, hx1⟩
      have X1 := qh hx1
      clear hx1 r00
      go_upto_region 2 with fail
      have r00 := HPTR.out _ X1.out
      go_upto_region 4 with (go_at_call 32; refine (HKI.out _ X1.out).mono ?_)
      rintro e w2 ⟨ao2, cap2, rfl, hcp, hrow, hx2⟩
      obtain ⟨g, rfl, hg1, hg2, hcells, -⟩ := hrow HNE.out
      have XW := qh (X1.out.trans hx2)
      have HG := qh (And.intro (Nat.le_trans X1.out.size hg1) hg2)
      have HC := qh hcells
      have HCP := qh hcp
      clear r00 hx2 hg1 hg2 hcells hrow hcp e1 e1n X1
      go_upto_region 4 with fail
      obtain ⟨bv, nx, hnx⟩ : ∃ (bv : Bool) (nx : Int), (bv = false ∧ nx = -1 ∧ ∀ y, ks[i + 1]? = some y → T1.tagOf y ≠ 0) ∨ (bv = true ∧ ks[i + 1]? = some nx ∧ T1.tagOf nx = 0 ∧ 0 ≤ nx) := by
        cases hy : ks[i + 1]? with
        | none => exact ⟨false, -1, .inl ⟨rfl, rfl, fun y h => by cases h⟩⟩
        | some y =>
          by_cases c : T1.tagOf y = 0
          · exact ⟨true, y, .inr ⟨rfl, rfl, c, HKN.out y (List.mem_of_getElem? hy)⟩⟩
          · exact ⟨false, -1, .inl ⟨rfl, rfl, fun z h => by cases h; exact c⟩⟩
      have HBX := qh hnx
      have HNX : Hid ((nx = -1 ∧ ∀ y, ks[i + 1]? = some y → T1.tagOf y ≠ 0) ∨ (ks[i + 1]? = some nx ∧ T1.tagOf nx = 0 ∧ 0 ≤ nx)) := qh (hnx.imp And.right And.right)
      clear hnx
      go_cut [39] from 22 to 39 (fun v wx => v = .bool bv ∧ Ext w2 wx)
      case first =>
        cases hy : ks[i + 1]? with
        | none =>
          have hnx : bv = false := by
            rcases HBX.out with h | h
            · exact h.1
            · rw [hy] at h; cases h.2.1
          have hl9 := List.getElem?_eq_none_iff.1 hy
          have HBV := qh hnx
          have e4 : decide ((i : Int) + 1 < (ks.length : Int)) = false := decide_eq_false (by omega)
          have e4n : decide (i + 1 < ks.length) = false := decide_eq_false (by omega)
          clear hy hl9 hnx
          have r0 : ∀ v : ExtOf w2, v.val.cell? ⟨lb, 0, none⟩ = some (.pointer (some ⟨tb, 0, none⟩)) := fun v => HPTR.out _ (XW.out.trans v.ext)
          refine wp_region_ext (by kernel_rfl) (by kernel_rfl) ?_
          repeat (go_big_quiet_step (fail))
          refine wpQuiet_nil ?_
          rintro _ ⟨v, rfl⟩
          have hx9 := v.ext
          obtain ⟨w3, hw9⟩ : ∃ V, v.val = V := ⟨_, rfl⟩
          rw [hw9] at hx9 ⊢
          clear r0 hw9 
          clear v
          replace HC := qh (fun (j : Nat) (x : Int) (h : ks[j]? = some x) => hx9.cell (HC.out j x h))
          replace XW := qh (XW.out.trans hx9)
          have X23 := qh hx9
          clear hx9
          go_wp2_with fail
          go_meet
          rw [HBV.out]
          exact ⟨rfl, X23.out⟩
        | some y =>
          have hl9 := (List.getElem?_eq_some_iff.1 hy).1
          have e4 : decide ((i : Int) + 1 < (ks.length : Int)) = true := decide_eq_true (by omega)
          have e4n : decide (i + 1 < ks.length) = true := decide_eq_true hl9
          have j0 : (0 : Int) ≤ (i : Int) + 1 := by omega
          have j1 : (i : Int) + 1 < (ks.length : Int) := by omega
          have jtn : ((i : Int) + 1).toNat = i + 1 := by omega
          have HY := qh hy
          obtain ⟨ty, hty⟩ : ∃ b, (T1.tagOf y == 0) = b := ⟨_, rfl⟩
          have hnx : bv = ty := by
            rw [← hty]
            rcases HBX.out with h | h
            · rw [h.1]
              exact (beq_eq_false_iff_ne.2 (h.2.2 y hy)).symm
            · rw [h.1]
              rw [hy] at h
              rw [Option.some.inj h.2.1]
              exact (beq_iff_eq.2 h.2.2.1).symm
          have HBV := qh hnx
          clear hy hl9 hnx
          have r0 : ∀ v : ExtOf w2, v.val.cell? ⟨lb, 0, none⟩ = some (.pointer (some ⟨tb, 0, none⟩)) := fun v => HPTR.out _ (XW.out.trans v.ext)
          have rc0 : ∀ v : ExtOf w2, v.val.cell? ⟨g, i + 1, none⟩ = some (.int .i64 y) := fun v => v.ext.cell (HC.out _ _ HY.out)
          refine wp_region_ext (by kernel_rfl) (by kernel_rfl) ?_
          repeat (go_big_quiet_step ((go_at_call 47; exact inExt (HTAG.out _ (XW.out.trans (ExtOf.ext _)) _))))
          refine wpQuiet_nil ?_
          rintro _ ⟨v, rfl⟩
          have hx9 := v.ext
          obtain ⟨w3, hw9⟩ : ∃ V, v.val = V := ⟨_, rfl⟩
          rw [hw9] at hx9 ⊢
          clear r0 hw9 rc0
          clear v
          replace HC := qh (fun (j : Nat) (x : Int) (h : ks[j]? = some x) => hx9.cell (HC.out j x h))
          replace XW := qh (XW.out.trans hx9)
          have X23 := qh hx9
          clear hx9
          go_wp2_with fail
          go_meet
          rw [HBV.out]
          exact ⟨rfl, X23.out⟩
      case rest =>
        obtain ⟨rfl, x3⟩ := hcut
        rename World => w3
        replace HC := qh (fun (j : Nat) (x : Int) (h : ks[j]? = some x) => x3.cell (HC.out j x h))
        replace HG := qh (And.intro HG.out.1 (Nat.lt_of_lt_of_le HG.out.2 x3.size))
        replace XW := qh (XW.out.trans x3)
        clear x3
        go_upto_if 39 with fail
        go_cut [6] from 40 to 44 (fun v wx => v = .int .i64 nx ∧ wx = w3)
        case first =>
          rcases HBX.out with hnx | hnx
          · obtain ⟨rfl, rfl, -⟩ := hnx
            go_wp2_with fail
            go_meet
            exact ⟨rfl, rfl⟩
          · obtain ⟨rfl, hy, -⟩ := hnx
            have hl9 := (List.getElem?_eq_some_iff.1 hy).1
            have q0 := HC.out _ _ hy
            have j0 : (0 : Int) ≤ (i : Int) + 1 := by omega
            have j1 : (i : Int) + 1 < (ks.length : Int) := by omega
            have jtn : ((i : Int) + 1).toNat = i + 1 := by omega
            clear hy hl9
            go_wp2_with fail
            go_meet
            exact ⟨rfl, rfl⟩
        case rest =>
          obtain ⟨rfl, rfl⟩ := hcut
          rename World => w3
          go_upto_region 7 with fail
          by_cases c1 : T1.tagOf x ≠ 0
          · have e7 : (T1.tagOf x == 0) = false := beq_eq_false_iff_ne.2 c1
            have e7b : (T1.tagOf x != 0) = true := by simp [bne, e7]
            have HST := qh (show normStep T1 H1 p i = some (T1, H1, i + 1) by
              unfold normStep
              rw [HKO.out, HX.out]
              simp only
              rw [if_pos c1])
            clear c1
            have r0 : ∀ v : ExtOf w3, v.val.cell? ⟨lb, 0, none⟩ = some (.pointer (some ⟨tb, 0, none⟩)) := fun v => HPTR.out _ (XW.out.trans v.ext)
            have rc0 : ∀ v : ExtOf w3, v.val.cell? ⟨g, i, none⟩ = some (.int .i64 x) := fun v => v.ext.cell (HC.out _ _ HX.out)
            refine wp_region_ext (by kernel_rfl) (by kernel_rfl) ?_
            repeat (go_big_quiet_step ((go_at_call 47; exact inExt (HTAG.out _ (XW.out.trans (ExtOf.ext _)) _))))
            refine wpQuiet_nil ?_
            rintro _ ⟨v, rfl⟩
            have hx9 := v.ext
            obtain ⟨w4, hw9⟩ : ∃ V, v.val = V := ⟨_, rfl⟩
            rw [hw9] at hx9 ⊢
            clear r0 hw9 rc0
            clear v
            replace HC := qh (fun (j : Nat) (x : Int) (h : ks[j]? = some x) => hx9.cell (HC.out j x h))
            replace XW := qh (XW.out.trans hx9)
            clear hx9
            go_wp2_with fail
            go_roundw
            case rel =>
              obtain ⟨m, hm, hka⟩ := HNEXT.out _ _ _ HST.out HI2.out _ (by go_num) _ (HK.out.more XW.out)
              exact ⟨m, hka⟩
            case measure =>
              obtain ⟨m, hm, hka⟩ := HNEXT.out _ _ _ HST.out HI2.out _ (by go_num) _ (HK.out.more XW.out)
              exact KidsAt.measure HN.out hm hka
          · have h1 : T1.tagOf x = 0 := Decidable.not_not.1 c1
            have e7 : (T1.tagOf x == 0) = true := beq_iff_eq.2 h1
            have e7b : (T1.tagOf x != 0) = false := by simp [bne, e7]
            have HX0 := qh h1
            clear c1 h1
            have r0 : ∀ v : ExtOf w3, v.val.cell? ⟨lb, 0, none⟩ = some (.pointer (some ⟨tb, 0, none⟩)) := fun v => HPTR.out _ (XW.out.trans v.ext)
            have rc0 : ∀ v : ExtOf w3, v.val.cell? ⟨g, i, none⟩ = some (.int .i64 x) := fun v => v.ext.cell (HC.out _ _ HX.out)
            refine wp_region_ext (by kernel_rfl) (by kernel_rfl) ?_
            repeat (go_big_quiet_step ((go_at_call 47; exact inExt (HTAG.out _ (XW.out.trans (ExtOf.ext _)) _))))
            refine wpQuiet_nil ?_
            rintro _ ⟨v, rfl⟩
            have hx9 := v.ext
            obtain ⟨w4, hw9⟩ : ∃ V, v.val = V := ⟨_, rfl⟩
            rw [hw9] at hx9 ⊢
            clear r0 hw9 rc0
            clear v
            replace HC := qh (fun (j : Nat) (x : Int) (h : ks[j]? = some x) => hx9.cell (HC.out j x h))
            replace XW := qh (XW.out.trans hx9)
            replace HG := qh (And.intro HG.out.1 (Nat.lt_of_lt_of_le HG.out.2 hx9.size))
            clear hx9
            clear e7 e7b
            go_upto_region 9 with fail
            by_cases c2 : (T1.txt x).size = 0
            · have e9 : ((T1.txt x).toList == ([] : List UInt8)) = true := etxt_none c2
              obtain ⟨TM, HM, -, -, -, p1, p2⟩ := gone_live HS.out (Nat.le_trans HL.out (by decide)) HP.out HXM.out HX0.out
              have P1 := qh p1
              have P2 := qh p2
              have HST := qh (show normStep T1 H1 p i = some (goneT T1 p x, goneH T1 H1 p x, i) by
                unfold normStep
                rw [HKO.out, HX.out]
                simp only
                rw [if_neg (by rw [HX0.out]; decide), if_pos c2])
              clear c2 p1 p2
              have r0 : ∀ v : ExtOf w4, v.val.cell? ⟨lb, 0, none⟩ = some (.pointer (some ⟨tb, 0, none⟩)) := fun v => HPTR.out _ (XW.out.trans v.ext)
              have rc0 : ∀ v : ExtOf w4, v.val.cell? ⟨g, i, none⟩ = some (.int .i64 x) := fun v => v.ext.cell (HC.out _ _ HX.out)
              refine wp_region_ext (by kernel_rfl) (by kernel_rfl) ?_
              repeat (go_big_quiet_step ((go_at_call 49; exact inExt (HTLD.out _ (XW.out.trans (ExtOf.ext _)) _))))
              refine wpQuiet_nil ?_
              rintro _ ⟨v, rfl⟩
              have hx9 := v.ext
              obtain ⟨w5, hw9⟩ : ∃ V, v.val = V := ⟨_, rfl⟩
              rw [hw9] at hx9 ⊢
              clear r0 hw9 rc0
              clear v
              replace HC := qh (fun (j : Nat) (x : Int) (h : ks[j]? = some x) => hx9.cell (HC.out j x h))
              replace XW := qh (XW.out.trans hx9)
              replace HG := qh (And.intro HG.out.1 (Nat.lt_of_lt_of_le HG.out.2 hx9.size))
              clear hx9
              go_upto_region 10 with fail
              have HLG := qh (HK.out.grow XW.out)
              have q0 := HC.out _ _ HX.out
              go_upto_region 11 with (go_at_call 70; refine (HLG.out.call fun o q hv b hL => P1.out _ o q lb tb hv b hL).mono ?_)
              rintro e w6 ⟨rfl, hk6, hf6⟩
              have HK6 := qh hk6
              have q1 := (World.cell?_of_block (hf6 g (.inr HG.out))).trans (HC.out _ _ HX.out)
              clear q0
              clear hk6 hf6
              go_wp2_with (go_at_call 71; refine (HK6.out.call fun o q hv b hL => P2.out _ o q lb tb hv b hL).mono ?_)
              rintro e w7 ⟨rfl, hk7, hf7⟩
              have HK7 := qh (hk7.mono (L' := fun _ => False) fun b h => h.elim)
              clear hk7 hf7
              go_wp2_with fail
              go_roundw
              case rel =>
                obtain ⟨m, hm, hka⟩ := HNEXT.out _ _ _ HST.out (Nat.le_of_succ_le HI2.out) _ rfl _ HK7.out
                exact ⟨m, hka⟩
              case measure =>
                obtain ⟨m, hm, hka⟩ := HNEXT.out _ _ _ HST.out (Nat.le_of_succ_le HI2.out) _ rfl _ HK7.out
                exact KidsAt.measure HN.out hm hka
            · have e9 : ((T1.txt x).toList == ([] : List UInt8)) = false := etxt_some c2
              have HC2 := qh c2
              clear c2
              have r0 : ∀ v : ExtOf w4, v.val.cell? ⟨lb, 0, none⟩ = some (.pointer (some ⟨tb, 0, none⟩)) := fun v => HPTR.out _ (XW.out.trans v.ext)
              have rc0 : ∀ v : ExtOf w4, v.val.cell? ⟨g, i, none⟩ = some (.int .i64 x) := fun v => v.ext.cell (HC.out _ _ HX.out)
              refine wp_region_ext (by kernel_rfl) (by kernel_rfl) ?_
              repeat (go_big_quiet_step ((go_at_call 49; exact inExt (HTLD.out _ (XW.out.trans (ExtOf.ext _)) _))))
              refine wpQuiet_nil ?_
              rintro _ ⟨v, rfl⟩
              have hx9 := v.ext
              obtain ⟨w5, hw9⟩ : ∃ V, v.val = V := ⟨_, rfl⟩
              rw [hw9] at hx9 ⊢
              clear r0 hw9 rc0
              clear v
              replace HC := qh (fun (j : Nat) (x : Int) (h : ks[j]? = some x) => hx9.cell (HC.out j x h))
              replace XW := qh (XW.out.trans hx9)
              replace HG := qh (And.intro HG.out.1 (Nat.lt_of_lt_of_le HG.out.2 hx9.size))
              clear hx9
              clear e9
              go_upto_region 12 with fail
              rcases HNX.out with hnx | hnx
              · have hST : normStep T1 H1 p i = some (T1, H1, i + 1) := by
                  unfold normStep
                  rw [HKO.out, HX.out]
                  simp only
                  rw [if_neg (by rw [HX0.out]; decide), if_neg HC2.out]
                  cases hy : ks[i + 1]? with
                  | none => rfl
                  | some y =>
                    simp only
                    rw [if_pos (hnx.2 y hy)]
                have HST := qh hST
                obtain ⟨hn1, -⟩ := hnx
                subst hn1
                clear hST
                go_upto_region 15 with fail
                have r0 : ∀ v : ExtOf w5, v.val.cell? ⟨lb, 0, none⟩ = some (.pointer (some ⟨tb, 0, none⟩)) := fun v => HPTR.out _ (XW.out.trans v.ext)
                refine wp_region_ext (by kernel_rfl) (by kernel_rfl) ?_
                repeat (go_big_quiet_step (fail))
                refine wpQuiet_nil ?_
                rintro _ ⟨v, rfl⟩
                have hx9 := v.ext
                obtain ⟨w6, hw9⟩ : ∃ V, v.val = V := ⟨_, rfl⟩
                rw [hw9] at hx9 ⊢
                clear r0 hw9 
                clear v
                replace HC := qh (fun (j : Nat) (x : Int) (h : ks[j]? = some x) => hx9.cell (HC.out j x h))
                replace XW := qh (XW.out.trans hx9)
                clear hx9
                go_wp2_with fail
                go_roundw
                case rel =>
                  obtain ⟨m, hm, hka⟩ := HNEXT.out _ _ _ HST.out HI2.out _ (by go_num) _ (HK.out.more XW.out)
                  exact ⟨m, hka⟩
                case measure =>
                  obtain ⟨m, hm, hka⟩ := HNEXT.out _ _ _ HST.out HI2.out _ (by go_num) _ (HK.out.more XW.out)
                  exact KidsAt.measure HN.out hm hka
              · obtain ⟨hy, ht, hn0⟩ := hnx
                have HY := qh hy
                have HYT := qh ht
                have HYM := qh (show nx ∈ T1.kidsOf p by rw [HKO.out]; exact List.mem_of_getElem? hy)
                have e12 : decide (0 ≤ nx) = true := decide_eq_true hn0
                have r00 := HPTR.out _ XW.out
                clear hy ht
                by_cases c4 : (T1.txt nx).size = 0
                · have e13 : ((T1.txt nx).toList == ([] : List UInt8)) = true := etxt_none c4
                  obtain ⟨TM, HM, -, -, -, p1, p2⟩ := gone_live HS.out (Nat.le_trans HL.out (by decide)) HP.out HYM.out HYT.out
                  have P1 := qh p1
                  have P2 := qh p2
                  have HST := qh (show normStep T1 H1 p i = some (goneT T1 p nx, goneH T1 H1 p nx, i) by
                    unfold normStep
                    rw [HKO.out, HX.out]
                    simp only
                    rw [if_neg (by rw [HX0.out]; decide), if_neg HC2.out, HY.out]
                    simp only
                    rw [if_neg (by rw [HYT.out]; decide), if_pos c4])
                  clear c4 p1 p2
                  go_upto_region 13 with (go_at_call 49; refine (HTLD.out _ XW.out _).mono ?_)
                  rintro e w6a ⟨rfl, x6⟩
                  replace XW := qh (XW.out.trans x6)
                  clear x6 r00
                  go_upto_region 13 with fail
                  have HLG := qh (HK.out.grow XW.out)
                  go_upto_region 14 with (go_at_call 70; refine (HLG.out.call fun o q hv b hL => P1.out _ o q lb tb hv b hL).mono ?_)
                  rintro e w6 ⟨rfl, hk6, hf6⟩
                  have HK6 := qh hk6
                  clear hk6 hf6
                  go_wp2_with (go_at_call 71; refine (HK6.out.call fun o q hv b hL => P2.out _ o q lb tb hv b hL).mono ?_)
                  rintro e w7 ⟨rfl, hk7, hf7⟩
                  have HK7 := qh (hk7.mono (L' := fun _ => False) fun b h => h.elim)
                  clear hk7 hf7
                  go_wp2_with fail
                  go_roundw
                  case rel =>
                    obtain ⟨m, hm, hka⟩ := HNEXT.out _ _ _ HST.out (Nat.le_of_succ_le HI2.out) _ rfl _ HK7.out
                    exact ⟨m, hka⟩
                  case measure =>
                    obtain ⟨m, hm, hka⟩ := HNEXT.out _ _ _ HST.out (Nat.le_of_succ_le HI2.out) _ rfl _ HK7.out
                    exact KidsAt.measure HN.out hm hka
                · have e13 : ((T1.txt nx).toList == ([] : List UInt8)) = false := etxt_some c4
                  have HC4 := qh c4
                  clear c4
                  go_upto_region 15 with (go_at_call 49; refine (HTLD.out _ XW.out _).mono ?_)
                  rintro e w6 ⟨rfl, x6⟩
                  replace XW := qh (XW.out.trans x6)
                  replace HC := qh (fun (j : Nat) (x : Int) (h : ks[j]? = some x) => x6.cell (HC.out j x h))
                  replace HG := qh (And.intro HG.out.1 (Nat.lt_of_lt_of_le HG.out.2 x6.size))
                  clear x6 r00
                  go_upto_region 15 with fail
                  clear e13
                  obtain ⟨zx, hzx⟩ : ∃ z, (T1.txt x).size = z := ⟨_, rfl⟩
                  obtain ⟨zy, hzy⟩ : ∃ z, (T1.txt nx).size = z := ⟨_, rfl⟩
                  have zb : zx ≤ 8192 ∧ zy ≤ 8192 := by
                    rw [← hzx, ← hzy]
                    exact ⟨txt_small HS.out.good x, txt_small HS.out.good nx⟩
                  obtain ⟨zb1, zb2⟩ := zb
                  have HZ := qh (And.intro hzx hzy)
                  by_cases c5 : zx + zy ≤ 8192
                  · have e15 : decide ((zx : Int) + (zy : Int) ≤ 8192) = true := decide_eq_true (by omega)
                    have e15n : decide (zx + zy ≤ 8192) = true := decide_eq_true c5
                    have hxy : x ≠ nx := by
                      intro e
                      obtain ⟨⟨d1, hw1⟩, _⟩ := HS.out.good
                      have hno := (hw1.kids p pd1 HP.out).1
                      rw [HKS.out] at hno
                      have h1 := HX.out
                      have h2 := HY.out
                      rw [← e] at h2
                      obtain ⟨l1, g1⟩ := List.getElem?_eq_some_iff.1 h1
                      obtain ⟨l2, g2⟩ := List.getElem?_eq_some_iff.1 h2
                      exact List.pairwise_iff_getElem.1 hno i (i + 1) l1 l2 (Nat.lt_succ_self i) (g1.trans g2.symm)
                    obtain ⟨-, -, -, p1⟩ := join_live HS.out HL.out HP.out HXM.out HYM.out hxy HX0.out HYT.out (by rw [HZ.out.1, HZ.out.2]; exact c5)
                    have P1 := qh p1
                    have HST := qh (show normStep T1 H1 p i = some (joinT T1 p x nx, joinH T1 H1 p x nx, i) by
                      unfold normStep
                      rw [HKO.out, HX.out]
                      simp only
                      rw [if_neg (by rw [HX0.out]; decide), if_neg HC2.out, HY.out]
                      simp only
                      rw [if_neg (by rw [HYT.out]; decide), if_neg HC4.out, if_pos (by rw [HZ.out.1, HZ.out.2]; exact c5)])
                    clear c5 p1 hxy
                    have r0 : ∀ v : ExtOf w6, v.val.cell? ⟨lb, 0, none⟩ = some (.pointer (some ⟨tb, 0, none⟩)) := fun v => HPTR.out _ (XW.out.trans v.ext)
                    have rc0 : ∀ v : ExtOf w6, v.val.cell? ⟨g, i, none⟩ = some (.int .i64 x) := fun v => v.ext.cell (HC.out _ _ HX.out)
                    refine wp_region_ext (by kernel_rfl) (by kernel_rfl) ?_
                    repeat (go_big_quiet_step ((go_at_call 49; exact inExt (HTLD.out _ (XW.out.trans (ExtOf.ext _)) _))))
                    refine wpQuiet_nil ?_
                    rintro _ ⟨v, rfl⟩
                    have hx9 := v.ext
                    obtain ⟨w7, hw9⟩ : ∃ V, v.val = V := ⟨_, rfl⟩
                    rw [hw9] at hx9 ⊢
                    clear r0 hw9 rc0
                    clear v
                    replace HC := qh (fun (j : Nat) (x : Int) (h : ks[j]? = some x) => hx9.cell (HC.out j x h))
                    replace XW := qh (XW.out.trans hx9)
                    replace HG := qh (And.intro HG.out.1 (Nat.lt_of_lt_of_le HG.out.2 hx9.size))
                    clear hx9
                    have HLG := qh (HK.out.grow XW.out)
                    have q0 := HC.out _ _ HX.out
                    clear e15 e15n hzx hzy zb1 zb2
                    go_wp2_with (go_at_call 138; refine (HLG.out.call fun o q hv b hL => P1.out _ o q lb tb hv b hL).mono ?_)
                    rintro e w8 ⟨rfl, hk8, hf8⟩
                    have HK8 := qh (hk8.mono (L' := fun _ => False) fun b h => h.elim)
                    clear hk8 hf8 q0
                    go_wp2_with fail
                    go_roundw
                    case rel =>
                      obtain ⟨m, hm, hka⟩ := HNEXT.out _ _ _ HST.out (Nat.le_of_succ_le HI2.out) _ rfl _ HK8.out
                      exact ⟨m, hka⟩
                    case measure =>
                      obtain ⟨m, hm, hka⟩ := HNEXT.out _ _ _ HST.out (Nat.le_of_succ_le HI2.out) _ rfl _ HK8.out
                      exact KidsAt.measure HN.out hm hka
                  · have e15 : decide ((zx : Int) + (zy : Int) ≤ 8192) = false := decide_eq_false (by omega)
                    have e15n : decide (zx + zy ≤ 8192) = false := decide_eq_false c5
                    have HST := qh (show normStep T1 H1 p i = some (T1, H1, i + 1) by
                      unfold normStep
                      rw [HKO.out, HX.out]
                      simp only
                      rw [if_neg (by rw [HX0.out]; decide), if_neg HC2.out, HY.out]
                      simp only
                      rw [if_neg (by rw [HYT.out]; decide), if_neg HC4.out, if_neg (by rw [HZ.out.1, HZ.out.2]; exact c5)])
                    clear c5
                    have r0 : ∀ v : ExtOf w6, v.val.cell? ⟨lb, 0, none⟩ = some (.pointer (some ⟨tb, 0, none⟩)) := fun v => HPTR.out _ (XW.out.trans v.ext)
                    have rc0 : ∀ v : ExtOf w6, v.val.cell? ⟨g, i, none⟩ = some (.int .i64 x) := fun v => v.ext.cell (HC.out _ _ HX.out)
                    refine wp_region_ext (by kernel_rfl) (by kernel_rfl) ?_
                    repeat (go_big_quiet_step ((go_at_call 49; exact inExt (HTLD.out _ (XW.out.trans (ExtOf.ext _)) _))))
                    refine wpQuiet_nil ?_
                    rintro _ ⟨v, rfl⟩
                    have hx9 := v.ext
                    obtain ⟨w7, hw9⟩ : ∃ V, v.val = V := ⟨_, rfl⟩
                    rw [hw9] at hx9 ⊢
                    clear r0 hw9 rc0
                    clear v
                    replace HC := qh (fun (j : Nat) (x : Int) (h : ks[j]? = some x) => hx9.cell (HC.out j x h))
                    replace XW := qh (XW.out.trans hx9)
                    clear hx9
                    go_wp2_with fail
                    go_roundw
                    case rel =>
                      obtain ⟨m, hm, hka⟩ := HNEXT.out _ _ _ HST.out HI2.out _ (by go_num) _ (HK.out.more XW.out)
                      exact ⟨m, hka⟩
                    case measure =>
                      obtain ⟨m, hm, hka⟩ := HNEXT.out _ _ _ HST.out HI2.out _ (by go_num) _ (HK.out.more XW.out)
                      exact KidsAt.measure HN.out hm hka
    · have e1 : decide ((i : Int) < (ks.length : Int)) = false := decide_eq_false (by omega)
      have e1n : decide (i < ks.length) = false := decide_eq_false hlt
      have hRR : R = (T1, H1) := by
        rw [← HRUN.out]
        exact normRun_zero n (by rw [HKO.out]; omega)
      have HRR := qh hRR
      clear hRR hlt hi2 hkl
      go_wp2_with (go_at_call 32; refine (HKI.out _ (Ext.refl _)).mono ?_)
      rintro e w1 ⟨ao, cap, rfl, -, -, hx1⟩
      go_wp2_with fail
      go_end0
      rw [HRR.out]
      exact ⟨rfl, (HK.out.more hx1).after⟩
end
end Go.Proofs.YtfibikkcfmohjaaGreat
namespace Go.Proofs.YtfibikkcfmohjaaGreat.Lx
open Go Go.RowKit Go.BigFrame
abbrev BuF (B b : Nat) (bs : List Value) (w : World) : Prop := Lib.IsBuilderF 105 5 B b bs w
abbrev BuA (B b : Nat) (p : Value) (bs : List Value) (w : World) : Prop := Lib.BuilderAtF 105 5 B b p bs w
abbrev Kept (b : Nat) (w w' : World) : Prop := Lib.OthersKept 5 (some b) w w'
theorem infoByte : (Tryz.prog.info? 5).map (fun i => (i.zero, i.size, i.bytes)) = some (some (.int .u8 0), 1, 1) := by kernel_rfl
theorem infoBuilder : (Tryz.prog.info? 105).map (fun i => i.size) = some 2 := by kernel_rfl
theorem liesPrinter : liesAt Tryz.prog Tryz.prog.depth 105 (2 / Tryz.prog.cellsOf 105) 0 105 1 = true := by kernel_rfl
theorem copyCheck_fresh (b : Nat) (w : World) (h0 : w.cell? ⟨b, 0, none⟩ = some (.pointer none)) (hsh : w.shape? b = some (105, 2)) (hfz : w.frozen? ⟨b, 0, none⟩ = false) :
    Calls Tryz.prog 139 #[.pointer (some ⟨b, 0, none⟩)] w fun e w' => e = .returned (.tuple #[]) ∧ w' = w.setCell ⟨b, 0, none⟩ (.pointer (some ⟨b, 0, none⟩)) := by
  obtain ⟨j, hj, hjs⟩ := Option.map_eq_some_iff.1 infoBuilder
  go_enter Tryz.func139, Tryz.ntmps139
  go_wp2
  rw [Lib.run_to_unsafe w ⟨b, 0, none⟩ Tryz.underlying102 Tryz.underlying198 hj (by rw [hjs]; decide) hsh (Nat.zero_lt_succ 1)]
  simp only [Result.andThen]
  rw [Oper.upon_value]
  go_wp2
  rw [run_callFunc_extern Tryz.func173 (by kernel_rfl) (by kernel_rfl) (by kernel_rfl) (e := Extern.AbiNoEscape.same) (by kernel_rfl)]
  rw [Lib.run_noEscape]
  simp only [Result.andThen]
  rw [Oper.upon_value]
  go_wp2
  rw [Lib.run_from_unsafe w ⟨b, 0, none⟩ Tryz.underlying198 Tryz.underlying102 hj hsh liesPrinter]
  simp only [Result.andThen]
  rw [Oper.upon_value]
  go_wp2
  go_end0
  exact ⟨rfl, rfl⟩
theorem copyCheck_used (b : Nat) (w : World) (h0 : w.cell? ⟨b, 0, none⟩ = some (.pointer (some ⟨b, 0, none⟩))) :
    Calls Tryz.prog 139 #[.pointer (some ⟨b, 0, none⟩)] w fun e w' => e = .returned (.tuple #[]) ∧ w' = w := by
  obtain ⟨j, hj, _⟩ := Option.map_eq_some_iff.1 infoBuilder
  go_enter Tryz.func139, Tryz.ntmps139
  go_wp2
  rw [Lib.run_neq_ptr_same w _ Tryz.underlying102 hj]
  go_wp2
  go_end0
  exact ⟨rfl, rfl⟩
theorem copyCheck_k (B b : Nat) (bs : List Value) (w : World) (h : BuF B b bs w) :
    Calls Tryz.prog 139 #[.pointer (some ⟨b, 0, none⟩)] w fun e w' => e = .returned (.tuple #[]) ∧ (BuA B b (.pointer (some ⟨b, 0, none⟩)) bs w' ∧ Below B w w' ∧ Kept b w w') := by
  rcases h with h | h
  · refine (copyCheck_fresh b w h.cell0 h.shape h.frozen0).mono ?_
    rintro e w' ⟨rfl, rfl⟩
    exact ⟨rfl, h.used _, (Below.refl B w).setCell (p := ⟨b, 0, none⟩) h.1 _, (Lib.OthersKept.refl _ _ w).setCell ⟨b, 0, none⟩ rfl _⟩
  · refine (copyCheck_used b w h.cell0).mono ?_
    rintro e w' ⟨rfl, rfl⟩
    exact ⟨rfl, h, Below.refl B _, Lib.OthersKept.refl _ _ _⟩
theorem WriteString_k (B b : Nat) (bs : List Value) (s : ByteArray) (w : World) (h : BuF B b bs w) (hlen : bs.length + s.size ≤ 140737488355328) (hBw : B ≤ w.heap.size) :
    Calls Tryz.prog 80 #[.pointer (some ⟨b, 0, none⟩), .string s] w fun e w' => e = .returned (.tuple #[.int .i64 s.size, .nilIface]) ∧ (BuA B b (.pointer (some ⟨b, 0, none⟩)) (bs ++ Lib.strCells s) w' ∧ Below B w w' ∧ Kept b w w') := by
  obtain ⟨i0, hi, hz0, hz1, hz2⟩ := info_parts infoByte
  go_enter Tryz.func80, Tryz.ntmps80
  go_wp2_with (go_at_call 139; refine (copyCheck_k B b bs _ h).mono ?_)
  rintro e w1 ⟨rfl, h1, hb1, hk1⟩
  obtain ⟨hB, v, hbk, hown, hne⟩ := h1
  have c0 : w1.cell? ⟨b, 0, none⟩ = some (.pointer (some ⟨b, 0, none⟩)) := by rw [Lib.cell_of_heap hbk]; rfl
  have c1 : w1.cell? ⟨b, 1, none⟩ = some v := by rw [Lib.cell_of_heap hbk]; rfl
  go_wp2_with (at_builtin; refine Lib.wpList_append_own_stringF _ rfl _ _ 103 9 rfl B 5 i0 Tryz.underlying103 Tryz.underlying9 hi hz0 hz1 hz2 _ _ _ rfl hown s rfl ?c3 ?c4 ?c5 ?_)
  case c3 => unfold maxLen; omega
  case c4 => omega
  case c5 => have := hb1.size; omega
  intro v' w2 hown' hgrow _
  have hlt : b < w1.heap.size := by
    rcases Nat.lt_or_ge b w1.heap.size with h' | h'
    · exact h'
    · simp [Array.getElem?_eq_none h'] at hbk
  have hb2 : w2.heap[b]? = some (.cells #[.pointer (some ⟨b, 0, none⟩), v] 105 (0, 0)) := by
    rw [hgrow.block b hlt (fun e => hne e.symm)]
    exact hbk
  have d0 : w2.cell? ⟨b, 0, none⟩ = some (.pointer (some ⟨b, 0, none⟩)) := by rw [Lib.cell_of_heap hb2]; rfl
  have d1 : w2.cell? ⟨b, 1, none⟩ = some v := by rw [Lib.cell_of_heap hb2]; rfl
  have f1 : w2.frozen? ⟨b, 1, none⟩ = false := Lib.frozen_of_heap hb2 1
  obtain ⟨ao, n', cap, rfl⟩ : ∃ ao n' cap, v' = .slice ao n' cap := by
    rcases hown'.2 with ⟨hv, _⟩ | ⟨g, cap, cur, fz, hv, _⟩
    · exact ⟨_, _, _, hv⟩
    · exact ⟨_, _, _, hv⟩
  go_wp2
  go_ret2
  refine ⟨rfl, ?_, ?_, (hk1.grown hgrow (Lib.ownsRowF_kind hown)).setCell ⟨b, 1, none⟩ rfl _⟩
  · exact Lib.BuilderAtF.put (T := 105) (e := 5) hB hb2 (bs' := bs ++ Lib.strCells s) (by simpa [Lib.strCells_length] using hown') (by decide)
  · exact (hb1.grown hgrow (by have := hb1.size; omega) (fun k hk => (hown.lt k hk).1)).setCell (p := ⟨b, 1, none⟩) hB _
theorem cellsByte : Tryz.prog.cellsOf 5 = 1 := by kernel_rfl
theorem String_k (B b : Nat) (l : List UInt8) (w : World) (h : BuF B b (Lib.byteCells l) w) (h0 : l ≠ []) :
    Calls Tryz.prog 81 #[.pointer (some ⟨b, 0, none⟩)] w fun e w' => e = .returned (.string ⟨l.toArray⟩) ∧ Below B w w' := by
  obtain ⟨p, hp, hAt⟩ : ∃ p, (p = .pointer none ∨ p = .pointer (some ⟨b, 0, none⟩)) ∧ BuA B b p (Lib.byteCells l) w := by
    rcases h with h | h
    · exact ⟨_, .inl rfl, h⟩
    · exact ⟨_, .inr rfl, h⟩
  obtain ⟨hB, v, hbk, hown, hne⟩ := hAt
  have hl0 : l.length ≠ 0 := by simpa using h0
  rw [Lib.byteCells_length] at hown
  obtain ⟨g, cap, cur, fz, rfl, hbg, hg, hfz, hnc, hcm, hcs, htake⟩ : ∃ g cap cur fz, v = .slice (some ⟨g, 0, none⟩) l.length cap ∧ B ≤ g ∧ w.heap[g]? = some (.cells cur 5 fz) ∧ fz.2 ≤ l.length * 1 ∧ l.length ≤ cap ∧ cap ≤ maxLen ∧ cur.size = cap * 1 ∧ cur.toList.take (l.length * 1) = Lib.byteCells l := by
    rcases hown.2 with ⟨_, hz⟩ | ⟨g, cap, cur, fz, hv, r⟩
    · exact absurd hz hl0
    · exact ⟨g, cap, cur, fz, hv, r⟩
  have c1 : w.drew.cell? ⟨b, 1, none⟩ = some (.slice (some ⟨g, 0, none⟩) l.length cap) := by
    have : w.drew.heap[b]? = some (.cells #[p, .slice (some ⟨g, 0, none⟩) l.length cap] 105 (0, 0)) := hbk
    rw [Lib.cell_of_heap this]; rfl
  have hSD : (Builtin.unsafeSliceData_ #[103] 174 #[.slice (some ⟨g, 0, none⟩) l.length cap]).run Tryz.prog w.drew = .ok (.pointer (some ⟨g, 0, none⟩)) w.drew :=
    Lib.run_unsafeSliceData_row _ _ _ _ _ _ (by omega)
  have hUS : (Builtin.unsafeString_ #[174, 3] 9 #[.pointer (some ⟨g, 0, none⟩), .int .i64 l.length]).run Tryz.prog w.drew = .ok (.string ⟨l.toArray⟩) (w.drew.freeze ⟨g, 0, none⟩ l.length) := by
    refine Lib.run_unsafeString_row w.drew 174 3 9 5 Tryz.underlying174 cellsByte g cur.size (by have hg' : w.drew.heap[g]? = some (.cells cur 5 fz) := hg; simp [World.shape?, hg']) l h0 (by omega) (by unfold maxLen at hcm; omega) ?_
    intro j x hx
    have := hown.cells (g := g) rfl j (.int .u8 x.toNat) (by simp [Lib.byteCells, hx])
    exact this
  have mixed : Tryz.prog.follows .mixedOrders = true := by kernel_rfl
  go_enter Tryz.func81, Tryz.ntmps81
  go_wp2
  go_region_o
  all_goals (go_wp2; go_ret; exact ⟨rfl, Lib.below_freeze (Below.drew (Below.refl B w)) (p := ⟨g, 0, none⟩) hbg _⟩)
def Printed (B b : Nat) (l : List UInt8) (w : World) (e : Ending) (w' : World) : Prop := e = .returned (.tuple #[]) ∧ BuF B b (Lib.byteCells l) w' ∧ Below B w w' ∧ Kept b w w'
def Wrote (B b : Nat) (l : List UInt8) (w : World) (e : Ending) (w' : World) : Prop := ∃ m : Nat, e = .returned (.tuple #[.int .i64 m, .nilIface]) ∧ Printed B b l w (.returned (.tuple #[])) w'
theorem Write_any (B b : Nat) (acc : List UInt8) (s : ByteArray) (l : List UInt8) (hs : acc ++ s.data.toList = l) (w : World) (h : BuF B b (Lib.byteCells acc) w) (hlen : acc.length + s.size ≤ 140737488355328) (hBw : B ≤ w.heap.size) :
    Calls Tryz.prog 80 #[.pointer (some ⟨b, 0, none⟩), .string s] w (Wrote B b l w) :=
  (WriteString_k B b _ s w h (by rw [Lib.byteCells_length]; exact hlen) hBw).mono fun e w' hh => ⟨s.size, hh.1, rfl, by rw [← hs, Lib.byteCells_append]; exact .inr hh.2.1, hh.2.2.1, hh.2.2.2⟩
theorem unsafeString_none (w : World) (p : Option Addr) : (Builtin.unsafeString_ #[174, 3] 9 #[.pointer p, .int .i64 0]).run Tryz.prog w = .ok (.string ⟨#[]⟩) w := Lib.run_unsafeString_none _ _ _ _ p
theorem String_nil (B b : Nat) (p : Value) (w : World) (hbk : w.heap[b]? = some (.cells #[p, .slice none 0 0] 105 (0, 0))) :
    Calls Tryz.prog 81 #[.pointer (some ⟨b, 0, none⟩)] w fun e w' => e = .returned (.string ⟨#[]⟩) ∧ Below B w w' := by
  have hUS := unsafeString_none
  have c1 : w.drew.cell? ⟨b, 1, none⟩ = some (.slice none 0 0) := by
    have : w.drew.heap[b]? = some (.cells #[p, .slice none 0 0] 105 (0, 0)) := hbk
    rw [Lib.cell_of_heap this]; rfl
  have hSD : (Builtin.unsafeSliceData_ #[103] 174 #[.slice none 0 0]).run Tryz.prog w.drew = .ok (.pointer none) w.drew := rfl
  have mixed : Tryz.prog.follows .mixedOrders = true := by kernel_rfl
  go_enter Tryz.func81, Tryz.ntmps81
  go_wp2
  go_region_o
  all_goals (go_wp2; go_ret; exact ⟨rfl, Below.drew (Below.refl B w)⟩)
theorem String_noroom (B b g : Nat) (p : Value) (cur : Array Value) (w : World) (hBw : B ≤ w.heap.size) (hbk : w.heap[b]? = some (.cells #[p, .slice (some ⟨g, 0, none⟩) 0 0] 105 (0, 0))) (fz : Nat × Nat) (hg : w.heap[g]? = some (.cells cur 5 fz)) :
    Calls Tryz.prog 81 #[.pointer (some ⟨b, 0, none⟩)] w fun e w' => e = .returned (.string ⟨#[]⟩) ∧ Below B w w' := by
  have hUS := unsafeString_none
  have hlt : b < w.heap.size := (Array.getElem?_eq_some_iff.1 hbk).1
  have c1 : w.drew.cell? ⟨b, 1, none⟩ = some (.slice (some ⟨g, 0, none⟩) 0 0) := by
    have : w.drew.heap[b]? = some (.cells #[p, .slice (some ⟨g, 0, none⟩) 0 0] 105 (0, 0)) := hbk
    rw [Lib.cell_of_heap this]; rfl
  have hSD : (Builtin.unsafeSliceData_ #[103] 174 #[.slice (some ⟨g, 0, none⟩) 0 0]).run Tryz.prog w.drew = .ok (.pointer (some ⟨w.drew.heap.size, 0, none⟩)) (w.drew.alloc (.view ⟨g, 0, none⟩ 5)) :=
    Lib.run_unsafeSliceData_zero w.drew _ _ 5 Tryz.underlying174 ⟨g, 0, none⟩ 0 (5, cur.size) (by have hg' : w.drew.heap[g]? = some (.cells cur 5 fz) := hg; simp [World.shape?, hg'])
  have c2 : (w.drew.alloc (.view ⟨g, 0, none⟩ 5)).cell? ⟨b, 1, none⟩ = some (.slice (some ⟨g, 0, none⟩) 0 0) := by
    have : (w.drew.alloc (.view ⟨g, 0, none⟩ 5)).heap[b]? = _ := (Lib.alloc_old w.drew _ b hlt).trans hbk
    rw [Lib.cell_of_heap this]; rfl
  have c3 : (w.alloc (.view ⟨g, 0, none⟩ 5)).drew.cell? ⟨b, 1, none⟩ = some (.slice (some ⟨g, 0, none⟩) 0 0) := c2
  have c0 : w.cell? ⟨b, 1, none⟩ = some (.slice (some ⟨g, 0, none⟩) 0 0) := c1
  have mixed : Tryz.prog.follows .mixedOrders = true := by kernel_rfl
  go_enter Tryz.func81, Tryz.ntmps81
  go_wp2
  go_region_o
  all_goals (go_wp2; go_ret; exact ⟨rfl, (Below.drew (Below.refl B w)).alloc hBw _⟩)
theorem String_room (B b g cap : Nat) (p : Value) (w : World) (hc0 : cap ≠ 0) (hbk : w.heap[b]? = some (.cells #[p, .slice (some ⟨g, 0, none⟩) 0 cap] 105 (0, 0))) :
    Calls Tryz.prog 81 #[.pointer (some ⟨b, 0, none⟩)] w fun e w' => e = .returned (.string ⟨#[]⟩) ∧ Below B w w' := by
  have hUS := unsafeString_none
  have c1 : w.drew.cell? ⟨b, 1, none⟩ = some (.slice (some ⟨g, 0, none⟩) 0 cap) := by
    have : w.drew.heap[b]? = some (.cells #[p, .slice (some ⟨g, 0, none⟩) 0 cap] 105 (0, 0)) := hbk
    rw [Lib.cell_of_heap this]; rfl
  have hSD : (Builtin.unsafeSliceData_ #[103] 174 #[.slice (some ⟨g, 0, none⟩) 0 cap]).run Tryz.prog w.drew = .ok (.pointer (some ⟨g, 0, none⟩)) w.drew :=
    Lib.run_unsafeSliceData_row _ _ _ _ _ _ hc0
  clear hc0
  have mixed : Tryz.prog.follows .mixedOrders = true := by kernel_rfl
  go_enter Tryz.func81, Tryz.ntmps81
  go_wp2
  go_region_o
  all_goals (go_wp2; go_ret; exact ⟨rfl, Below.drew (Below.refl B w)⟩)
theorem String_any (B b : Nat) (l : List UInt8) (w : World) (h : BuF B b (Lib.byteCells l) w) (hBw : B ≤ w.heap.size) :
    Calls Tryz.prog 81 #[.pointer (some ⟨b, 0, none⟩)] w fun e w' => e = .returned (.string ⟨l.toArray⟩) ∧ Below B w w' := by
  cases l with
  | cons x r => exact String_k B b (x :: r) w h (by simp)
  | nil =>
    obtain ⟨p, hA⟩ : ∃ p, BuA B b p [] w := by
      rcases h with h | h
      · exact ⟨_, h⟩
      · exact ⟨_, h⟩
    obtain ⟨hB, v, hbk, hown, hne⟩ := hA
    rcases hown.2 with ⟨rfl, _⟩ | ⟨g, cap, cur, fz, rfl, hbg, hg, _, _, _, _, _⟩
    · exact String_nil B b p w hbk
    · by_cases hc0 : cap = 0
      · subst hc0
        exact String_noroom B b g p cur w hBw hbk fz hg
      · exact String_room B b g cap p w hc0 hbk
theorem BuF.new (w : World) (B : Nat) (h : B ≤ w.heap.size) : BuF B w.heap.size (Lib.byteCells []) (w.alloc (.cells #[.pointer none, .slice none 0 0] 105)) :=
  .inl ⟨h, .slice none 0 0, heap_alloc_new w _, ⟨rfl, .inl ⟨rfl, rfl⟩⟩, by simp [Value.ownBlock]⟩
end Go.Proofs.YtfibikkcfmohjaaGreat.Lx
namespace Go.Proofs.YtfibikkcfmohjaaGreat
open Go Go.RowKit Go.BigFrame
def normOne (s : Tr × List Hd) (x : Int) : Tr × List Hd := if (s.1.get? x).isSome ∧ s.1.tagOf x ≠ 0 then normKids s.1 s.2 x.toNat else s
def normAll (l : List Int) (s : Tr × List Hd) : Tr × List Hd := l.foldl normOne s
theorem normAll_next {l : List Int} {k : Nat} {x : Int} (h : l[k]? = some x) (s : Tr × List Hd) : normAll (l.take (k + 1)) s = normOne (normAll (l.take k) s) x := by
  unfold normAll
  rw [List.take_add_one, h, List.foldl_append]
  rfl
theorem normOne_ok {s : Tr × List Hd} (x : Int) (hS : StOk s.1 s.2) (hl : s.2.length ≤ 50000) : StOk (normOne s x).1 (normOne s x).2 ∧ (normOne s x).2.length = s.2.length := by
  unfold normOne
  by_cases c : (s.1.get? x).isSome ∧ s.1.tagOf x ≠ 0
  · rw [if_pos c]
    obtain ⟨nd, hg⟩ := Option.isSome_iff_exists.1 c.1
    obtain ⟨p, rfl, hp⟩ := nat_of hg
    rw [Int.toNat_natCast]
    obtain ⟨a1, a2, _⟩ := normRun_ok (s.1.kidsOf p).length (i := 0) hS hl hp
    exact ⟨a1, a2⟩
  · rw [if_neg c]
    exact ⟨hS, rfl⟩
theorem normAll_ok : ∀ (l : List Int) (s : Tr × List Hd), StOk s.1 s.2 → s.2.length ≤ 50000 → StOk (normAll l s).1 (normAll l s).2 ∧ (normAll l s).2.length = s.2.length
  | [], s, hS, hl => ⟨hS, rfl⟩
  | x :: l, s, hS, hl => by
    obtain ⟨a1, a2⟩ := normOne_ok x hS hl
    obtain ⟨b1, b2⟩ := normAll_ok l (normOne s x) a1 (by omega)
    exact ⟨b1, b2.trans a2⟩
theorem has_of {w : World} {own : Ow} {ptr : Nat → Nat} {tb : Nat} {T : Tr} (hT : TreeAt w own ptr tb T) (k : Int) : Calls Tryz.prog 26 #[.pointer (some ⟨tb, 0, none⟩), .int .i64 k] w (RVal (.bool (T.get? k).isSome) w) := by
  cases hg : T.get? k with
  | none => exact RSame.ext (Has_none hT hg)
  | some nd => exact RSame.ext (Has_some hT hg)
section
variable {own : Ow} {ptr : Nat → Nat} {lb tb p : Nat} {hb : Option Nat} {hv : Value} {w : World} {T : Tr} {H : List Hd}
theorem pNormalise_yes (hL : LiveAt w own ptr lb tb T hv hb H) (hS : StOk T H) (hl : H.length ≤ 50000) {id : Int} {nd : Nd} (h : T.get? id = some nd) : Calls Tryz.prog 15 #[.pointer (some ⟨lb, 0, none⟩), .int .i64 id] w (LErr own lb tb hb w 0 (normAll (T.allOf id) (T, H)).1 (normAll (T.allOf id) (T, H)).2) := by
  have HN := qh (pNone_some hL.ptr_)
  obtain ⟨⟨d, hw⟩, hat⟩ := hS.good
  have HH := qh (by
    have h9 := has_of hL.tree id
    rw [h] at h9
    exact h9)
  have HA := qh (fun (W : World) (y : Ext w W) => (All_any ((hL.ext y).tree.tat (hL.ext y).ownd) hw id).mono fun e w' hh => IntsNew.of_row hh)
  have hal := allOf_2000 hw id
  obtain ⟨l, hle⟩ : ∃ l, T.allOf id = l := ⟨_, rfl⟩
  rw [hle] at HA hal ⊢
  have HPT := qh (fun (W : World) (y : Ext w W) => (hL.ext y).ptr_)
  have HL := qh hL
  have HS := qh hS
  have HLN := qh hl
  have r00 := hL.ptr_
  clear hL hS hl h hw hat hle
  go_enter Tryz.func15, Tryz.ntmps15
  go_wp2_with (go_at_call 46; refine HN.out.mono ?_)
  rintro e w' ⟨rfl, rfl⟩
  go_wp2_with (go_at_call 26; refine HH.out.mono ?_)
  rintro e w1 ⟨rfl, x1⟩
  have X1 := qh x1
  clear x1 r00
  have r00 := HPT.out _ X1.out
  go_wp2_with (go_at_call 78; refine (HA.out _ X1.out).mono ?_)
  rintro e w2 ⟨ao, cap, rfl, hcap, hrow, hx2⟩
  have X2 := qh (X1.out.trans hx2)
  have HROW := qh hrow
  have HX12 := qh X1.out.size
  have HAL := qh hal
  clear hrow hx2 r00 hcap hal
  go_wp2_with fail
  go_loopw [25] (fun iv wr => ∃ k : Nat, k ≤ l.length ∧ iv = .int .i64 k ∧ LK own lb tb hb w (fun b => w.heap.size ≤ b ∧ b < w2.heap.size) (normAll (l.take k) (T, H)).1 (normAll (l.take k) (T, H)).2 wr ∧ ∀ b, w.heap.size ≤ b ∧ b < w2.heap.size → wr.heap[b]? = w2.heap[b]?) (fun iv _ => l.length - (intOf iv).toNat)
  case atStart => exact ⟨0, Nat.zero_le _, rfl, LK.start HL.out X2.out, fun b _ => rfl⟩
  case round =>
    rename World => wr
    obtain ⟨k, hk, rfl, hlk, hfr⟩ := hrel
    have HLK := qh hlk
    have HFR := qh hfr
    clear hlk hfr
    by_cases hlt : k < l.length
    · obtain ⟨x, hx⟩ : ∃ x, l[k]? = some x := ⟨_, List.getElem?_eq_getElem hlt⟩
      obtain ⟨g, rfl, hg1, hg2, hc, -⟩ := HROW.out (fun e => by rw [e] at hlt; simp at hlt)
      have q0 := (World.cell?_of_block (HFR.out g ⟨Nat.le_trans HX12.out hg1, hg2⟩)).trans (hc k x hx)
      obtain ⟨s, hs⟩ : ∃ s, normAll (l.take k) (T, H) = s := ⟨_, rfl⟩
      have hnext := normAll_next hx (T, H)
      rw [hs] at hnext
      have hok := normAll_ok (l.take k) (T, H) HS.out HLN.out
      rw [hs] at hok
      have HOK := qh hok
      have HNEXT := qh hnext
      replace HLK := qh (by have h9 := HLK.out; rw [hs] at h9; exact h9)
      have HHAS := qh (fun (W : World) (y : Ext wr W) => by
        obtain ⟨o, p, v, b, h1⟩ := (HLK.out.more y).live
        exact has_of h1.tree x)
      have HTAG := qh (fun (W : World) (y : Ext wr W) => by
        obtain ⟨o, p, v, b, h1⟩ := (HLK.out.more y).live
        exact tag_of h1.tree x)
      have r00 := HLK.out.ptr_
      have HLT := qh hlt
      have e1 : decide ((k : Int) < (l.length : Int)) = true := decide_eq_true (by omega)
      have e1n : decide (k < l.length) = true := decide_eq_true hlt
      have i0 : (0 : Int) ≤ (k : Int) := by omega
      have i1 : (k : Int) < (l.length : Int) := by omega
      have itn : (k : Int).toNat = k := by omega
      have i2 : (k : Int) ≤ 2000 := by have := HAL.out; omega
      clear hx hc hg1 hg2 hs hnext hok hlt hk
      have done : ∀ W, LK own lb tb hb w (fun b => w.heap.size ≤ b ∧ b < w2.heap.size) (normOne s x).1 (normOne s x).2 W → (∀ b, w.heap.size ≤ b ∧ b < w2.heap.size → W.heap[b]? = wr.heap[b]?) →
          k + 1 ≤ l.length ∧ LK own lb tb hb w (fun b => w.heap.size ≤ b ∧ b < w2.heap.size) (normAll (l.take (k + 1)) (T, H)).1 (normAll (l.take (k + 1)) (T, H)).2 W ∧ ∀ b, w.heap.size ≤ b ∧ b < w2.heap.size → W.heap[b]? = w2.heap[b]? := fun W h1 h2 =>
        ⟨HLT.out, by rw [HNEXT.out]; exact h1, fun b hb => (h2 b hb).trans (HFR.out b hb)⟩
      have HDONE := qh done
      have hin : ∀ W, Ext wr W → ∀ b, w.heap.size ≤ b ∧ b < w2.heap.size → W.heap[b]? = wr.heap[b]? := fun W y b hb => by
        obtain ⟨_, _, _, _, _, _, h3⟩ := HLK.out.out
        exact Below.block y b (h3 b hb).2.2
      have HIN := qh hin
      clear done hin
      by_cases c1 : (s.1.get? x).isSome = true
      · replace HHAS := qh (fun (W : World) (y : Ext wr W) => by
          have h9 := HHAS.out W y
          rw [c1] at h9
          exact h9)
        by_cases c2 : s.1.tagOf x ≠ 0
        · obtain ⟨nd1, hg⟩ := Option.isSome_iff_exists.1 c1
          obtain ⟨p, rfl, hp⟩ := nat_of hg
          have e8 : (s.1.tagOf (p : Int) == 0) = false := beq_eq_false_iff_ne.2 c2
          have e8b : (s.1.tagOf (p : Int) != 0) = true := by simp [bne, e8]
          have hone : normOne s (p : Int) = normKids s.1 s.2 p := by
            unfold normOne
            rw [if_pos ⟨c1, c2⟩]
            rfl
          have HONE := qh hone
          have HP := qh hp
          clear c1 c2 hg hone hp
          go_wp2_with (go_at_call 26; refine (HHAS.out _ (Ext.refl _)).mono ?_)
          rintro e w5 ⟨rfl, x5⟩
          have X5 := qh x5
          clear x5 r00 q0
          have r00 := (HLK.out.more X5.out).ptr_
          go_wp2_with (go_at_call 47; refine (HTAG.out _ X5.out).mono ?_)
          rintro e w6 ⟨rfl, x6⟩
          have X6 := qh (X5.out.trans x6)
          clear x6 r00
          have HKK := qh ((HLK.out.more X6.out).call (P := Tryz.prog) (f := 79) (args := #[.pointer (some ⟨lb, 0, none⟩), .int .i64 (p : Int)]) (v := .tuple #[]) fun o q hv b hL => pKids_any hL HOK.out.1 (by rw [HOK.out.2]; exact HLN.out) HP.out)
          go_wp2_with (go_at_call 79; refine HKK.out.mono ?_)
          rintro e w7 ⟨rfl, hk7, hf7⟩
          have HD := qh (HDONE.out w7 (by rw [HONE.out]; exact hk7) fun b hb => (hf7 b hb).trans (HIN.out _ X6.out b hb))
          clear hk7 hf7 e8 e8b
          go_wp2_with fail
          go_roundw
          case rel => exact ⟨k + 1, HD.out.1, by go_num, HD.out.2⟩
          case measure => have := HLT.out; simp [intOf]; omega
        · have h1 : s.1.tagOf x = 0 := Decidable.not_not.1 c2
          have e8 : (s.1.tagOf x == 0) = true := beq_iff_eq.2 h1
          have e8b : (s.1.tagOf x != 0) = false := by simp [bne, e8]
          have hone : normOne s x = s := by
            unfold normOne
            rw [if_neg (fun h => c2 h.2)]
          have HONE := qh hone
          clear c1 c2 h1 hone
          go_wp2_with (go_at_call 26; refine (HHAS.out _ (Ext.refl _)).mono ?_)
          rintro e w5 ⟨rfl, x5⟩
          have X5 := qh x5
          clear x5 r00 q0
          have r00 := (HLK.out.more X5.out).ptr_
          go_wp2_with (go_at_call 47; refine (HTAG.out _ X5.out).mono ?_)
          rintro e w6 ⟨rfl, x6⟩
          have X6 := qh (X5.out.trans x6)
          have HD := qh (HDONE.out w6 (by rw [HONE.out]; exact HLK.out.more X6.out) fun b hb => HIN.out _ X6.out b hb)
          clear x6 r00
          go_wp2_with fail
          go_roundw
          case rel => exact ⟨k + 1, HD.out.1, by go_num, HD.out.2⟩
          case measure => have := HLT.out; simp [intOf]; omega
      · have c1f : (s.1.get? x).isSome = false := by simpa using c1
        replace HHAS := qh (fun (W : World) (y : Ext wr W) => by
          have h9 := HHAS.out W y
          rw [c1f] at h9
          exact h9)
        have hone : normOne s x = s := by
          unfold normOne
          rw [if_neg (fun h => c1 h.1)]
        have HONE := qh hone
        clear c1 c1f hone
        go_wp2_with (go_at_call 26; refine (HHAS.out _ (Ext.refl _)).mono ?_)
        rintro e w5 ⟨rfl, x5⟩
        have X5 := qh x5
        have HD := qh (HDONE.out w5 (by rw [HONE.out]; exact HLK.out.more X5.out) fun b hb => HIN.out _ X5.out b hb)
        clear x5 r00 q0
        go_wp2_with fail
        go_roundw
        case rel => exact ⟨k + 1, HD.out.1, by go_num, HD.out.2⟩
        case measure => have := HLT.out; simp [intOf]; omega
    · have hke : k = l.length := by omega
      subst hke
      have e1 : decide ((l.length : Int) < (l.length : Int)) = false := decide_eq_false (by omega)
      have e1n : decide (l.length < l.length) = false := decide_eq_false (by omega)
      have hfin := HLK.out
      rw [List.take_length] at hfin
      have HF := qh hfin
      clear hfin hlt hk
      go_wp2_with fail
      go_ret
      exact ⟨rfl, HF.out.after⟩
end
def flatL (T : Tr) (l : List Int) : List UInt8 := l.flatMap fun x => (T.txt x).data.toList
def Tr.flat (T : Tr) (id : Int) : ByteArray := ⟨(flatL T (T.allOf id)).toArray⟩
theorem flatL_next {T : Tr} {l : List Int} {k : Nat} {x : Int} (h : l[k]? = some x) : flatL T (l.take k) ++ (T.txt x).data.toList = flatL T (l.take (k + 1)) := by
  unfold flatL
  rw [List.take_add_one, h, List.flatMap_append]
  simp
theorem flatL_len {T : Tr} (hG : GoodT T) (l : List Int) : (flatL T l).length ≤ l.length * 8192 := by
  induction l with
  | nil => exact Nat.zero_le _
  | cons x l ih =>
    have h1 := txt_small hG x
    have e : (T.txt x).data.toList.length = (T.txt x).size := rfl
    show ((T.txt x).data.toList ++ flatL T l).length ≤ (l.length + 1) * 8192
    rw [List.length_append]
    omega
theorem Lx.BuA.ext {B b : Nat} {p : Value} {l : List Value} {w w' : World} (h : Lx.BuA B b p l w) (k : Ext w w') : Lx.BuA B b p l w' := by
  obtain ⟨hB, v, hb, hown, hne⟩ := h
  refine ⟨hB, v, k.block hb, ⟨hown.1, ?_⟩, hne⟩
  rcases hown.2 with hn | ⟨g, cap, cur, fz, hv, hbg, hg, rest⟩
  · exact .inl hn
  · exact .inr ⟨g, cap, cur, fz, hv, hbg, k.block hg, rest⟩
theorem Lx.BuF.ext {B b : Nat} {l : List Value} {w w' : World} (h : Lx.BuF B b l w) (k : Ext w w') : Lx.BuF B b l w' :=
  h.elim (fun x => .inl (Lx.BuA.ext x k)) (fun x => .inr (Lx.BuA.ext x k))
theorem Lx.Kept.ofExt {b : Nat} {w w' : World} (x : Ext w w') : Lx.Kept b w w' := fun k o hk _ _ => x.block hk
theorem Lx.Kept.ints {b : Nat} {w w' : World} (h : Lx.Kept b w w') {k : Nat} {cs : Array Value} {fr : Nat × Nat} (hk : w.heap[k]? = some (.cells cs 3 fr)) (hb : k ≠ b) : w'.heap[k]? = w.heap[k]? :=
  (h k _ hk (fun e => hb (Option.some.inj e)) (fun _ _ e => by cases e)).trans hk.symm
section
variable {own : Ow} {ptr : Nat → Nat} {lb tb p : Nat} {hb : Option Nat} {hv : Value} {w : World} {T : Tr} {H : List Hd}
theorem pFlat_any (hL : LiveAt w own ptr lb tb T hv hb H) (hG : GoodT T) (id : Int) : Calls Tryz.prog 16 #[.pointer (some ⟨lb, 0, none⟩), .int .i64 id] w (RVal (.string (T.flat id)) w) := by
  have HN := qh (pNone_some hL.ptr_)
  obtain ⟨⟨d, hw⟩, hat⟩ := hG
  have hG : GoodT T := ⟨⟨d, hw⟩, hat⟩
  have HA := qh (fun (W : World) (y : Ext w W) => (All_any ((hL.ext y).tree.tat (hL.ext y).ownd) hw id).mono fun e w' hh => IntsNew.of_row hh)
  have hal := allOf_2000 hw id
  obtain ⟨l, hle⟩ : ∃ l, T.allOf id = l := ⟨_, rfl⟩
  have HFL := qh (show T.flat id = ⟨(flatL T l).toArray⟩ by unfold Tr.flat; rw [hle])
  rw [hle] at HA hal
  obtain ⟨res, hres⟩ : ∃ res, T.flat id = res := ⟨_, rfl⟩
  rw [hres] at HFL ⊢
  have HPT := qh (fun (W : World) (y : Ext w W) => (hL.ext y).ptr_)
  have HTLD := qh (fun (W : World) (y : Ext w W) (x : Int) => told_txt (hL.ext y).tree x)
  have HG := qh hG
  have BN := qh (Lx.BuF.new w w.heap.size (Nat.le_refl _))
  have XA := qh ((Ext.refl w).alloc (.cells #[.pointer none, .slice none 0 0] 105))
  obtain ⟨wA, hwA⟩ : ∃ wA : World, wA = w.alloc (.cells #[.pointer none, .slice none 0 0] 105) := ⟨_, rfl⟩
  obtain ⟨bb, hbb⟩ : ∃ b, w.heap.size = b := ⟨_, rfl⟩
  rw [← hwA] at BN XA
  rw [hbb] at BN
  have HWA := qh hwA
  have HBB := qh hbb
  clear hL hw hat hle hG hres hwA hbb
  go_enter Tryz.func16, Tryz.ntmps16
  go_wp2_with (go_at_call 46; refine HN.out.mono ?_)
  rintro e w' ⟨rfl, rfl⟩
  go_upto_region 4 with fail
  rw [← HWA.out, HBB.out]
  have r00 := HPT.out _ XA.out
  go_wp2_with (go_at_call 78; refine (HA.out _ XA.out).mono ?_)
  rintro e w2 ⟨ao, cap, rfl, hcap, hrow, hx2⟩
  have X2 := qh (XA.out.trans hx2)
  have HROW := qh hrow
  have B2 := qh (BN.out.ext hx2)
  have HAL := qh hal
  clear hrow hx2 r00 hcap hal
  go_wp2_with fail
  go_loopw [17] (fun iv wr => ∃ k : Nat, k ≤ l.length ∧ iv = .int .i64 k ∧ Ext w wr ∧ Lx.BuF bb bb (Lib.byteCells (flatL T (l.take k))) wr ∧ Lx.Kept bb w2 wr) (fun iv _ => l.length - (intOf iv).toNat)
  case atStart => exact ⟨0, Nat.zero_le _, rfl, X2.out, B2.out, Lib.OthersKept.refl _ _ _⟩
  case round =>
    rename World => wr
    obtain ⟨k, hk, rfl, hxw, hbf, hkp⟩ := hrel
    have XW := qh hxw
    have HBF := qh hbf
    have HKP := qh hkp
    clear hxw hbf hkp
    by_cases hlt : k < l.length
    · obtain ⟨x, hx⟩ : ∃ x, l[k]? = some x := ⟨_, List.getElem?_eq_getElem hlt⟩
      obtain ⟨g, rfl, hg1, hg2, hc, cur, hcur⟩ := HROW.out (fun e => by rw [e] at hlt; simp at hlt)
      have hgb : g ≠ bb := by
        have h1 := XA.out.size
        have h2 : bb < wA.heap.size := by
          have := congrArg (fun W : World => W.heap.size) HWA.out
          simp at this
          have h3 := HBB.out
          omega
        omega
      have q0 := (World.cell?_of_block (a := ⟨g, k, none⟩) (HKP.out.ints hcur hgb)).trans (hc k x hx)
      have r00 := HPT.out _ XW.out
      have HLT := qh hlt
      have HNX := qh (flatL_next (T := T) hx)
      have hlen := flatL_len HG.out (l.take k)
      have htl : (l.take k).length ≤ 2000 := by rw [List.length_take]; have := HAL.out; omega
      have hsz := XW.out.size
      rw [HBB.out] at hsz
      have hts := txt_small HG.out x
      have HWR := qh (fun (W : World) (y : Ext wr W) => Lx.Write_any bb bb (flatL T (l.take k)) (T.txt x) _ (flatL_next (T := T) hx) W (HBF.out.ext y) (by omega) (Nat.le_trans hsz y.size))
      have e1 : decide ((k : Int) < (l.length : Int)) = true := decide_eq_true (by omega)
      have e1n : decide (k < l.length) = true := decide_eq_true hlt
      have i0 : (0 : Int) ≤ (k : Int) := by omega
      have i1 : (k : Int) < (l.length : Int) := by omega
      have itn : (k : Int).toNat = k := by omega
      have i2 : (k : Int) ≤ 2000 := by have := HAL.out; omega
      clear hx hc hg1 hg2 hcur hgb hlen htl hsz hts hlt hk
      go_wp2_with (go_at_call 49; refine (HTLD.out _ XW.out x).mono ?_)
      rintro e w5 ⟨rfl, x5⟩
      have X5 := qh x5
      clear x5 r00 q0
      go_wp2_with (go_at_call 80; refine (HWR.out _ X5.out).mono ?_)
      rintro e w6 ⟨m, rfl, _, b6, x6, k6⟩
      have HD := qh (And.intro (show Ext w w6 from Below.trans (XW.out.trans X5.out) (by rw [HBB.out]; exact x6)) (And.intro b6 ((HKP.out.trans (Lx.Kept.ofExt X5.out)).trans k6)))
      clear b6 x6 k6
      go_wp2_with fail
      go_roundw
      case rel => exact ⟨k + 1, HLT.out, by go_num, HD.out⟩
      case measure => have := HLT.out; simp [intOf]; omega
    · have hke : k = l.length := by omega
      subst hke
      have e1 : decide ((l.length : Int) < (l.length : Int)) = false := decide_eq_false (by omega)
      have e1n : decide (l.length < l.length) = false := decide_eq_false (by omega)
      have hfin := HBF.out
      rw [List.take_length] at hfin
      have hsz := XW.out.size
      rw [HBB.out] at hsz
      have HS := qh (Lx.String_any bb bb _ wr hfin hsz)
      clear hfin hlt hk hsz
      go_wp2_with (go_at_call 81; refine HS.out.mono ?_)
      rintro e w5 ⟨rfl, x5⟩
      go_wp2_with fail
      go_ret
      exact ⟨by rw [HFL.out]; rfl, Below.trans XW.out (by rw [HBB.out]; exact x5)⟩
end
theorem Mv.toExt {S : Nat → Prop} {w0 w w' : World} (h0 : Ext w0 w) (h : Mv S w w') (hS : ∀ b, S b → w0.heap.size ≤ b) : Ext w0 w' :=
  ⟨h.os.trans (Below.os h0), h.tape.trans (Below.tape h0), h.output.trans (Below.output h0), Nat.le_trans (Ext.size h0) h.size,
   fun b hb => (h.rest b (Nat.lt_of_lt_of_le hb (Ext.size h0)) fun hs => absurd (hS b hs) (by omega)).trans (Below.block h0 b hb)⟩
def LvS (w : World) (fs : List Nat) (lb tb : Nat) (T : Tr) (H : List Hd) (W : World) : Prop :=
  ∃ own ptr hv hb, LiveAt W own ptr lb tb T hv hb H ∧ Ext w W ∧ (∀ b, own b ≠ none → w.heap.size ≤ b) ∧ w.heap.size ≤ lb ∧ (∀ g, hb = some g → w.heap.size ≤ g) ∧ ∀ b ∈ fs, own b = none ∧ b ≠ lb ∧ hb ≠ some b ∧ b < W.heap.size
def LvT (w : World) (fs : List Nat) (lb tb : Nat) (T : Tr) (H : List Hd) (v : Value) (W : World) (e : Ending) (W' : World) : Prop := e = .returned v ∧ LvS w fs lb tb T H W' ∧ ∀ (b : Nat) (x : Obj), b ∈ fs → W.heap[b]? = some x → W'.heap[b]? = some x
theorem LvS.ext {w W W' : World} {fs : List Nat} {lb tb : Nat} {T : Tr} {H : List Hd} (h : LvS w fs lb tb T H W) (x : Ext W W') : LvS w fs lb tb T H W' := by
  obtain ⟨own, ptr, hv, hb, h1, h2, h3, h4, h5, h6⟩ := h
  exact ⟨own, ptr, hv, hb, h1.ext x, h2.trans x, h3, h4, h5, fun b hb => ⟨(h6 b hb).1, (h6 b hb).2.1, (h6 b hb).2.2.1, Nat.lt_of_lt_of_le (h6 b hb).2.2.2 x.size⟩⟩
theorem LvS.box {w W : World} {fs : List Nat} {lb tb : Nat} {T : Tr} {H : List Hd} (h : LvS w fs lb tb T H W) (o : Obj) : LvS w (W.heap.size :: fs) lb tb T H (W.alloc o) := by
  obtain ⟨own, ptr, hv, hb, h1, h2, h3, h4, h5, h6⟩ := h
  refine ⟨own, ptr, hv, hb, h1.ext ((Ext.refl _).alloc o), h2.trans ((Ext.refl _).alloc o), h3, h4, h5, fun b hb => ?_⟩
  have hz : (W.alloc o).heap.size = W.heap.size + 1 := by simp
  rcases List.mem_cons.1 hb with rfl | hb
  · obtain ⟨n1, n2, n3⟩ := h1.new_own (Nat.le_refl _)
    exact ⟨n1, n2, n3, by omega⟩
  · exact ⟨(h6 b hb).1, (h6 b hb).2.1, (h6 b hb).2.2.1, by have := (h6 b hb).2.2.2; omega⟩
theorem LvS.after {w W W' : World} {fs : List Nat} {own : Ow} {lb tb : Nat} {hb : Option Nat} {T' : Tr} {H' : List Hd} {v : Value} {e : Ending} (hx : Ext w W) (hf : ∀ b, own b ≠ none → w.heap.size ≤ b) (hl : w.heap.size ≤ lb) (hh : ∀ g, hb = some g → w.heap.size ≤ g)
    (hfs : ∀ b ∈ fs, own b = none ∧ b ≠ lb ∧ hb ≠ some b ∧ b < W.heap.size) (he : e = .returned v) (h : LAfter own lb tb hb W T' H' W') : LvT w fs lb tb T' H' v W e W' := by
  obtain ⟨own', ptr', hv', hb', h1, h2⟩ := h
  refine ⟨he, ⟨own', ptr', hv', hb', h1, Mv.toExt hx h2.mv (fun b hb => ?_), fun b hb => ?_, hl, fun g hg => ?_, fun b hb => ?_⟩, fun b x hb hbx => ?_⟩
  · rcases hb with h | rfl | h
    · exact hf b h
    · exact hl
    · exact hh b h
  · by_cases hlt : b < W.heap.size
    · rw [h2.same b hlt] at hb; exact hf b hb
    · have := hx.size; omega
  · rcases h2.hold g hg with h | h
    · exact hh g h
    · have := hx.size; omega
  · obtain ⟨n1, n2, n3, n4⟩ := hfs b hb
    refine ⟨(h2.same b n4).trans n1, n2, fun e => ?_, Nat.lt_of_lt_of_le n4 h2.mv.size⟩
    rcases h2.hold b e with h | h
    · exact n3 h
    · omega
  · obtain ⟨n1, n2, n3, n4⟩ := hfs b hb
    exact h2.mv.block hbx (fun h => by rcases h with h | h | h; exact h n1; exact n2 h; exact n3 h)
theorem LvS.call {w W : World} {fs : List Nat} {lb tb : Nat} {T T' : Tr} {H H' : List Hd} {v : Value} {P : Program} {f : FuncId} {args : Array Value} (h : LvS w fs lb tb T H W)
    (c : ∀ own ptr hv hb, LiveAt W own ptr lb tb T hv hb H → Calls P f args W fun e w' => e = .returned v ∧ LAfter own lb tb hb W T' H' w') : Calls P f args W (LvT w fs lb tb T' H' v W) := by
  obtain ⟨own, ptr, hv, hb, h1, h2, h3, h4, h5, h6⟩ := h
  exact (c own ptr hv hb h1).mono fun e w' hh => LvS.after h2 h3 h4 h5 h6 hh.1 hh.2
theorem LvS.read {w W : World} {fs : List Nat} {lb tb : Nat} {T : Tr} {H : List Hd} {P : Program} {f : FuncId} {args : Array Value} {Q : Ending → World → Prop} (h : LvS w fs lb tb T H W)
    (c : ∀ own ptr hv hb, LiveAt W own ptr lb tb T hv hb H → Calls P f args W Q) : Calls P f args W Q := by
  obtain ⟨own, ptr, hv, hb, h1, _⟩ := h
  exact c own ptr hv hb h1
theorem RdN.bare (g : World) (t : Int) (s : ByteArray) : RdN g (.mk t [] s []) (.agg #[.int .i64 t, .slice none 0 0, .string s, .slice none 0 0]) :=
  RdN.mk' (n := .mk t [] s []) (emptyRow g) ⟨none, 0, rfl, Nat.le_refl _, Nat.zero_le _, fun _ => ⟨rfl, rfl⟩, fun a h => by cases h⟩
theorem RdN.one {g : World} {b : Nat} {t : Int} {s : ByteArray} {k : PN} {c0 c1 c2 c3 : Value} (hb : Box4 g b c0 c1 c2 c3) (hk : RdN g k (.agg #[c0, c1, c2, c3])) :
    RdN g (.mk t [] s [k]) (.agg #[.int .i64 t, .slice none 0 0, .string s, .slice (some ⟨b, 0, none⟩) 1 1]) := by
  refine RdN.mk' (n := .mk t [] s [k]) (emptyRow g) ⟨some ⟨b, 0, none⟩, 1, rfl, Nat.le_refl _, by decide, (fun h => by cases h), fun a ha j x hx => ?_⟩
  cases ha
  have hx' : [k][j]? = some x := hx
  cases j with
  | zero =>
    simp at hx'
    subst hx'
    exact ⟨c0, c1, c2, c3, hb.1, hb.2.1, hb.2.2.1, hb.2.2.2, hk⟩
  | succ j => simp at hx'
theorem okI_small {z : Int} (h : -1 ≤ z) (k : z ≤ 1000) : okI z := ⟨h, by omega⟩
def strXYZ : ByteArray := ⟨#[120, 121, 122]⟩
def exU : PN := .mk 2 [] ByteArray.empty [.mk 0 [] strXYZ []]
abbrev hostNd : Nd := ⟨1, [], ByteArray.empty, [], -1⟩
def txtU : ByteArray := anewB strXYZ
def lU : Tr := ⟨10, 5, 3, [some ⟨1, [], ByteArray.empty, [1], -1⟩, some ⟨2, [], ByteArray.empty, [2], 0⟩, some ⟨0, [], txtU, [], 1⟩]⟩
theorem lU_eq : (hostOf 10 5).grafted 0 0 hostNd exU = lU := rfl
theorem strXYZ_anew : (anewB strXYZ).size ≤ 8192 := Nat.le_trans (anewB_size strXYZ) (by decide)
theorem exU_ok : exU.ok = true := by
  have h0 : (anewB ByteArray.empty).size ≤ 8192 := Nat.le_trans (anewB_size _) (by decide)
  simp only [exU, PN.ok, PN.oks, PN.bad, PN.tag, PN.attrs, PN.kids, PN.text]
  simp [strXYZ_anew, h0]
theorem lU_wf : (∃ d, WF lU d) ∧ AttrsOk lU := by
  have hh : AttrsOk (hostOf 10 5) := fun i nd hi => by
    cases i with
    | zero => cases hi; simp [NdOk]
    | succ i => cases hi
  obtain ⟨T1, T2, T3, d1, d2, d3, i, nd, pd1, kd, h1, h2, h3⟩ := (hostOf_wf 10 5 (by omega) (by omega) (by omega) (by omega)).graft hh (p := 0) (a := 0) (pd := hostNd) rfl (by decide) (Nat.zero_le _) (n := exU) (by decide) exU_ok (by decide) (by decide)
  rw [lU_eq] at h2
  subst h2
  exact ⟨⟨d1, h3.wf1⟩, h3.ok1⟩
theorem txtU_anew : anewB txtU = txtU := by kernel_rfl
theorem empty_anew : anewB ByteArray.empty = ByteArray.empty := by kernel_rfl
theorem lU_utf : Utf lU := fun i nd hi => by
  match i, hi with
  | 0, hi => cases hi; exact empty_anew
  | 1, hi => cases hi; exact empty_anew
  | 2, hi => cases hi; exact txtU_anew
  | i + 3, hi => cases hi
theorem mayU : lU.may 2 2 = true := by kernel_rfl
def hU : List Hd := [⟨2, 2, 0⟩]
theorem hU_mem {x : Hd} (hx : x ∈ hU) : x = ⟨2, 2, 0⟩ := by simpa [hU] using hx
theorem hU_may : mayH lU hU := fun x hx _ => by
  rw [hU_mem hx]
  exact mayU
theorem hU_off : ∀ x ∈ hU, x.off = 0 ∨ x = ⟨0, 0, 1⟩ := fun x hx => by
  rw [hU_mem hx]
  exact .inl rfl
theorem lU_ok : StOk lU hU := ⟨lU_wf, hU_may, hU_off, lU_utf⟩
theorem strXYZ_eq : (strXYZ.toList == [120, 121, 122]) = true := by rw [ByteArray.toList_eq]; decide
abbrev ndU : Nd := ⟨0, [], txtU, [], 1⟩
def lU2 : Tr := lU.splitText 2 3 ndU 1
def hU2 : List Hd := hU.map (moved (cutP 2 1 3 1 (lU.idx 2)))
theorem newU : lU.newId = (3 : Nat) := by kernel_rfl
theorem runU : runes txtU = 3 := by kernel_rfl
theorem hU2_is : hU2 = [⟨3, 1, 0⟩] := by kernel_rfl
theorem hU3_is : (normAll (lU2.allOf 0) (lU2, hU2)).2 = [⟨2, 2, 0⟩] := by kernel_rfl
theorem flatU : (normAll (lU2.allOf 0) (lU2, hU2)).1.flat 0 = strXYZ := by kernel_rfl
theorem getU2 : ∃ nd, lU2.get? 0 = some nd := ⟨_, rfl⟩
theorem LvS.graft {w W : World} {fs : List Nat} {lb tb : Nat} (h : LvS w fs lb tb (hostOf 10 5) [] W) :
    Calls Tryz.prog 83 #[.pointer (some ⟨lb, 0, none⟩), .int .i64 0, .int .i64 0, .agg #[.int .i64 2, .slice none 0 0, .string ⟨#[]⟩, .slice (some ⟨W.heap.size, 0, none⟩) 1 1]] (W.alloc (.cells #[.int .i64 0, .slice none 0 0, .string strXYZ, .slice none 0 0] 34)) (LvT w fs lb tb lU [] (.tuple #[.int .i64 1, .int .i64 0]) (W.alloc (.cells #[.int .i64 0, .slice none 0 0, .string strXYZ, .slice none 0 0] 34))) := by
  have hb := heap_alloc_new W (.cells #[.int .i64 0, .slice none 0 0, .string strXYZ, .slice none 0 0] 34)
  have xa := (Ext.refl W).alloc (.cells #[.int .i64 0, .slice none 0 0, .string strXYZ, .slice none 0 0] 34)
  have hown : ∀ own ptr hv hb, LiveAt W own ptr lb tb (hostOf 10 5) hv hb [] → own W.heap.size = none := fun own ptr hv hb h => (h.new_own (Nat.le_refl _)).1
  obtain ⟨own, ptr, hv, hb', h1, h2, h3, h4, h5, h6⟩ := h
  have hob := hown own ptr hv hb' h1
  have h6' : ∀ b ∈ fs, own b = none ∧ b ≠ lb ∧ hb' ≠ some b ∧ b < (W.alloc (.cells #[.int .i64 0, .slice none 0 0, .string strXYZ, .slice none 0 0] 34)).heap.size := fun b hb => ⟨(h6 b hb).1, (h6 b hb).2.1, (h6 b hb).2.2.1, Nat.lt_of_lt_of_le (h6 b hb).2.2.2 xa.size⟩
  have h1 := h1.ext xa
  have h2 := h2.trans xa
  generalize (W.alloc (.cells #[.int .i64 0, .slice none 0 0, .string strXYZ, .slice none 0 0] 34)) = V0 at *
  have hbox : Box4 (hide own V0) W.heap.size (.int .i64 0) (.slice none 0 0) (.string strXYZ) (.slice none 0 0) :=
    ⟨hide_cell (cellOf hb rfl) hob, hide_cell (cellOf hb rfl) hob, hide_cell (cellOf hb rfl) hob, hide_cell (cellOf hb rfl) hob⟩
  have hr : RdN (hide own V0) exU (.agg #[.int .i64 2, .slice none 0 0, .string ⟨#[]⟩, .slice (some ⟨W.heap.size, 0, none⟩) 1 1]) := RdN.one hbox (RdN.bare _ 0 strXYZ)
  refine (lGraft_any h1 (Nat.zero_le _) 0 0 _ _ _ _ (i := 1) (er := 0) (T' := lU) (fun V hV => ?_) ⟨rfl, rfl, rfl, rfl⟩ (fun _ => ⟨okI_small (by decide) (by decide), okI_small (by decide) (by decide), fun x hx => by cases hx⟩)).mono fun e w' hh => LvS.after h2 h3 h4 h5 h6' hh.1 hh.2
  have hG := Graft_ok (h1.ext hV).tree (h1.ext hV).ownd (hostOf_wf 10 5 (by omega) (by omega) (by omega) (by omega)) (p := 0) (at' := 0) (pd := hostNd) rfl (by decide) (Nat.zero_le _) hr ((hide_apart own V0).ext hV) (by decide) (by decide) exU_ok (by decide) (by decide)
  exact hG.mono fun e w' hh => ⟨hh.1, lU_eq ▸ hh.2⟩
theorem LvS.held {w W : World} {fs : List Nat} {lb tb : Nat} {T : Tr} {x : Hd} (h : LvS w fs lb tb T [x] W) (ho : x.off = 0) : Calls Tryz.prog 23 #[.pointer (some ⟨lb, 0, none⟩), .int .i64 0] W (RTwo (pl x.node x.at') (.bool true) W) := by
  obtain ⟨own, ptr, hv, hb', h1, h2, h3, h4, h5, h6⟩ := h
  exact lHeld_ok h1 (i := 0) rfl ho (by simp)
theorem LvS.hold {w W : World} {fs : List Nat} {lb tb : Nat} (h : LvS w fs lb tb lU [] W) : Calls Tryz.prog 30 #[.pointer (some ⟨lb, 0, none⟩), pl 2 2] W (LvT w fs lb tb lU hU (.tuple #[.int .i64 0, .int .i64 0]) W) := by
  obtain ⟨⟨d, hw⟩, hA⟩ := lU_wf
  exact h.call fun own ptr hv hb h1 => lHold_add h1 hw hA 2 2 mayU (fun x hx => by cases hx) (Nat.zero_le _)
theorem cutU : StOk lU2 hU2 ∧ ∀ (w : World) (own : Ow) (ptr : Nat → Nat) (lb tb : Nat) (hv : Value) (hb : Option Nat), LiveAt w own ptr lb tb lU hv hb hU →
    Calls Tryz.prog 10 #[.pointer (some ⟨lb, 0, none⟩), .int .i64 2, .int .i64 1] w (LTwo own lb tb hb w 3 0 lU2 hU2) := by
  obtain ⟨m, hm, h1, h2⟩ := pSplitText_yes (T := lU) (H := hU) (i := 2) (nd := ndU) (a := 1) lU_ok (by decide) rfl rfl (by rw [runU]; decide) (by decide)
  have e : m = 3 := by
    have := hm.symm.trans newU
    omega
  subst e
  exact ⟨h1, h2⟩
theorem awake12_any (w : World) : Calls Tryz.prog 17 #[] w (RBool true w) := by
  have HN := qh (lNew_ok 10 5 (by omega) (by omega) (by omega) (by omega) w)
  obtain ⟨okU2, cU⟩ := cutU
  have OK2 := qh okU2
  have CU := qh cU
  obtain ⟨s3, hs3⟩ : ∃ s, normAll (lU2.allOf 0) (lU2, hU2) = s := ⟨_, rfl⟩
  have hok3 := normAll_ok (lU2.allOf 0) (lU2, hU2) okU2 (by rw [hU2_is]; decide)
  have h3 := hU3_is
  have hf3 := flatU
  rw [hs3] at hok3 h3 hf3
  have OK3 := qh hok3
  have H3 := qh h3
  have F3 := qh hf3
  have HS3 := qh hs3
  clear okU2 cU hok3 h3 hf3 hs3
  go_enter Tryz.func17, Tryz.ntmps17
  go_wp2_with (go_at_call 82; refine HN.out.mono ?_)
  rintro e w1 ⟨lb, tb, own, ptr, rfl, hL, hx, hlb, hf⟩
  have S1 : Hid (LvS w [] lb tb (hostOf 10 5) [] w1) := qh ⟨own, ptr, _, _, hL, hx, hf, hlb, (fun g hg => by cases hg), fun b hb => by cases hb⟩
  clear hL hx hlb hf
  have HG := qh S1.out.graft
  go_wp2_with (go_at_call 83; refine HG.out.mono ?_)
  rintro e w2 ⟨rfl, s2, -⟩
  have S2 := qh s2
  have HH := qh s2.hold
  clear s2
  go_wp2_with (go_at_call 30; refine HH.out.mono ?_)
  rintro e w3 ⟨rfl, s3', -⟩
  have S3 := qh s3'
  have HC := qh (s3'.call fun own ptr hv hb h1 => CU.out w3 own ptr lb tb hv hb h1)
  clear s3'
  go_wp2_with (go_at_call 10; refine HC.out.mono ?_)
  rintro e w4 ⟨rfl, s4, -⟩
  rw [hU2_is] at s4
  have S4 := qh s4
  have HD := qh (s4.held rfl)
  clear s4
  go_wp2_with (go_at_call 23; refine HD.out.mono ?_)
  rintro e w5 ⟨rfl, x5⟩
  have S5 := qh ((S4.out.ext x5).box (.cells #[.int .i64 3, .int .i64 1] 53))
  have hb5 := heap_alloc_new w5 (.cells #[.int .i64 3, .int .i64 1] 53)
  clear x5
  go_upto_region 8 with fail
  obtain ⟨b5, hbe5⟩ : ∃ b, w5.heap.size = b := ⟨_, rfl⟩
  obtain ⟨v5, hv5⟩ : ∃ W : World, W = w5.alloc (.cells #[.int .i64 3, .int .i64 1] 53) := ⟨_, rfl⟩
  rw [hbe5] at S5 hb5 ⊢
  rw [← hv5] at S5 hb5 ⊢
  clear hbe5 hv5
  obtain ⟨nd0, hnd0⟩ := getU2
  have HR2 := qh (S5.out.call (T' := s3.1) (H' := s3.2) fun own ptr hv hb h1 => by
    have h9 := pNormalise_yes (H := hU2) (id := 0) (hU2_is ▸ h1) OK2.out (by rw [hU2_is]; decide) hnd0
    rw [HS3.out] at h9
    exact h9)
  have HB5 := qh hb5
  clear hb5 hnd0
  go_wp2_with (go_at_call 15; refine HR2.out.mono ?_)
  rintro e w6 ⟨rfl, s6, k6⟩
  have HB6 := qh (k6 b5 _ (by simp) HB5.out)
  have S6' := qh s6
  rw [H3.out] at s6
  have S6 := qh s6
  have HD2 := qh (s6.held rfl)
  clear s6 k6
  go_wp2_with (go_at_call 23; refine HD2.out.mono ?_)
  rintro e w7 ⟨rfl, x7⟩
  have xa7 := x7.alloc (.cells #[.int .i64 2, .int .i64 2] 53)
  have S7 := qh (S6'.out.ext xa7)
  have hb7 := heap_alloc_new w7 (.cells #[.int .i64 2, .int .i64 2] 53)
  have hb67 := xa7.block HB6.out
  clear x7 xa7
  go_upto_region 10 with fail
  obtain ⟨b7, hbe7⟩ : ∃ b, w7.heap.size = b := ⟨_, rfl⟩
  obtain ⟨v7, hv7⟩ : ∃ W : World, W = w7.alloc (.cells #[.int .i64 2, .int .i64 2] 53) := ⟨_, rfl⟩
  rw [hbe7] at hb7 ⊢
  rw [← hv7] at S7 hb7 hb67 ⊢
  clear hbe7 hv7
  have c50 := cellOf hb67 (i := 0) rfl
  have c51 := cellOf hb67 (i := 1) rfl
  have c70 := cellOf hb7 (i := 0) rfl
  have c71 := cellOf hb7 (i := 1) rfl
  have HF := qh (S7.out.read fun own ptr hv hb h1 => by
    have h9 := pFlat_any h1 OK3.out.1.good 0
    rw [F3.out] at h9
    exact h9)
  have HX := qh (show Ext w v7 by obtain ⟨_, _, _, _, _, h2, _⟩ := S7.out; exact h2)
  clear hb67 hb7
  go_wp2_with (go_at_call 16; refine HF.out.mono ?_)
  rintro e w8 ⟨rfl, x8⟩
  have e9 := strXYZ_eq
  go_wp2_with fail
  go_ret
  exact ⟨rfl, HX.out.trans x8⟩
theorem nobody12_walk (w : World) : Calls Tryz.prog 3 #[] w (RBool true w) := by
  go_enter Tryz.func3, Tryz.ntmps3
  go_wp2_with (go_at_call 10; refine (pSplitText_nil 0 0 w).mono ?_)
  rintro e w1 ⟨rfl, x1⟩
  go_wp2_with (go_at_call 11; refine (pSplit_nil 0 0 w1).mono ?_)
  rintro e w2 ⟨rfl, x2⟩
  go_wp2_with (go_at_call 12; refine (pWrap_nil 0 0 0 1 none 0 0 w2).mono ?_)
  rintro e w3 ⟨rfl, x3⟩
  go_wp2_with (go_at_call 13; refine (pUnwrap_nil 0 w3).mono ?_)
  rintro e w4 ⟨rfl, x4⟩
  go_wp2_with (go_at_call 14; refine (pMove_nil 0 0 0 w4).mono ?_)
  rintro e w5 ⟨rfl, x5⟩
  go_wp2_with (go_at_call 15; refine (pNormalise_nil 0 w5).mono ?_)
  rintro e w6 ⟨rfl, x6⟩
  go_wp2_with (go_at_call 16; refine (pFlat_nil 0 w6).mono ?_)
  rintro e w7 ⟨rfl, x7⟩
  have HA := qh (awake12_any w7)
  go_wp2_with (go_at_call 17; refine HA.out.mono ?_)
  rintro e w8 ⟨rfl, x8⟩
  go_wp2_with fail
  go_ret
  exact ⟨rfl, (((((((x1.trans x2).trans x3).trans x4).trans x5).trans x6).trans x7).trans x8)⟩
end Go.Proofs.YtfibikkcfmohjaaGreat
